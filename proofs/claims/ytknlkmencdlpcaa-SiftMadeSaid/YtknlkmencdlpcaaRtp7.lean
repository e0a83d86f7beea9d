/-
What functions of package rtp find in bytes: where the payload begins, how much padding there is.
What functions look and Offset of package rtp find.
-/
import Derived.Test.YtknlkmencdlpcaaRtpG
import Derived.Test.YtknlkmencdlpcaaRtp4
namespace Go.Proofs.Ytknlkmencdlpcaa
set_option linter.unusedVariables false
set_option linter.unusedSimpArgs false
open Go Go.RowKit

theorem getN_2' (l : List UInt8) (a : Int) : getN l a 2 < 65536 := by
  unfold getN
  split
  · have := beN_lt (part l a.toNat (2 : Int).toNat)
    have h2 : (part l a.toNat (2 : Int).toNat).length ≤ 2 := by simp [part]; omega
    have : 256 ^ (part l a.toNat (2 : Int).toNat).length ≤ 256 ^ 2 := Nat.pow_le_pow_right (by omega) h2
    omega
  · omega
set_option maxHeartbeats 1000000 in
theorem ext_any (A : Option Addr) (n c : Nat) (l : List UInt8) (Z : Int) (hZ : Z = (atP l : Nat)) (w : World) (h : Bts w A n c l) (hn : 0 < n) :
    Calls Try.prog 150 #[.slice A n c, .int .i64 Z] w fun e w' => e = .returned (.tuple #[.int .i64 (extA l : Nat), .int .i64 (frmA l : Nat), .bool (decide (frmA l ≤ n))]) ∧ w' = w := by
  subst hZ
  obtain ⟨ad, rfl, c0⟩ := bts_byte h (k := 0) hn
  rw [add_zero'] at c0
  have b16 := (rtpbits _ (byteN_lt l 0)).1
  have HB := Lib.hid h
  have ha : atP l ≤ 72 := by have := nCs_lt l; unfold atP; omega
  have hg2 := getN_2' l (atP l + 2 : Nat)
  have HX : Hid (extA l = if exB l then atP l + 4 else atP l) := rfl
  have HF : Hid (frmA l = if exB l then atP l + 4 + 4 * getN l (atP l + 2 : Nat) 2 else atP l) := rfl
  have hw : withinB n ((atP l + 2 : Nat) : Int) ((2 : Nat) : Int) = decide (atP l + 4 ≤ n) := by
    rw [Bool.eq_iff_iff, withinB_iff, decide_eq_true_eq]; omega
  have HW := Lib.hid hw
  clear h hw
  have hlen : Hid (n ≤ 9223372036854775807) := by have := HB.out.cm; have := HB.out.nc; show _ ≤ _; unfold maxLen at *; omega
  cases hx : exB l
  · have hxx := hx
    unfold exB at hxx
    have e1 : (bits .and .u8 (byteN l 0 : Int) 16 == 0) = true := by rw [b16]; simp at hxx ⊢; omega
    rw [hx] at HX HF
    generalize atP l = a at *
    clear b16 hx hxx
    go_enter Try.func150, Try.ntmps150
    go_wp2
    go_ret3
    refine ⟨?_, rfl⟩
    rw [HX.out, HF.out]
    simp
  · have hxx := hx
    unfold exB at hxx
    have e1 : (bits .and .u8 (byteN l 0 : Int) 16 == 0) = false := by rw [b16]; simp at hxx ⊢; omega
    rw [hx] at HX HF
    generalize hga : atP l = a at *
    have HGA := Lib.hid hga
    have he : ((a : Nat) : Int) + 2 = ((a + 2 : Nat) : Int) := by omega
    have HE := Lib.hid he
    clear b16 hx hxx hga he
    go_enter Try.func150, Try.ntmps150
    go_wp2_with (go_at_call 120; (with_reducible refine (get_same2 (some ad) n c l _ 2 (a + 2) 2 HE.out rfl _ HB.out (by omega) (by omega)).mono ?_); rintro e w1 ⟨rfl, rfl⟩)
    all_goals
      go_ret3
      refine ⟨?_, rfl⟩
      have hF := HF.out
      rw [HX.out, hF]
      simp only [Int.natCast_add, Int.cast_ofNat_Int, if_true] at hF ⊢
      have hg := getN_2' l ((a : Int) + 2)
      generalize getN l ((a : Int) + 2) 2 = z at *
      have w1 : wrap64 (z : Int) = z := by unfold wrap64; omega
      have w2 : wrap64 (4 * (z : Int)) = 4 * z := by unfold wrap64; omega
      have w3 : wrap64 ((a : Int) + 4 + 4 * z) = a + 4 + 4 * z := by unfold wrap64; omega
      rw [w1, w2, w3]
      refine congrArg Ending.returned (congrArg Value.tuple ?_)
      congr 1
      have hw := HW.out
      simp only [Int.natCast_add, Int.cast_ofNat_Int] at hw
      simp
      first
        | omega
        | (rename_i hh; rw [hw] at hh; simp at hh; omega)
theorem zeros_step {r : List UInt8} {s j : Nat} (h : s + j < r.length) (hy : byteN r (s + j) = 0) (hz : ((r.drop s).take j).all (fun y => y == 0) = true) : ((r.drop s).take (j + 1)).all (fun y => y == 0) = true := by
  rw [List.take_succ_eq_append_getElem (by simp; omega), List.all_append, hz]
  have e : r[s + j] = 0 := by
    rw [byteN, List.getElem?_eq_getElem h] at hy
    exact UInt8.toNat_inj.1 hy
  simp [e]
theorem zeros_bad {r : List UInt8} {s j q : Nat} (h : s + j < r.length) (hy : byteN r (s + j) ≠ 0) (hq : j < q) : ((r.drop s).take q).all (fun y => y == 0) = false := by
  rw [Bool.eq_false_iff]
  intro ha
  have hj : j < ((r.drop s).take q).length := by simp; omega
  have := List.all_eq_true.1 ha _ (List.getElem_mem hj)
  simp at this
  apply hy
  rw [byteN, List.getElem?_eq_getElem h, Option.getD_some, this]
  rfl
theorem pad_no (b0 : Nat) (r : List UInt8) (h : b0 / 32 % 2 = 0) : padT b0 r = some 0 := by unfold padT; rw [if_pos h]
set_option maxRecDepth 20000 in
set_option maxHeartbeats 1000000 in
theorem padding_any (A : Option Addr) (n c : Nat) (l : List UInt8) (R : Option Addr) (m d : Nat) (r : List UInt8) (w : World) (h : Bts w A n c l) (hn : 0 < n) (hr : Bts w R m d r) :
    Calls Try.prog 151 #[.slice A n c, .slice R m d] w fun e w' => e = .returned (.tuple #[.int .i64 ((padT (byteN l 0) r).getD 0 : Nat), .bool (padT (byteN l 0) r).isSome]) ∧ w' = w := by
  obtain ⟨ad, rfl, c0⟩ := bts_byte h (k := 0) hn
  rw [add_zero'] at c0
  have b32 := (rtpbits _ (byteN_lt l 0)).2.1
  generalize hb : byteN l 0 = b0 at *
  by_cases h32 : b0 / 32 % 2 = 0
  · have hp := Lib.hid (pad_no b0 r h32)
    have e1 : (bits .and .u8 (b0 : Int) 32 == 0) = true := by rw [b32]; simp; omega
    clear b32 h32 hb h
    go_enter Try.func151, Try.ntmps151
    go_wp2
    go_ret2
    exact ⟨by rw [hp.out]; rfl, rfl⟩
  · have e1 : (bits .and .u8 (b0 : Int) 32 == 0) = false := by rw [b32]; simp; omega
    have HP : Hid (padT b0 r = if m = 0 then none else if padX r = 0 ∨ m < padX r then none else if ((r.drop (m - padX r)).take (padX r - 1)).all (fun y => y == 0) then some (padX r) else none) := by
      show _ = _; unfold padT; rw [if_neg h32, hr.len]
    clear b32 h32 hb h
    by_cases hm : m = 0
    · have HP2 : Hid (padT b0 r = none) := by show _ = _; rw [HP.out, if_pos hm]
      subst hm
      clear HP
      go_enter Try.func151, Try.ntmps151
      go_wp2
      go_ret2
      exact ⟨by rw [HP2.out]; rfl, rfl⟩
    obtain ⟨ar, rfl, cl⟩ := bts_byte hr (k := m - 1) (by omega)
    have hx255 := byteN_lt r (m - 1)
    have hX : padX r = byteN r (m - 1) := by unfold padX; rw [hr.len]
    obtain ⟨x, hx⟩ : ∃ x, byteN r (m - 1) = x := ⟨_, rfl⟩
    rw [hx] at cl hX hx255
    rw [hX] at HP
    rw [if_neg hm] at HP
    obtain ⟨k, hk⟩ : ∃ k, m = k + 1 := ⟨m - 1, by omega⟩
    have hk1 : (m : Int) - 1 = (k : Int) := by omega
    have hk2 : k < m := by omega
    have hk3 : (k : Int) < (m : Int) := by omega
    have hk4 : m - 1 = k := by omega
    have hm0 : ((m : Int) == 0) = false := by simp; omega
    rw [hk4] at cl
    have hcm := hr.cm
    have hnc := hr.nc
    unfold maxLen at hcm
    have HK := Lib.hid hk
    have HR := Lib.hid hr
    clear hX hx hk hk4 hr hm
    go_enter Try.func151, Try.ntmps151
    by_cases hx0 : x = 0
    · have HP2 : Hid (padT b0 r = none) := by show _ = _; rw [HP.out, if_pos (.inl hx0)]
      subst hx0
      clear HP
      go_wp2
      go_ret2
      exact ⟨by rw [HP2.out]; rfl, rfl⟩
    have hx0' : ((x : Int) == 0) = false := by simp; omega
    by_cases hxm : m < x
    · have HP2 : Hid (padT b0 r = none) := by show _ = _; rw [HP.out, if_pos (.inr hxm)]
      have hxm' : decide ((m : Int) < (x : Int)) = true := by simp; omega
      clear HP hx0
      go_wp2
      go_ret2
      exact ⟨by rw [HP2.out]; rfl, rfl⟩
    have hxm' : decide ((m : Int) < (x : Int)) = false := by simp; omega
    obtain ⟨s, hs⟩ : ∃ s, m = s + x := ⟨m - x, by omega⟩
    have hs1 : (m : Int) - (x : Int) = (s : Int) := by omega
    have s2 : (s : Int) ≤ (k : Int) := by omega
    have s3 : s ≤ k := by omega
    have hsk : k - s = x - 1 := by have := HK.out; omega
    have HS := Lib.hid (And.intro hs hsk)
    clear hs hsk
    go_wp2_with fail
    have hm31 : s + x = m := HS.out.1.symm
    have hsq := HS.out.2
    have HZ0 : Hid (padT b0 r = if ((r.drop s).take (k - s)).all (fun y => y == 0) then some x else none) := by
      show _ = _; rw [HP.out, if_neg (by omega), hsq, show m - x = s by omega]
    have hqx : k - s < 256 := by omega
    have hrl : Hid (r.length = m ∧ s + (k - s) < m) := ⟨HR.out.len, by omega⟩
    clear hm31 hsq HP
    generalize k - s = q at *
    go_loop [42] (fun i => ∃ j : Nat, i = .int .i64 j ∧ j ≤ q ∧ Hid (((r.drop s).take j).all (fun y => y == 0) = true)) (fun i => q - (intOf i).toNat)
    case atStart => exact ⟨0, rfl, Nat.zero_le _, by show _ = _; simp⟩
    case round =>
      obtain ⟨j, rfl, hjq, HZ⟩ := hrel
      by_cases hlt : j < q
      · obtain ⟨ar', hA, cj⟩ := bts_byte HR.out (k := s + j) (by have := hrl.out; omega)
        injection hA with hA; subst hA
        rw [← add_add] at cj
        have hjr : s + j < r.length := by have := hrl.out; omega
        by_cases hy : byteN r (s + j) = 0
        · have HS1 := Lib.hid (zeros_step hjr hy HZ.out)
          rw [hy] at cj
          clear hjr hy
          go_wp2
          go_round
          case rel => exact ⟨j + 1, by go_num, by omega, HS1⟩
          case measure => simp [intOf]; omega
        · have HB1 : Hid (padT b0 r = none) := by show _ = _; rw [HZ0.out, zeros_bad hjr hy hlt]; rfl
          have hy' : ((byteN r (s + j) : Int) != 0) = true := by simp; omega
          clear hjr hy
          go_wp2
          go_ret2
          exact ⟨by rw [HB1.out]; rfl, rfl⟩
      · have hj : j = q := by omega
        subst hj
        have HB1 : Hid (padT b0 r = some x) := by show _ = _; rw [HZ0.out, HZ.out]; rfl
        go_wp2
        go_ret2
        exact ⟨by rw [HB1.out]; rfl, rfl⟩
end Go.Proofs.Ytknlkmencdlpcaa

namespace Go.Proofs.Ytknlkmencdlpcaa
set_option linter.unusedVariables false
set_option linter.unusedSimpArgs false
open Go Go.RowKit

theorem ext_v (A : Option Addr) (n c : Nat) (l : List UInt8) (Z : Int) (hZ : Z = (atP l : Nat)) (w : World) (h : Bts w A n c l) (hn : 0 < n) (x f : Nat) (hx : extA l = x) (hf : frmA l = f) :
    Calls Try.prog 150 #[.slice A n c, .int .i64 Z] w fun e w' => e = .returned (.tuple #[.int .i64 x, .int .i64 f, .bool (decide (f ≤ n))]) ∧ w' = w := by
  subst hx hf; exact ext_any A n c l Z hZ w h hn
set_option maxRecDepth 20000 in
set_option maxHeartbeats 1000000 in
theorem look_any (A : Option Addr) (n c : Nat) (l : List UInt8) (w : World) (h : Bts w A n c l) :
    Calls Try.prog 114 #[.slice A n c] w fun e w' => e = .returned (.tuple #[.agg #[.int .i64 (lookX l : Nat), .int .i64 (lookF l : Nat), .int .i64 (lookT l : Nat)], .int .i64 (lookE l : Nat)]) ∧ Below w.heap.size w w' := by
  have HB := Lib.hid h
  have hb1 := fun o => (Below.refl w.heap.size w).alloc (Nat.le_refl _) o
  have HBA := fun o => Lib.hid (h.below (hb1 o))
  have hlen := h.len
  have hnc := h.nc
  have hcm := h.cm
  unfold maxLen at hcm
  have HE : Hid (lookE l = if n > 512 then 5 else if n < 12 then 2 else if byteN l 0 / 64 ≠ 2 then 1 else if fbB (byteN l 1) then 4 else if n < frmA l then 2 else if (padN l).isNone then 1 else 0) := by
    show _ = _; unfold lookE; rw [hlen]
  have HN : lookE l ≠ 0 → Hid (lookX l = 0 ∧ lookF l = 0 ∧ lookT l = 0) := fun hne => by
    show _ ∧ _ ∧ _
    unfold lookX lookF lookT
    rw [if_neg hne, if_neg hne, if_neg hne]; exact ⟨rfl, rfl, rfl⟩
  clear h
  by_cases h5 : n > 512
  · have e : lookE l = 5 := by rw [HE.out, if_pos h5]
    have HV := HN (by omega)
    have HEV := Lib.hid e
    have t5 : decide ((512 : Int) < (n : Int)) = true := by simp; omega
    clear HE HN e h5
    go_enter Try.func114, Try.ntmps114
    go_wp2
    exact bodyPost_ret (v := .tuple #[.agg #[.int .i64 0, .int .i64 0, .int .i64 0], .int .i64 5]) (by simp [results, Try.results114, go_sem]) rfl ⟨by rw [HEV.out, HV.out.1, HV.out.2.1, HV.out.2.2]; rfl, hb1 _⟩
  have t5 : decide ((512 : Int) < (n : Int)) = false := by simp; omega
  by_cases h12 : n < 12
  · have e : lookE l = 2 := by rw [HE.out, if_neg h5, if_pos h12]
    have HV := HN (by omega)
    have HEV := Lib.hid e
    have t12 : decide ((n : Int) < 12) = true := by simp; omega
    clear HE HN e h5 h12
    go_enter Try.func114, Try.ntmps114
    go_wp2
    exact bodyPost_ret (v := .tuple #[.agg #[.int .i64 0, .int .i64 0, .int .i64 0], .int .i64 2]) (by simp [results, Try.results114, go_sem]) rfl ⟨by rw [HEV.out, HV.out.1, HV.out.2.1, HV.out.2.2]; rfl, hb1 _⟩
  have t12 : decide ((n : Int) < 12) = false := by simp; omega
  obtain ⟨ad, rfl, hc0⟩ := bts_byte HB.out (k := 0) (by omega)
  obtain ⟨ad', hA, hc1⟩ := bts_byte HB.out (k := 1) (by omega)
  injection hA with hA; subst hA
  rw [add_zero'] at hc0
  have d0 := fun o => below_cell (hb1 o) hc0
  have d1 : ∀ o, (w.alloc o).cell? ⟨ad.block, ad.off + 1, none⟩ = some (.int .u8 (byteN l 1)) := fun o => below_cell (hb1 o) hc1
  have hx0 := byteN_lt l 0
  have hn0 : 0 < n := by omega
  have hn1 : 1 < n := by omega
  have hn1' : (1 : Int) < n := by omega
  clear hc0 hc1
  by_cases h64 : byteN l 0 / 64 = 2
  case neg =>
    have e : lookE l = 1 := by rw [HE.out, if_neg h5, if_neg h12, if_pos h64]
    have HV := HN (by omega)
    have HEV := Lib.hid e
    have t64 : ((byteN l 0 : Int) / 64 != 2) = true := by simp; omega
    clear HE HN e h5 h12 h64
    go_enter Try.func114, Try.ntmps114
    go_wp2
    exact bodyPost_ret (v := .tuple #[.agg #[.int .i64 0, .int .i64 0, .int .i64 0], .int .i64 1]) (by simp [results, Try.results114, go_sem]) rfl ⟨by rw [HEV.out, HV.out.1, HV.out.2.1, HV.out.2.2]; rfl, hb1 _⟩
  have t64 : ((byteN l 0 : Int) / 64 != 2) = false := by simp; omega
  cases hfb : fbB (byteN l 1)
  case true =>
    have e : lookE l = 4 := by rw [HE.out, if_neg h5, if_neg h12, if_neg (by omega), if_pos hfb]
    have HV := HN (by omega)
    have HEV := Lib.hid e
    clear HE HN e h5 h12 h64
    go_enter Try.func114, Try.ntmps114
    go_wp2_with (go_at_call 149; (with_reducible refine (fb_any _ _).mono ?_); rintro e w1 ⟨rfl, rfl⟩; rw [hfb])
    exact bodyPost_ret (v := .tuple #[.agg #[.int .i64 0, .int .i64 0, .int .i64 0], .int .i64 4]) (by simp [results, Try.results114, go_sem]) rfl ⟨by rw [HEV.out, HV.out.1, HV.out.2.1, HV.out.2.2]; rfl, hb1 _⟩
  have a15 := (rtpbits _ hx0).2.2.1
  obtain ⟨m, hm⟩ : ∃ m, m = byteN l 0 % 16 := ⟨_, rfl⟩
  rw [← hm] at a15
  have hm16 : m < 16 := by omega
  have HAT : Hid (12 + 4 * (m : Int) = (atP l : Nat)) := by show _ = _; unfold atP nCs; omega
  clear hm
  by_cases hf : n < frmA l
  · have e : lookE l = 2 := by rw [HE.out, if_neg h5, if_neg h12, if_neg (by omega), if_neg (by rw [hfb]; simp), if_pos hf]
    have HV := HN (by omega)
    have HEV := Lib.hid e
    have tf : decide (frmA l ≤ n) = false := by simp; omega
    clear HE HN e h5 h12 h64 hf
    go_enter Try.func114, Try.ntmps114
    go_wp2_with (first
      | (go_at_call 149; (with_reducible refine (fb_any _ _).mono ?_); rintro e w1 ⟨rfl, rfl⟩; rw [hfb])
      | (go_at_call 150; (with_reducible refine (ext_any (some ad) n c l _ HAT.out _ (HBA _).out hn0).mono ?_); rintro e w1 ⟨rfl, rfl⟩; rw [tf]))
    exact bodyPost_ret (v := .tuple #[.agg #[.int .i64 0, .int .i64 0, .int .i64 0], .int .i64 2]) (by simp [results, Try.results114, go_sem]) rfl ⟨by rw [HEV.out, HV.out.1, HV.out.2.1, HV.out.2.2]; rfl, hb1 _⟩
  have tf : decide (frmA l ≤ n) = true := by simp; omega
  have hpd : padN l = padT (byteN l 0) (l.drop (frmA l)) := rfl
  have hef := ext_le_frm l
  have f1 : ((frmA l : Nat) : Int) ≤ (n : Int) := by omega
  have f2 : frmA l ≤ n := by omega
  have HR0 : Hid (∀ o, Bts (w.alloc o) (if c = frmA l then some ad else some (ad.add (frmA l))) (n - frmA l) (c - frmA l) (l.drop (frmA l))) := by
    intro o
    have hb := (HBA o).out
    exact ⟨by rw [List.length_drop, hb.len], by have := hb.nc; omega, by have := hb.cm; omega, by
      have h1 := hb.rd.cut (by rw [bys_length]; exact hb.len) f2 hb.nc
      rw [bys_drop] at h1
      exact h1⟩
  have HEF := Lib.hid (And.intro hef f2)
  rcases hpp : padN l with _ | k
  · have e : lookE l = 1 := by rw [HE.out, if_neg h5, if_neg h12, if_neg (by omega), if_neg (by rw [hfb]; simp), if_neg hf, if_pos (by rw [hpp]; rfl)]
    have HV := HN (by omega)
    have HEV := Lib.hid e
    rw [hpp] at hpd
    have HPD := Lib.hid hpd.symm
    clear HE HN e h5 h12 h64 hf hpp hpd hef f2
    generalize hfr : frmA l = fr at *
    generalize hxr : extA l = xr at *
    have HFX := Lib.hid (And.intro hxr hfr)
    clear hfr hxr
    go_enter Try.func114, Try.ntmps114
    go_wp2_with (first
      | (go_at_call 149; (with_reducible refine (fb_any _ _).mono ?_); rintro e w1 ⟨rfl, rfl⟩; rw [hfb])
      | (go_at_call 150; (with_reducible refine (ext_v (some ad) n c l _ HAT.out _ (HBA _).out hn0 xr fr HFX.out.1 HFX.out.2).mono ?_); rintro e w1 ⟨rfl, rfl⟩; rw [tf])
      | (go_at_call 151; (with_reducible refine (padding_any (some ad) n c l _ _ _ _ _ (HBA _).out hn0 (HR0.out _)).mono ?_); rintro e w1 ⟨rfl, rfl⟩; rw [HPD.out]))
    all_goals exact bodyPost_ret (v := .tuple #[.agg #[.int .i64 0, .int .i64 0, .int .i64 0], .int .i64 1]) (by simp [results, Try.results114, go_sem]) rfl ⟨by rw [HEV.out, HV.out.1, HV.out.2.1, HV.out.2.2]; rfl, hb1 _⟩
  · have e : lookE l = 0 := by rw [HE.out, if_neg h5, if_neg h12, if_neg (by omega), if_neg (by rw [hfb]; simp), if_neg hf, if_neg (by rw [hpp]; simp)]
    obtain ⟨_, _, _, _, _, k', hk1, hk2, hk3⟩ := look_ok e
    rw [hpp] at hk1
    injection hk1 with hk1
    subst hk1
    rw [hlen] at hk2 hk3
    have HV : Hid (lookX l = extA l ∧ lookF l = frmA l ∧ lookT l = n - k) := by
      show _ ∧ _ ∧ _
      refine ⟨by unfold lookX; rw [if_pos e], by unfold lookF; rw [if_pos e], hk3⟩
    have HEV := Lib.hid e
    rw [hpp] at hpd
    have HPD := Lib.hid hpd.symm
    have hkn : k ≤ n := by omega
    have HKN := Lib.hid hkn
    clear HE HN e h5 h12 h64 hf hpp hpd hef f2 hk2 hk3
    generalize hfr : frmA l = fr at *
    generalize hxr : extA l = xr at *
    have HFX := Lib.hid (And.intro hxr hfr)
    clear hfr hxr
    go_enter Try.func114, Try.ntmps114
    go_wp2_with (first
      | (go_at_call 149; (with_reducible refine (fb_any _ _).mono ?_); rintro e w1 ⟨rfl, rfl⟩; rw [hfb])
      | (go_at_call 150; (with_reducible refine (ext_v (some ad) n c l _ HAT.out _ (HBA _).out hn0 xr fr HFX.out.1 HFX.out.2).mono ?_); rintro e w1 ⟨rfl, rfl⟩; rw [tf])
      | (go_at_call 151; (with_reducible refine (padding_any (some ad) n c l _ _ _ _ _ (HBA _).out hn0 (HR0.out _)).mono ?_); rintro e w1 ⟨rfl, rfl⟩; rw [HPD.out]))
    all_goals
      have hq : (n : Int) - (k : Int) = ((n - k : Nat) : Int) := by have := HKN.out; omega
      exact bodyPost_ret (v := .tuple #[.agg #[.int .i64 xr, .int .i64 fr, .int .i64 (n - k : Nat)], .int .i64 0]) (by simp [results, Try.results114, go_sem, hq]) rfl ⟨by rw [HEV.out, HV.out.1, HV.out.2.1, HV.out.2.2]; rfl, hb1 _⟩
set_option maxHeartbeats 1000000 in
theorem offset_any (A : Option Addr) (n c : Nat) (l : List UInt8) (w : World) (h : Bts w A n c l) :
    Calls Try.prog 121 #[.slice A n c] w fun e w' => e = .returned (.tuple #[.int .i64 (lookF l : Nat), .int .i64 (lookT l : Nat), .int .i64 (lookE l : Nat)]) ∧ Below w.heap.size w w' := by
  have HB := Lib.hid h
  clear h
  go_enter Try.func121, Try.ntmps121
  go_wp2_with (go_at_call 114; (with_reducible refine (look_any A n c l _ HB.out).mono ?_); rintro e w1 ⟨rfl, hb1⟩)
  go_quiet (fail)
  go_wp2
  go_ret3
  exact ⟨rfl, below_drewN (hb1.alloc hb1.size _) _⟩
end Go.Proofs.Ytknlkmencdlpcaa
