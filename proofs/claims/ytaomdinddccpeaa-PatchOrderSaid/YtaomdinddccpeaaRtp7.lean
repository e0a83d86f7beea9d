/-
What functions of package rtp find in bytes: where the payload begins, how much padding there is.
-/
import Derived.Test.YtaomdinddccpeaaRtpG
import Derived.Test.YtaomdinddccpeaaRtp4
namespace Go.Proofs.Ytaomdinddccpeaa
set_option linter.unusedVariables false
set_option linter.unusedSimpArgs false
open Go Go.RowKit

theorem getN_2' (l : List UInt8) (a : Int) : getN l a 2 < 65536 := by
  unfold getN
  split
  · have := beN_lt (part l a.toNat (2 : Int).toNat)
    have h2 : (part l a.toNat (2 : Int).toNat).length ≤ 2 := by simp [part]; omega
    have : 256 ^ (part l a.toNat (2 : Int).toNat).length ≤ 256 ^ 2 := Nat.pow_le_pow_right (by omega) h2
    omega
  · omega
set_option maxHeartbeats 1000000 in
theorem ext_any (A : Option Addr) (n c : Nat) (l : List UInt8) (Z : Int) (hZ : Z = (atP l : Nat)) (w : World) (h : Bts w A n c l) (hn : 0 < n) :
    Calls Try.prog 70 #[.slice A n c, .int .i64 Z] w fun e w' => e = .returned (.tuple #[.int .i64 (extA l : Nat), .int .i64 (frmA l : Nat), .bool (decide (frmA l ≤ n))]) ∧ w' = w := by
  subst hZ
  obtain ⟨ad, rfl, c0⟩ := bts_byte h (k := 0) hn
  rw [add_zero'] at c0
  have b16 := (rtpbits _ (byteN_lt l 0)).1
  have HB := Lib.hid h
  have ha : atP l ≤ 72 := by have := nCs_lt l; unfold atP; omega
  have hg2 := getN_2' l (atP l + 2 : Nat)
  have HX : Hid (extA l = if exB l then atP l + 4 else atP l) := rfl
  have HF : Hid (frmA l = if exB l then atP l + 4 + 4 * getN l (atP l + 2 : Nat) 2 else atP l) := rfl
  have hw : withinB n ((atP l + 2 : Nat) : Int) ((2 : Nat) : Int) = decide (atP l + 4 ≤ n) := by
    rw [Bool.eq_iff_iff, withinB_iff, decide_eq_true_eq]; omega
  have HW := Lib.hid hw
  clear h hw
  have hlen : Hid (n ≤ 9223372036854775807) := by have := HB.out.cm; have := HB.out.nc; show _ ≤ _; unfold maxLen at *; omega
  cases hx : exB l
  · have hxx := hx
    unfold exB at hxx
    have e1 : (bits .and .u8 (byteN l 0 : Int) 16 == 0) = true := by rw [b16]; simp at hxx ⊢; omega
    rw [hx] at HX HF
    generalize atP l = a at *
    clear b16 hx hxx
    go_enter Try.func70, Try.ntmps70
    go_wp2
    go_ret3
    refine ⟨?_, rfl⟩
    rw [HX.out, HF.out]
    simp
  · have hxx := hx
    unfold exB at hxx
    have e1 : (bits .and .u8 (byteN l 0 : Int) 16 == 0) = false := by rw [b16]; simp at hxx ⊢; omega
    rw [hx] at HX HF
    generalize hga : atP l = a at *
    have HGA := Lib.hid hga
    have he : ((a : Nat) : Int) + 2 = ((a + 2 : Nat) : Int) := by omega
    have HE := Lib.hid he
    clear b16 hx hxx hga he
    go_enter Try.func70, Try.ntmps70
    go_wp2_with (go_at_call 66; (with_reducible refine (get_same2 (some ad) n c l _ 2 (a + 2) 2 HE.out rfl _ HB.out (by omega) (by omega)).mono ?_); rintro e w1 ⟨rfl, rfl⟩)
    all_goals
      go_ret3
      refine ⟨?_, rfl⟩
      have hF := HF.out
      rw [HX.out, hF]
      simp only [Int.natCast_add, Int.cast_ofNat_Int, if_true] at hF ⊢
      have hg := getN_2' l ((a : Int) + 2)
      generalize getN l ((a : Int) + 2) 2 = z at *
      have w1 : wrap64 (z : Int) = z := by unfold wrap64; omega
      have w2 : wrap64 (4 * (z : Int)) = 4 * z := by unfold wrap64; omega
      have w3 : wrap64 ((a : Int) + 4 + 4 * z) = a + 4 + 4 * z := by unfold wrap64; omega
      rw [w1, w2, w3]
      refine congrArg Ending.returned (congrArg Value.tuple ?_)
      congr 1
      have hw := HW.out
      simp only [Int.natCast_add, Int.cast_ofNat_Int] at hw
      simp
      first
        | omega
        | (rename_i hh; rw [hw] at hh; simp at hh; omega)
theorem zeros_step {r : List UInt8} {s j : Nat} (h : s + j < r.length) (hy : byteN r (s + j) = 0) (hz : ((r.drop s).take j).all (fun y => y == 0) = true) : ((r.drop s).take (j + 1)).all (fun y => y == 0) = true := by
  rw [List.take_succ_eq_append_getElem (by simp; omega), List.all_append, hz]
  have e : r[s + j] = 0 := by
    rw [byteN, List.getElem?_eq_getElem h] at hy
    exact UInt8.toNat_inj.1 hy
  simp [e]
theorem zeros_bad {r : List UInt8} {s j q : Nat} (h : s + j < r.length) (hy : byteN r (s + j) ≠ 0) (hq : j < q) : ((r.drop s).take q).all (fun y => y == 0) = false := by
  rw [Bool.eq_false_iff]
  intro ha
  have hj : j < ((r.drop s).take q).length := by simp; omega
  have := List.all_eq_true.1 ha _ (List.getElem_mem hj)
  simp at this
  apply hy
  rw [byteN, List.getElem?_eq_getElem h, Option.getD_some, this]
  rfl
theorem pad_no (b0 : Nat) (r : List UInt8) (h : b0 / 32 % 2 = 0) : padT b0 r = some 0 := by unfold padT; rw [if_pos h]
set_option maxRecDepth 20000 in
set_option maxHeartbeats 1000000 in
theorem padding_any (A : Option Addr) (n c : Nat) (l : List UInt8) (R : Option Addr) (m d : Nat) (r : List UInt8) (w : World) (h : Bts w A n c l) (hn : 0 < n) (hr : Bts w R m d r) :
    Calls Try.prog 71 #[.slice A n c, .slice R m d] w fun e w' => e = .returned (.tuple #[.int .i64 ((padT (byteN l 0) r).getD 0 : Nat), .bool (padT (byteN l 0) r).isSome]) ∧ w' = w := by
  obtain ⟨ad, rfl, c0⟩ := bts_byte h (k := 0) hn
  rw [add_zero'] at c0
  have b32 := (rtpbits _ (byteN_lt l 0)).2.1
  generalize hb : byteN l 0 = b0 at *
  by_cases h32 : b0 / 32 % 2 = 0
  · have hp := Lib.hid (pad_no b0 r h32)
    have e1 : (bits .and .u8 (b0 : Int) 32 == 0) = true := by rw [b32]; simp; omega
    clear b32 h32 hb h
    go_enter Try.func71, Try.ntmps71
    go_wp2
    go_ret2
    exact ⟨by rw [hp.out]; rfl, rfl⟩
  · have e1 : (bits .and .u8 (b0 : Int) 32 == 0) = false := by rw [b32]; simp; omega
    have HP : Hid (padT b0 r = if m = 0 then none else if padX r = 0 ∨ m < padX r then none else if ((r.drop (m - padX r)).take (padX r - 1)).all (fun y => y == 0) then some (padX r) else none) := by
      show _ = _; unfold padT; rw [if_neg h32, hr.len]
    clear b32 h32 hb h
    by_cases hm : m = 0
    · have HP2 : Hid (padT b0 r = none) := by show _ = _; rw [HP.out, if_pos hm]
      subst hm
      clear HP
      go_enter Try.func71, Try.ntmps71
      go_wp2
      go_ret2
      exact ⟨by rw [HP2.out]; rfl, rfl⟩
    obtain ⟨ar, rfl, cl⟩ := bts_byte hr (k := m - 1) (by omega)
    have hx255 := byteN_lt r (m - 1)
    have hX : padX r = byteN r (m - 1) := by unfold padX; rw [hr.len]
    obtain ⟨x, hx⟩ : ∃ x, byteN r (m - 1) = x := ⟨_, rfl⟩
    rw [hx] at cl hX hx255
    rw [hX] at HP
    rw [if_neg hm] at HP
    obtain ⟨k, hk⟩ : ∃ k, m = k + 1 := ⟨m - 1, by omega⟩
    have hk1 : (m : Int) - 1 = (k : Int) := by omega
    have hk2 : k < m := by omega
    have hk3 : (k : Int) < (m : Int) := by omega
    have hk4 : m - 1 = k := by omega
    have hm0 : ((m : Int) == 0) = false := by simp; omega
    rw [hk4] at cl
    have hcm := hr.cm
    have hnc := hr.nc
    unfold maxLen at hcm
    have HK := Lib.hid hk
    have HR := Lib.hid hr
    clear hX hx hk hk4 hr hm
    go_enter Try.func71, Try.ntmps71
    by_cases hx0 : x = 0
    · have HP2 : Hid (padT b0 r = none) := by show _ = _; rw [HP.out, if_pos (.inl hx0)]
      subst hx0
      clear HP
      go_wp2
      go_ret2
      exact ⟨by rw [HP2.out]; rfl, rfl⟩
    have hx0' : ((x : Int) == 0) = false := by simp; omega
    by_cases hxm : m < x
    · have HP2 : Hid (padT b0 r = none) := by show _ = _; rw [HP.out, if_pos (.inr hxm)]
      have hxm' : decide ((m : Int) < (x : Int)) = true := by simp; omega
      clear HP hx0
      go_wp2
      go_ret2
      exact ⟨by rw [HP2.out]; rfl, rfl⟩
    have hxm' : decide ((m : Int) < (x : Int)) = false := by simp; omega
    obtain ⟨s, hs⟩ : ∃ s, m = s + x := ⟨m - x, by omega⟩
    have hs1 : (m : Int) - (x : Int) = (s : Int) := by omega
    have s2 : (s : Int) ≤ (k : Int) := by omega
    have s3 : s ≤ k := by omega
    have hsk : k - s = x - 1 := by have := HK.out; omega
    have HS := Lib.hid (And.intro hs hsk)
    clear hs hsk
    go_wp2_with fail
    have hm31 : s + x = m := HS.out.1.symm
    have hsq := HS.out.2
    have HZ0 : Hid (padT b0 r = if ((r.drop s).take (k - s)).all (fun y => y == 0) then some x else none) := by
      show _ = _; rw [HP.out, if_neg (by omega), hsq, show m - x = s by omega]
    have hqx : k - s < 256 := by omega
    have hrl : Hid (r.length = m ∧ s + (k - s) < m) := ⟨HR.out.len, by omega⟩
    clear hm31 hsq HP
    generalize k - s = q at *
    go_loop [42] (fun i => ∃ j : Nat, i = .int .i64 j ∧ j ≤ q ∧ Hid (((r.drop s).take j).all (fun y => y == 0) = true)) (fun i => q - (intOf i).toNat)
    case atStart => exact ⟨0, rfl, Nat.zero_le _, by show _ = _; simp⟩
    case round =>
      obtain ⟨j, rfl, hjq, HZ⟩ := hrel
      by_cases hlt : j < q
      · obtain ⟨ar', hA, cj⟩ := bts_byte HR.out (k := s + j) (by have := hrl.out; omega)
        injection hA with hA; subst hA
        rw [← add_add] at cj
        have hjr : s + j < r.length := by have := hrl.out; omega
        by_cases hy : byteN r (s + j) = 0
        · have HS1 := Lib.hid (zeros_step hjr hy HZ.out)
          rw [hy] at cj
          clear hjr hy
          go_wp2
          go_round
          case rel => exact ⟨j + 1, by go_num, by omega, HS1⟩
          case measure => simp [intOf]; omega
        · have HB1 : Hid (padT b0 r = none) := by show _ = _; rw [HZ0.out, zeros_bad hjr hy hlt]; rfl
          have hy' : ((byteN r (s + j) : Int) != 0) = true := by simp; omega
          clear hjr hy
          go_wp2
          go_ret2
          exact ⟨by rw [HB1.out]; rfl, rfl⟩
      · have hj : j = q := by omega
        subst hj
        have HB1 : Hid (padT b0 r = some x) := by show _ = _; rw [HZ0.out, HZ.out]; rfl
        go_wp2
        go_ret2
        exact ⟨by rw [HB1.out]; rfl, rfl⟩
end Go.Proofs.Ytaomdinddccpeaa
