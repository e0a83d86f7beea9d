/-
What functions look and Offset of package rtp find.
-/
import Derived.Test.YtaomdinddccpeaaRtp7
namespace Go.Proofs.Ytaomdinddccpeaa
set_option linter.unusedVariables false
set_option linter.unusedSimpArgs false
open Go Go.RowKit

theorem ext_v (A : Option Addr) (n c : Nat) (l : List UInt8) (Z : Int) (hZ : Z = (atP l : Nat)) (w : World) (h : Bts w A n c l) (hn : 0 < n) (x f : Nat) (hx : extA l = x) (hf : frmA l = f) :
    Calls Try.prog 70 #[.slice A n c, .int .i64 Z] w fun e w' => e = .returned (.tuple #[.int .i64 x, .int .i64 f, .bool (decide (f ≤ n))]) ∧ w' = w := by
  subst hx hf; exact ext_any A n c l Z hZ w h hn
set_option maxRecDepth 20000 in
set_option maxHeartbeats 1000000 in
theorem look_any (A : Option Addr) (n c : Nat) (l : List UInt8) (w : World) (h : Bts w A n c l) :
    Calls Try.prog 50 #[.slice A n c] w fun e w' => e = .returned (.tuple #[.agg #[.int .i64 (lookX l : Nat), .int .i64 (lookF l : Nat), .int .i64 (lookT l : Nat)], .int .i64 (lookE l : Nat)]) ∧ Below w.heap.size w w' := by
  have HB := Lib.hid h
  have hb1 := fun o => (Below.refl w.heap.size w).alloc (Nat.le_refl _) o
  have HBA := fun o => Lib.hid (h.below (hb1 o))
  have hlen := h.len
  have hnc := h.nc
  have hcm := h.cm
  unfold maxLen at hcm
  have HE : Hid (lookE l = if n > 512 then 5 else if n < 12 then 2 else if byteN l 0 / 64 ≠ 2 then 1 else if fbB (byteN l 1) then 4 else if n < frmA l then 2 else if (padN l).isNone then 1 else 0) := by
    show _ = _; unfold lookE; rw [hlen]
  have HN : lookE l ≠ 0 → Hid (lookX l = 0 ∧ lookF l = 0 ∧ lookT l = 0) := fun hne => by
    show _ ∧ _ ∧ _
    unfold lookX lookF lookT
    rw [if_neg hne, if_neg hne, if_neg hne]; exact ⟨rfl, rfl, rfl⟩
  clear h
  by_cases h5 : n > 512
  · have e : lookE l = 5 := by rw [HE.out, if_pos h5]
    have HV := HN (by omega)
    have HEV := Lib.hid e
    have t5 : decide ((512 : Int) < (n : Int)) = true := by simp; omega
    clear HE HN e h5
    go_enter Try.func50, Try.ntmps50
    go_wp2
    exact bodyPost_ret (v := .tuple #[.agg #[.int .i64 0, .int .i64 0, .int .i64 0], .int .i64 5]) (by simp [results, Try.results50, go_sem]) rfl ⟨by rw [HEV.out, HV.out.1, HV.out.2.1, HV.out.2.2]; rfl, hb1 _⟩
  have t5 : decide ((512 : Int) < (n : Int)) = false := by simp; omega
  by_cases h12 : n < 12
  · have e : lookE l = 2 := by rw [HE.out, if_neg h5, if_pos h12]
    have HV := HN (by omega)
    have HEV := Lib.hid e
    have t12 : decide ((n : Int) < 12) = true := by simp; omega
    clear HE HN e h5 h12
    go_enter Try.func50, Try.ntmps50
    go_wp2
    exact bodyPost_ret (v := .tuple #[.agg #[.int .i64 0, .int .i64 0, .int .i64 0], .int .i64 2]) (by simp [results, Try.results50, go_sem]) rfl ⟨by rw [HEV.out, HV.out.1, HV.out.2.1, HV.out.2.2]; rfl, hb1 _⟩
  have t12 : decide ((n : Int) < 12) = false := by simp; omega
  obtain ⟨ad, rfl, hc0⟩ := bts_byte HB.out (k := 0) (by omega)
  obtain ⟨ad', hA, hc1⟩ := bts_byte HB.out (k := 1) (by omega)
  injection hA with hA; subst hA
  rw [add_zero'] at hc0
  have d0 := fun o => below_cell (hb1 o) hc0
  have d1 : ∀ o, (w.alloc o).cell? ⟨ad.block, ad.off + 1, none⟩ = some (.int .u8 (byteN l 1)) := fun o => below_cell (hb1 o) hc1
  have hx0 := byteN_lt l 0
  have hn0 : 0 < n := by omega
  have hn1 : 1 < n := by omega
  have hn1' : (1 : Int) < n := by omega
  clear hc0 hc1
  by_cases h64 : byteN l 0 / 64 = 2
  case neg =>
    have e : lookE l = 1 := by rw [HE.out, if_neg h5, if_neg h12, if_pos h64]
    have HV := HN (by omega)
    have HEV := Lib.hid e
    have t64 : ((byteN l 0 : Int) / 64 != 2) = true := by simp; omega
    clear HE HN e h5 h12 h64
    go_enter Try.func50, Try.ntmps50
    go_wp2
    exact bodyPost_ret (v := .tuple #[.agg #[.int .i64 0, .int .i64 0, .int .i64 0], .int .i64 1]) (by simp [results, Try.results50, go_sem]) rfl ⟨by rw [HEV.out, HV.out.1, HV.out.2.1, HV.out.2.2]; rfl, hb1 _⟩
  have t64 : ((byteN l 0 : Int) / 64 != 2) = false := by simp; omega
  cases hfb : fbB (byteN l 1)
  case true =>
    have e : lookE l = 4 := by rw [HE.out, if_neg h5, if_neg h12, if_neg (by omega), if_pos hfb]
    have HV := HN (by omega)
    have HEV := Lib.hid e
    clear HE HN e h5 h12 h64
    go_enter Try.func50, Try.ntmps50
    go_wp2_with (go_at_call 69; (with_reducible refine (fb_any _ _).mono ?_); rintro e w1 ⟨rfl, rfl⟩; rw [hfb])
    exact bodyPost_ret (v := .tuple #[.agg #[.int .i64 0, .int .i64 0, .int .i64 0], .int .i64 4]) (by simp [results, Try.results50, go_sem]) rfl ⟨by rw [HEV.out, HV.out.1, HV.out.2.1, HV.out.2.2]; rfl, hb1 _⟩
  have a15 := (rtpbits _ hx0).2.2.1
  obtain ⟨m, hm⟩ : ∃ m, m = byteN l 0 % 16 := ⟨_, rfl⟩
  rw [← hm] at a15
  have hm16 : m < 16 := by omega
  have HAT : Hid (12 + 4 * (m : Int) = (atP l : Nat)) := by show _ = _; unfold atP nCs; omega
  clear hm
  by_cases hf : n < frmA l
  · have e : lookE l = 2 := by rw [HE.out, if_neg h5, if_neg h12, if_neg (by omega), if_neg (by rw [hfb]; simp), if_pos hf]
    have HV := HN (by omega)
    have HEV := Lib.hid e
    have tf : decide (frmA l ≤ n) = false := by simp; omega
    clear HE HN e h5 h12 h64 hf
    go_enter Try.func50, Try.ntmps50
    go_wp2_with (first
      | (go_at_call 69; (with_reducible refine (fb_any _ _).mono ?_); rintro e w1 ⟨rfl, rfl⟩; rw [hfb])
      | (go_at_call 70; (with_reducible refine (ext_any (some ad) n c l _ HAT.out _ (HBA _).out hn0).mono ?_); rintro e w1 ⟨rfl, rfl⟩; rw [tf]))
    exact bodyPost_ret (v := .tuple #[.agg #[.int .i64 0, .int .i64 0, .int .i64 0], .int .i64 2]) (by simp [results, Try.results50, go_sem]) rfl ⟨by rw [HEV.out, HV.out.1, HV.out.2.1, HV.out.2.2]; rfl, hb1 _⟩
  have tf : decide (frmA l ≤ n) = true := by simp; omega
  have hpd : padN l = padT (byteN l 0) (l.drop (frmA l)) := rfl
  have hef := ext_le_frm l
  have f1 : ((frmA l : Nat) : Int) ≤ (n : Int) := by omega
  have f2 : frmA l ≤ n := by omega
  have HR0 : Hid (∀ o, Bts (w.alloc o) (if c = frmA l then some ad else some (ad.add (frmA l))) (n - frmA l) (c - frmA l) (l.drop (frmA l))) := by
    intro o
    have hb := (HBA o).out
    exact ⟨by rw [List.length_drop, hb.len], by have := hb.nc; omega, by have := hb.cm; omega, by
      have h1 := hb.rd.cut (by rw [bys_length]; exact hb.len) f2 hb.nc
      rw [bys_drop] at h1
      exact h1⟩
  have HEF := Lib.hid (And.intro hef f2)
  rcases hpp : padN l with _ | k
  · have e : lookE l = 1 := by rw [HE.out, if_neg h5, if_neg h12, if_neg (by omega), if_neg (by rw [hfb]; simp), if_neg hf, if_pos (by rw [hpp]; rfl)]
    have HV := HN (by omega)
    have HEV := Lib.hid e
    rw [hpp] at hpd
    have HPD := Lib.hid hpd.symm
    clear HE HN e h5 h12 h64 hf hpp hpd hef f2
    generalize hfr : frmA l = fr at *
    generalize hxr : extA l = xr at *
    have HFX := Lib.hid (And.intro hxr hfr)
    clear hfr hxr
    go_enter Try.func50, Try.ntmps50
    go_wp2_with (first
      | (go_at_call 69; (with_reducible refine (fb_any _ _).mono ?_); rintro e w1 ⟨rfl, rfl⟩; rw [hfb])
      | (go_at_call 70; (with_reducible refine (ext_v (some ad) n c l _ HAT.out _ (HBA _).out hn0 xr fr HFX.out.1 HFX.out.2).mono ?_); rintro e w1 ⟨rfl, rfl⟩; rw [tf])
      | (go_at_call 71; (with_reducible refine (padding_any (some ad) n c l _ _ _ _ _ (HBA _).out hn0 (HR0.out _)).mono ?_); rintro e w1 ⟨rfl, rfl⟩; rw [HPD.out]))
    all_goals exact bodyPost_ret (v := .tuple #[.agg #[.int .i64 0, .int .i64 0, .int .i64 0], .int .i64 1]) (by simp [results, Try.results50, go_sem]) rfl ⟨by rw [HEV.out, HV.out.1, HV.out.2.1, HV.out.2.2]; rfl, hb1 _⟩
  · have e : lookE l = 0 := by rw [HE.out, if_neg h5, if_neg h12, if_neg (by omega), if_neg (by rw [hfb]; simp), if_neg hf, if_neg (by rw [hpp]; simp)]
    obtain ⟨_, _, _, _, _, k', hk1, hk2, hk3⟩ := look_ok e
    rw [hpp] at hk1
    injection hk1 with hk1
    subst hk1
    rw [hlen] at hk2 hk3
    have HV : Hid (lookX l = extA l ∧ lookF l = frmA l ∧ lookT l = n - k) := by
      show _ ∧ _ ∧ _
      refine ⟨by unfold lookX; rw [if_pos e], by unfold lookF; rw [if_pos e], hk3⟩
    have HEV := Lib.hid e
    rw [hpp] at hpd
    have HPD := Lib.hid hpd.symm
    have hkn : k ≤ n := by omega
    have HKN := Lib.hid hkn
    clear HE HN e h5 h12 h64 hf hpp hpd hef f2 hk2 hk3
    generalize hfr : frmA l = fr at *
    generalize hxr : extA l = xr at *
    have HFX := Lib.hid (And.intro hxr hfr)
    clear hfr hxr
    go_enter Try.func50, Try.ntmps50
    go_wp2_with (first
      | (go_at_call 69; (with_reducible refine (fb_any _ _).mono ?_); rintro e w1 ⟨rfl, rfl⟩; rw [hfb])
      | (go_at_call 70; (with_reducible refine (ext_v (some ad) n c l _ HAT.out _ (HBA _).out hn0 xr fr HFX.out.1 HFX.out.2).mono ?_); rintro e w1 ⟨rfl, rfl⟩; rw [tf])
      | (go_at_call 71; (with_reducible refine (padding_any (some ad) n c l _ _ _ _ _ (HBA _).out hn0 (HR0.out _)).mono ?_); rintro e w1 ⟨rfl, rfl⟩; rw [HPD.out]))
    all_goals
      have hq : (n : Int) - (k : Int) = ((n - k : Nat) : Int) := by have := HKN.out; omega
      exact bodyPost_ret (v := .tuple #[.agg #[.int .i64 xr, .int .i64 fr, .int .i64 (n - k : Nat)], .int .i64 0]) (by simp [results, Try.results50, go_sem, hq]) rfl ⟨by rw [HEV.out, HV.out.1, HV.out.2.1, HV.out.2.2]; rfl, hb1 _⟩
set_option maxHeartbeats 1000000 in
theorem offset_any (A : Option Addr) (n c : Nat) (l : List UInt8) (w : World) (h : Bts w A n c l) :
    Calls Try.prog 28 #[.slice A n c] w fun e w' => e = .returned (.tuple #[.int .i64 (lookF l : Nat), .int .i64 (lookT l : Nat), .int .i64 (lookE l : Nat)]) ∧ Below w.heap.size w w' := by
  have HB := Lib.hid h
  clear h
  go_enter Try.func28, Try.ntmps28
  go_wp2_with (go_at_call 50; (with_reducible refine (look_any A n c l _ HB.out).mono ?_); rintro e w1 ⟨rfl, hb1⟩)
  go_quiet (fail)
  go_wp2
  go_ret3
  exact ⟨rfl, below_drewN (hb1.alloc hb1.size _) _⟩
end Go.Proofs.Ytaomdinddccpeaa
