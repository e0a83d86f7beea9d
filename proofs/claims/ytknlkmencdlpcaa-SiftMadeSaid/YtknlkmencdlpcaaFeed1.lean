/-
What the functions of package sluicegateref4 do that tell whether an item may be.
What MayItem of package sluicegateref4 tells.
-/
import Derived.Test.YtknlkmencdlpcaaRepN
import Derived.Test.YtknlkmencdlpcaaField2
import Derived.Test.YtknlkmencdlpcaaApp
namespace Go.Proofs.Ytknlkmencdlpcaa
set_option linter.unusedVariables false
set_option linter.unusedSimpArgs false
open Go Go.RowKit

section
variable (i : Itm) (A : Option Addr) (n c : Nat) (G : Option Addr) (gn gc : Nat) (P : Option Addr) (pn pc : Nat) (w : World)
set_option maxRecDepth 20000 in
set_option maxHeartbeats 4000000 in
theorem rbare_any (hb : i.bl.length = n) (hg : i.go.length = gn) (hp : i.pr.length = pn) :
    Calls Try.prog 92 #[.agg #[.int .i64 i.k, .int .u32 i.s, .int .u64 i.ntp, .int .u32 i.tm, .int .u32 i.pk, .int .u32 i.oc, .slice A n c, .slice G gn gc, .int .u32 i.me, .slice P pn pc]] w fun e w' =>
      e = .returned (.bool (bareG i)) ∧ Below w.heap.size w w' := by
  obtain ⟨k, s, ntp, tm, pk, oc, bl, go, me, pr⟩ := i
  simp only at hb hg hp ⊢
  have hkk : k = 200 ∨ k = 201 ∨ k = 203 ∨ k = 205 ∨ k = 206 ∨ ((k == 200) = false ∧ (k == 201) = false ∧ (k != 203) = true ∧ (k == 205) = false ∧ (k == 206) = false) := by
    by_cases h0 : k = 200
    · exact .inl h0
    by_cases h1 : k = 201
    · exact .inr (.inl h1)
    by_cases h2 : k = 203
    · exact .inr (.inr (.inl h2))
    by_cases h3 : k = 205
    · exact .inr (.inr (.inr (.inl h3)))
    by_cases h4 : k = 206
    · exact .inr (.inr (.inr (.inr (.inl h4))))
    · exact .inr (.inr (.inr (.inr (.inr ⟨by simp [h0], by simp [h1], by simp [h2], by simp [h3], by simp [h4]⟩))))
  rcases hkk with rfl | rfl | rfl | rfl | rfl | ⟨h0, h1, h2, h3, h4⟩
  all_goals
    go_enter Try.func92, Try.ntmps92
    go_wp2
    all_goals
      go_ret
      refine ⟨congrArg Ending.returned (congrArg Value.bool ?_), (Below.refl _ _).alloc (Nat.le_refl _) _⟩
      rw [Bool.eq_iff_iff]
      go_tidy
      simp_all [bareG, ← List.length_eq_zero_iff]
      try omega
end
end Go.Proofs.Ytknlkmencdlpcaa

namespace Go.Proofs.Ytknlkmencdlpcaa
set_option linter.unusedVariables false
set_option linter.unusedSimpArgs false
open Go Go.RowKit

theorem rowK_low' (l : List Blk) {k : Nat} (h : k < l.length) : lowB l = true → l[k].t < 16777216 := fun hl => by
  unfold lowB at hl
  rw [List.all_eq_true] at hl
  simpa using hl _ (List.getElem_mem h)
set_option maxRecDepth 20000 in
set_option maxHeartbeats 4000000 in
theorem rmayI_any (i : Itm) (A : Option Addr) (n c : Nat) (G : Option Addr) (gn gc : Nat) (P : Option Addr) (pn pc : Nat) (w : World) (hr : Row w A n c 7 28 (rowK i.bl)) (hg : i.go.length = gn) (hp : i.pr.length = pn) :
    Calls Try.prog 31 #[.agg #[.int .i64 i.k, .int .u32 i.s, .int .u64 i.ntp, .int .u32 i.tm, .int .u32 i.pk, .int .u32 i.oc, .slice A n c, .slice G gn gc, .int .u32 i.me, .slice P pn pc]] w fun e w' =>
      e = .returned (.bool (mayG i)) ∧ Below w.heap.size w w' := by
  have hbl : i.bl.length = n := by have := hr.len; rw [rowK_length] at this; omega
  have HB := Lib.hid hbl
  have HR := Lib.hid hr
  have HGP := Lib.hid (And.intro hg hp)
  have hcm := hr.cm
  have hnc := hr.nc
  unfold maxLen at hcm
  have hgl : i.go.length = gn := hg
  have hpl : i.pr.length = pn := hp
  have HM : Hid (mayG i = (bareG i && (if i.k = 200 ∨ i.k = 201 then lowB i.bl && decide (n ≤ 15) else if i.k = 203 then decide (1 ≤ gn ∧ gn ≤ 15) else if i.k = 205 then decide (1 ≤ pn ∧ pn ≤ 16) else decide (i.k = 206)))) := by
    show _ = _
    unfold mayG; rw [hbl, hg, hp]
  clear hr hbl hg hp hgl hpl
  cases hba : bareG i
  · have hf : mayG i = false := by rw [HM.out, hba]; rfl
    go_enter Try.func31, Try.ntmps31
    go_wp2_with (go_at_call 92; (with_reducible refine (rbare_any i A n c G gn gc P pn pc _ HB.out HGP.out.1 HGP.out.2).mono ?_); rintro e w1 ⟨rfl, hb1⟩; rw [hba])
    go_ret
    exact ⟨by rw [hf]; rfl, (((Below.refl _ _).alloc (Nat.le_refl _) _).trans (hb1.mono (by simp)))⟩
  have HM2 : Hid (mayG i = (if i.k = 200 ∨ i.k = 201 then lowB i.bl && decide (n ≤ 15) else if i.k = 203 then decide (1 ≤ gn ∧ gn ≤ 15) else if i.k = 205 then decide (1 ≤ pn ∧ pn ≤ 16) else decide (i.k = 206))) := by
    show _ = _
    rw [HM.out, hba]; rfl
  clear HM
  by_cases h2 : i.k = 200 ∨ i.k = 201
  · have hm : mayG i = (lowB i.bl && decide (n ≤ 15)) := by rw [HM2.out, if_pos h2]
    have HMM := Lib.hid hm
    clear HM2 hm
    have hq : (i.k == 200) = true ∨ ((i.k == 200) = false ∧ (i.k == 201) = true) := by
      rcases h2 with h | h
      · exact .inl (by rw [h]; rfl)
      · exact .inr ⟨by rw [h]; rfl, by rw [h]; rfl⟩
    clear h2
    rcases hq with h0 | ⟨h0, h1⟩
    all_goals
      go_enter Try.func31, Try.ntmps31
      go_wp2_with (go_at_call 92; (with_reducible refine (rbare_any i A n c G gn gc P pn pc _ HB.out HGP.out.1 HGP.out.2).mono ?_); rintro e w1 ⟨rfl, hb1⟩; rw [hba]; have hb2 := ((Below.refl w.heap.size w).alloc (Nat.le_refl _) _).trans (hb1.mono (by simp)); have hit := blk_below (blk_alloc _ _) hb1; obtain ⟨x0, x1, x2, x3, x4, x5, x6, x7, x8, x9⟩ := ten_cells hit)
      go_loopw [16] (fun ix wr => ∃ k : Nat, ix = .int .i64 k ∧ k ≤ n ∧ Hid (lowB (i.bl.take k) = true) ∧ Below w1.heap.size w1 wr) (fun ix _ => n - (intOf ix).toNat)
      case atStart => exact ⟨0, rfl, Nat.zero_le _, rfl, Below.refl _ _⟩
      case round =>
        obtain ⟨k, rfl, hkn, hlow, hbr⟩ := hrel
        clear x0 x1 x2 x3 x4 x5 x6 x7 x8 x9
        have hb3 := hb2.trans (hbr.mono hb2.size)
        obtain ⟨x0, x1, x2, x3, x4, x5, x6, x7, x8, x9⟩ := ten_cells (blk_below hit hbr)
        by_cases hlt : k < n
        · have hkl : k < i.bl.length := by rw [HB.out]; exact hlt
          obtain ⟨ad, rfl, c0, c1, c2, c3, c4, c5, c6⟩ := rd_blk (HR.out.rd.below hb3) hkl
          have hst : Hid (lowB (i.bl.take (k + 1)) = decide (i.bl[k].t < 16777216)) := by
            rw [Hid, List.take_succ_eq_append_getElem hkl, lowB, List.all_append, ← lowB, hlow.out]; simp
          by_cases ht : i.bl[k].t < 16777216
          · have ht' : decide ((16777216 : Int) ≤ i.bl[k].t) = false := by simp; omega
            have Ht := Lib.hid ht
            clear ht
            go_wp2
            exact ⟨⟨k + 1, rfl, by omega, by rw [Hid, hst.out]; simpa using Ht.out, hbr.alloc hbr.size _⟩, by simp [intOf]; omega⟩
          · have ht' : ((16777216 : Int) ≤ i.bl[k].t) := by omega
            have hf : lowB i.bl = false := by
              rw [← Bool.not_eq_true]; exact fun h => ht (rowK_low' _ hkl h)
            have HF : Hid (mayG i = false) := by rw [Hid, HMM.out, hf]; rfl
            clear hf
            go_wp2
            go_ret
            exact ⟨by rw [HF.out]; rfl, hb3.alloc hb3.size _⟩
        · have hl : lowB i.bl = true := by rw [← hlow.out, List.take_of_length_le (by rw [HB.out]; omega)]
          have HF : Hid (mayG i = decide (n ≤ 15)) := by rw [Hid, HMM.out, hl]; rfl
          clear hl
          go_wp2
          go_ret
          refine ⟨?_, hb3⟩
          rw [HF.out]
          refine congrArg Ending.returned (congrArg Value.bool ?_)
          rw [Bool.eq_iff_iff]
          simp
          try omega
  · have n0 : (i.k == 200) = false := by simp; omega
    have n1 : (i.k == 201) = false := by simp; omega
    have hm : mayG i = (if i.k = 203 then decide (1 ≤ gn ∧ gn ≤ 15) else if i.k = 205 then decide (1 ≤ pn ∧ pn ≤ 16) else decide (i.k = 206)) := by rw [HM2.out, if_neg h2]
    have HMM := Lib.hid hm
    clear HM2 hm h2
    have hq : (i.k == 203) = true ∨ ((i.k == 203) = false ∧ (i.k == 205) = true) ∨ ((i.k == 203) = false ∧ (i.k == 205) = false) := by
      cases h : (i.k == 203) <;> cases h' : (i.k == 205) <;> simp
    rcases hq with h3 | ⟨h3, h5⟩ | ⟨h3, h5⟩
    all_goals
      go_enter Try.func31, Try.ntmps31
      go_wp2_with (go_at_call 92; (with_reducible refine (rbare_any i A n c G gn gc P pn pc _ HB.out HGP.out.1 HGP.out.2).mono ?_); rintro e w1 ⟨rfl, hb1⟩; rw [hba]; have hb2 := ((Below.refl w.heap.size w).alloc (Nat.le_refl _) _).trans (hb1.mono (by simp)); have hit := blk_below (blk_alloc _ _) hb1; obtain ⟨x0, x1, x2, x3, x4, x5, x6, x7, x8, x9⟩ := ten_cells hit)
      all_goals
        go_ret
        refine ⟨?_, hb2⟩
        rw [HMM.out]
        refine congrArg Ending.returned (congrArg Value.bool ?_)
        go_tidy
        rw [Bool.eq_iff_iff]
        simp_all
        try omega
end Go.Proofs.Ytknlkmencdlpcaa
