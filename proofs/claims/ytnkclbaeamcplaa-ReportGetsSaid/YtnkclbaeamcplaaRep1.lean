/-
What the functions of package report do that tell whether a report may be.
-/
import Derived.Test.YtnkclbaeamcplaaRepN
import Derived.Test.YtnkclbaeamcplaaField2
import Derived.Test.YtnkclbaeamcplaaReg
namespace Go.Proofs.Ytnkclbaeamcplaa
set_option linter.unusedVariables false
set_option linter.unusedSimpArgs false
open Go Go.RowKit

set_option maxHeartbeats 400000 in
theorem known_any (k : Int) (w : World) : Calls Try.prog 34 #[.int .i64 k] w fun e w' => e = .returned (.bool (knownB k)) ∧ w = w' := by
  go_enter Try.func34, Try.ntmps34
  go_wp2
  all_goals
    go_ret
    refine ⟨congrArg Ending.returned (congrArg Value.bool ?_), rfl⟩
    rw [Bool.eq_iff_iff]
    simp [knownB]
    try omega

set_option maxHeartbeats 400000 in
theorem size_any (k : Int) (n : Nat) (w : World) (hn : n ≤ 1000) : Calls Try.prog 36 #[.int .i64 k, .int .i64 n] w fun e w' => e = .returned (.int .i64 (sizeR k n : Nat)) ∧ w = w' := by
  go_enter Try.func36, Try.ntmps36
  go_wp2
  all_goals
    go_ret
    refine ⟨congrArg Ending.returned (congrArg (Value.int .i64) ?_), rfl⟩
    rename_i hk
    simp at hk
    simp only [sizeR, hk, if_true, if_false]
    omega

theorem rowK_low (l : List Blk) {k : Nat} (h : k < l.length) : lowB l = true → l[k].t < 16777216 := fun hl => by
  unfold lowB at hl
  rw [List.all_eq_true] at hl
  simpa using hl _ (List.getElem_mem h)
section
variable (i : Itm) (A : Option Addr) (n c : Nat) (G : Option Addr) (gn gc : Nat) (P : Option Addr) (pn pc : Nat) (w : World)
set_option maxHeartbeats 1000000 in
theorem bare_any (hg : i.go.length = gn) (hp : i.pr.length = pn) :
    Calls Try.prog 40 #[.agg #[.int .i64 i.k, .int .u32 i.s, .int .u64 i.ntp, .int .u32 i.tm, .int .u32 i.pk, .int .u32 i.oc, .slice A n c, .slice G gn gc, .int .u32 i.me, .slice P pn pc]] w fun e w' =>
      e = .returned (.bool (bareB i)) ∧ Below w.heap.size w w' := by
  go_enter Try.func40, Try.ntmps40
  go_wp2
  all_goals
    go_ret
    refine ⟨congrArg Ending.returned (congrArg Value.bool ?_), (Below.refl _ _).alloc (Nat.le_refl _) _⟩
    rw [Bool.eq_iff_iff]
    go_tidy
    simp_all [bareB, ← List.length_eq_zero_iff]
    try omega

set_option maxRecDepth 20000 in
set_option maxHeartbeats 1000000 in
theorem may_any (hr : Row w A n c 7 28 (rowK i.bl)) (hg : i.go.length = gn) (hp : i.pr.length = pn) :
    Calls Try.prog 19 #[.agg #[.int .i64 i.k, .int .u32 i.s, .int .u64 i.ntp, .int .u32 i.tm, .int .u32 i.pk, .int .u32 i.oc, .slice A n c, .slice G gn gc, .int .u32 i.me, .slice P pn pc]] w fun e w' =>
      e = .returned (.bool (mayR i)) ∧ Below w.heap.size w w' := by
  have hbl : i.bl.length = n := by have := hr.len; rw [rowK_length] at this; omega
  have HB := Lib.hid hbl
  have HR := Lib.hid hr
  have hcm := hr.cm
  have hnc := hr.nc
  clear hr hbl
  have hmay : mayR i = (knownB i.k && bareB i && decide (n ≤ 15) && lowB i.bl) := by rw [mayR, HB.out]
  rw [hmay]
  clear hmay
  cases hk : knownB i.k
  · go_enter Try.func19, Try.ntmps19
    go_wp2_with (go_at_call 34; (with_reducible refine (known_any _ _).mono ?_); rintro e w1 ⟨rfl, rfl⟩; rw [hk])
    go_ret
    exact ⟨rfl, (Below.refl _ _).alloc (Nat.le_refl _) _⟩
  cases hba : bareB i
  · go_enter Try.func19, Try.ntmps19
    go_wp2_with (first
      | (go_at_call 34; (with_reducible refine (known_any _ _).mono ?_); rintro e w1 ⟨rfl, rfl⟩; rw [hk])
      | (go_at_call 40; (with_reducible refine (bare_any i A n c G gn gc P pn pc _ hg hp).mono ?_); rintro e w1 ⟨rfl, hb1⟩; rw [hba]))
    go_ret
    exact ⟨rfl, (((Below.refl _ _).alloc (Nat.le_refl _) _).trans (hb1.mono (by simp)))⟩
  by_cases h15 : n ≤ 15
  · rw [decide_eq_true h15]
    go_enter Try.func19, Try.ntmps19
    go_wp2_with (first
      | (go_at_call 34; (with_reducible refine (known_any _ _).mono ?_); rintro e w1 ⟨rfl, rfl⟩; rw [hk])
      | (go_at_call 40; (with_reducible refine (bare_any i A n c G gn gc P pn pc _ hg hp).mono ?_); rintro e w1 ⟨rfl, hb1⟩; rw [hba]; have hb2 := ((Below.refl w.heap.size w).alloc (Nat.le_refl _) _).trans (hb1.mono (by simp)); obtain ⟨x0, x1, x2, x3, x4, x5, x6, x7, x8, x9⟩ := row10_cells (blk_below (blk_alloc _ _) hb1)))
    go_loopw [23] (fun ix wr => ∃ k : Nat, ix = .int .i64 k ∧ k ≤ n ∧ lowB (i.bl.take k) = true ∧ Below w.heap.size w wr) (fun ix _ => n - (intOf ix).toNat)
    case atStart => exact ⟨0, rfl, Nat.zero_le _, rfl, hb2⟩
    case round =>
      obtain ⟨k, rfl, hkn, hlow, hbr⟩ := hrel
      by_cases hlt : k < n
      · have hkl : k < i.bl.length := by rw [HB.out]; exact hlt
        obtain ⟨ad, rfl, c0, c1, c2, c3, c4, c5, c6⟩ := rd_blk (HR.out.rd.below hbr) hkl
        have hst : Hid (lowB (i.bl.take (k + 1)) = decide (i.bl[k].t < 16777216)) := by
          rw [Hid, List.take_succ_eq_append_getElem hkl, lowB, List.all_append, ← lowB, hlow]; simp
        clear hlow
        by_cases ht : i.bl[k].t < 16777216
        · have ht' : decide ((16777216 : Int) ≤ i.bl[k].t) = false := by simp; omega
          have Ht := Lib.hid ht
          clear ht
          go_wp2
          exact ⟨⟨k + 1, rfl, by omega, by rw [hst.out]; simpa using Ht.out, hbr.alloc hbr.size _⟩, by simp [intOf]; omega⟩
        · have ht' : ((16777216 : Int) ≤ i.bl[k].t) := by omega
          have hf : lowB i.bl = false := by
            rw [← Bool.not_eq_true]; exact fun h => ht (rowK_low _ hkl h)
          go_wp2
          go_ret
          exact ⟨by rw [hf]; rfl, hbr.alloc hbr.size _⟩
      · go_wp2
        go_ret
        have : lowB i.bl = true := by rw [← hlow, List.take_of_length_le (by rw [HB.out]; omega)]
        exact ⟨by rw [this]; rfl, hbr⟩
  · rw [decide_eq_false h15]
    go_enter Try.func19, Try.ntmps19
    go_wp2_with (first
      | (go_at_call 34; (with_reducible refine (known_any _ _).mono ?_); rintro e w1 ⟨rfl, rfl⟩; rw [hk])
      | (go_at_call 40; (with_reducible refine (bare_any i A n c G gn gc P pn pc _ hg hp).mono ?_); rintro e w1 ⟨rfl, hb1⟩; rw [hba]; have hb2 := ((Below.refl w.heap.size w).alloc (Nat.le_refl _) _).trans (hb1.mono (by simp)); obtain ⟨x0, x1, x2, x3, x4, x5, x6, x7, x8, x9⟩ := row10_cells (blk_below (blk_alloc _ _) hb1)))
    go_ret
    exact ⟨rfl, hb2⟩
end
end Go.Proofs.Ytnkclbaeamcplaa
