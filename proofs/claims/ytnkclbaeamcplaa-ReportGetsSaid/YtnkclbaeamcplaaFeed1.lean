/-
What the functions of package sluicegateref4 do that tell whether an item may be.
-/
import Derived.Test.YtnkclbaeamcplaaFeedN
import Derived.Test.YtnkclbaeamcplaaField2
import Derived.Test.YtnkclbaeamcplaaSto
namespace Go.Proofs.Ytnkclbaeamcplaa
set_option linter.unusedVariables false
set_option linter.unusedSimpArgs false
open Go Go.RowKit

theorem isrep_any (k : Int) (w : World) : Calls Try.prog 17 #[.int .i64 k] w fun e w' => e = .returned (.bool (knownB k)) ∧ w = w' := by
  go_enter Try.func17, Try.ntmps17
  go_wp2
  all_goals
    go_ret
    refine ⟨congrArg Ending.returned (congrArg Value.bool ?_), rfl⟩
    rw [Bool.eq_iff_iff]
    simp [knownB]
    try omega
section
variable (i : Itm) (A : Option Addr) (n c : Nat) (G : Option Addr) (gn gc : Nat) (P : Option Addr) (pn pc : Nat) (w : World)
set_option maxRecDepth 20000 in
set_option maxHeartbeats 4000000 in
theorem rbare_any (hb : i.bl.length = n) (hg : i.go.length = gn) (hp : i.pr.length = pn) :
    Calls Try.prog 39 #[.agg #[.int .i64 i.k, .int .u32 i.s, .int .u64 i.ntp, .int .u32 i.tm, .int .u32 i.pk, .int .u32 i.oc, .slice A n c, .slice G gn gc, .int .u32 i.me, .slice P pn pc]] w fun e w' =>
      e = .returned (.bool (bareG i)) ∧ Below w.heap.size w w' := by
  obtain ⟨k, s, ntp, tm, pk, oc, bl, go, me, pr⟩ := i
  simp only at hb hg hp ⊢
  have hkk : k = 200 ∨ k = 201 ∨ k = 203 ∨ k = 205 ∨ k = 206 ∨ ((k == 200) = false ∧ (k == 201) = false ∧ (k != 203) = true ∧ (k == 205) = false ∧ (k == 206) = false) := by
    by_cases h0 : k = 200
    · exact .inl h0
    by_cases h1 : k = 201
    · exact .inr (.inl h1)
    by_cases h2 : k = 203
    · exact .inr (.inr (.inl h2))
    by_cases h3 : k = 205
    · exact .inr (.inr (.inr (.inl h3)))
    by_cases h4 : k = 206
    · exact .inr (.inr (.inr (.inr (.inl h4))))
    · exact .inr (.inr (.inr (.inr (.inr ⟨by simp [h0], by simp [h1], by simp [h2], by simp [h3], by simp [h4]⟩))))
  rcases hkk with rfl | rfl | rfl | rfl | rfl | ⟨h0, h1, h2, h3, h4⟩
  all_goals
    go_enter Try.func39, Try.ntmps39
    go_wp2
    all_goals
      go_ret
      refine ⟨congrArg Ending.returned (congrArg Value.bool ?_), (Below.refl _ _).alloc (Nat.le_refl _) _⟩
      rw [Bool.eq_iff_iff]
      go_tidy
      simp_all [bareG, ← List.length_eq_zero_iff]
      try omega
end
end Go.Proofs.Ytnkclbaeamcplaa
