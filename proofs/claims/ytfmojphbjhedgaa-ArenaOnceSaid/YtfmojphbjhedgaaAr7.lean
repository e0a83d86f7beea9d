/-
The walks of New.
-/
import Derived.Test.YtfmojphbjhedgaaAr6
namespace Go.Proofs.Ytfmojphbjhedgaa
set_option linter.unusedVariables false
set_option linter.unusedSimpArgs false
open Go.RowKit

/-- How many slots are made. -/
def sizeS (N : Int) : Nat := (max 1 (min N 1024)).toNat
theorem sizeS_is (N : Int) : ((sizeS N : Nat) : Int) = max 1 (min N 1024) ∧ 1 ≤ sizeS N ∧ sizeS N ≤ 1024 := by
  unfold sizeS; omega
theorem own_mono {w : World} {base base' : Nat} {e : TypeId} {size : Nat} {v : Value} {n : Nat} {xs : List Value} (h : w.ownsRow base e size v n xs) (hb : base' ≤ base) : w.ownsRow base' e size v n xs :=
  ⟨h.1, h.2.imp id fun ⟨g, cap, cur, h1, h2, h3⟩ => ⟨g, cap, cur, h1, Nat.le_trans hb h2, h3⟩⟩
theorem repeat_any' (M : Int) (X : Addr) (m : Nat) (w : World) (hM : (m : Int) = M) (h1 : 1 ≤ m) (h2 : m ≤ 1024) (hr : Rd w (some X) (rowS [(1, 0)])) :
    Calls Try.prog 23 #[.slice (some X) 1 1, .int .i64 M] w fun e w' => ∃ g, e = .returned (.slice (some ⟨g, 0, none⟩) m m) ∧
      w'.ownsRow w.heap.size 53 2 (.slice (some ⟨g, 0, none⟩) m m) m (rowS (List.replicate m (1, 0))) ∧ Below w.heap.size w w' := by
  subst hM
  exact repeat_any X m w h1 h2 hr
set_option maxHeartbeats 400000 in
theorem new_any (N : Int) (w : World) (hN : -9223372036854775808 ≤ N ∧ N ≤ 9223372036854775807) :
    Calls Try.prog 8 #[.int .i64 N] w fun e w' => ∃ p, e = .returned (.pointer (some ⟨p, 0, none⟩)) ∧ (∃ q c, AA w' w.heap.size p q (sizeS N) c (List.replicate (sizeS N) (1, 0))) ∧ Below w.heap.size w w' := by
  obtain ⟨h1, h2, h3⟩ := sizeS_is N
  have H1 := Lib.hid h1
  clear h1
  have hrd : Rd (w.alloc (.cells #[.int .u32 1, .int .i64 0] 53)) (some ⟨w.heap.size, 0, none⟩) (rowS [(1, 0)]) :=
    rd_row (World.ownsRow_lit (base := 0) (e := 53) (size := 2) w #[.int .u32 1, .int .i64 0] 1 (Nat.zero_le _) (by unfold maxLen; omega) rfl)
  go_enter Try.func8, Try.ntmps8
  go_wp2_with (go_at_call 23; (with_reducible refine (repeat_any' _ _ (sizeS N) _ (by rw [H1.out]; omega) h2 h3 hrd).mono ?_); rintro e w1 ⟨q, rfl, ho, hb⟩)
  all_goals
    go_ret
    have hb0 := ((Below.refl w.heap.size w).alloc (Nat.le_refl _) (.cells #[.int .u32 1, .int .i64 0] 53)).trans (hb.mono (by simp))
    refine ⟨w1.heap.size, rfl, ⟨q, sizeS N, ⟨by decide, hb0.size, heap_alloc_new w1 _, ?_, by simp, h3, by omega, ?_⟩⟩, hb0.alloc hb0.size _⟩
    · exact (own_mono ho (by simp)).alloc _
    · intro s hs
      rw [List.eq_of_mem_replicate hs]
      decide
end Go.Proofs.Ytfmojphbjhedgaa
