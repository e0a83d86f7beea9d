/-
The walk of the examples ahead of the laws over package arena.
-/
import Derived.Test.YtfmojphbjhedgaaAr7
namespace Go.Proofs.Ytfmojphbjhedgaa
set_option linter.unusedVariables false
set_option linter.unusedSimpArgs false
open Go.RowKit

theorem sh_new (w : World) : Calls Try.prog 8 #[.int .i64 2] w fun e w' => ∃ p, e = .returned (.pointer (some ⟨p, 0, none⟩)) ∧ (∃ q c, AA w' w.heap.size p q 2 c [(1, 0), (1, 0)]) ∧ Below w.heap.size w w' :=
  new_any 2 w (by omega)
theorem sh_take {base p q c : Nat} {w : World} (h : AA w base p q 2 c [(1, 0), (1, 0)]) :
    Calls Try.prog 11 #[.pointer (some ⟨p, 0, none⟩)] w fun e w' => e = .returned (.tuple #[.agg #[.int .i64 0, .int .u32 1], .int .i64 0]) ∧ AA w' base p q 2 c [(1, 1), (1, 0)] ∧ w.grownBy w' (some q) := take_any h
theorem sh_keep {base p q c : Nat} {w : World} (h : AA w base p q 2 c [(1, 1), (1, 0)]) :
    Calls Try.prog 13 #[.pointer (some ⟨p, 0, none⟩), .agg #[.int .i64 0, .int .u32 1]] w fun e w' => e = .returned (.int .i64 0) ∧ AA w' base p q 2 c [(1, 2), (1, 0)] ∧ w.grownBy w' (some q) := keep_any h 0 1 (by decide)
theorem sh_refs {base p q c : Nat} {w : World} (h : AA w base p q 2 c [(1, 2), (1, 0)]) :
    Calls Try.prog 17 #[.pointer (some ⟨p, 0, none⟩), .agg #[.int .i64 0, .int .u32 1]] w fun e w' => e = .returned (.int .i64 2) ∧ Below w.heap.size w w' := refs_any h 0 1
theorem sh_drop {base p q c : Nat} {w : World} (h : AA w base p q 2 c [(1, 2), (1, 0)]) :
    Calls Try.prog 15 #[.pointer (some ⟨p, 0, none⟩), .agg #[.int .i64 0, .int .u32 1]] w fun e w' => e = .returned (.int .i64 0) ∧ AA w' base p q 2 c [(1, 1), (1, 0)] ∧ w.grownBy w' (some q) := drop_any h 0 1 (by decide)
theorem sh_drop2 {base p q c : Nat} {w : World} (h : AA w base p q 2 c [(1, 1), (1, 0)]) :
    Calls Try.prog 15 #[.pointer (some ⟨p, 0, none⟩), .agg #[.int .i64 0, .int .u32 1]] w fun e w' => e = .returned (.int .i64 0) ∧ AA w' base p q 2 c [(2, 0), (1, 0)] ∧ w.grownBy w' (some q) := drop_any h 0 1 (by decide)
theorem sh_free {base p q c : Nat} {w : World} (h : AA w base p q 2 c [(2, 0), (1, 0)]) :
    Calls Try.prog 19 #[.pointer (some ⟨p, 0, none⟩)] w fun e w' => e = .returned (.int .i64 2) ∧ Below w.heap.size w w' := free_any h
theorem sh_keep2 {base p q c : Nat} {w : World} (h : AA w base p q 2 c [(2, 0), (1, 0)]) :
    Calls Try.prog 13 #[.pointer (some ⟨p, 0, none⟩), .agg #[.int .i64 0, .int .u32 1]] w fun e w' => e = .returned (.int .i64 7) ∧ AA w' base p q 2 c [(2, 0), (1, 0)] ∧ w.grownBy w' (some q) := keep_any h 0 1 (by decide)
theorem sh_slots {base p q c : Nat} {w : World} (h : AA w base p q 2 c [(2, 0), (1, 0)]) :
    Calls Try.prog 22 #[.pointer (some ⟨p, 0, none⟩)] w fun e w' => ∃ g c', e = .returned (.slice (some ⟨g, 0, none⟩) 2 c') ∧
      w'.cell? ⟨g, 0, none⟩ = some (.int .u32 2) ∧ Below w.heap.size w w' := (slots_any h).mono fun e w' ⟨g, c', he, ho, hb⟩ => ⟨g, c', he, ho.cellAt 0 (by omega), hb⟩
theorem cell2_kept {w w' : World} {b q : Nat} {x y : Value} {t : TypeId} (h : w.heap[b]? = some (.cells #[x, y] t (0, 0))) (hg : w.grownBy w' (some q)) (hne : b ≠ q) : w'.heap[b]? = some (.cells #[x, y] t (0, 0)) :=
  (hg.block b (block_lt h) (by simpa using hne)).trans h
theorem below_more {w w1 w2 : World} {q : Nat} (h : Below w.heap.size w w1) (hg : w1.grownBy w2 (some q)) (hq : w.heap.size ≤ q) : Below w.heap.size w w2 :=
  h.grown hg h.size (by intro k hk; injection hk; omega)
set_option maxHeartbeats 1000000 in
theorem shown11_any (w : World) : Calls Try.prog 7 #[] w fun e w' => e = .returned (.bool true) ∧ Below w.heap.size w w' := by
  go_enter Try.func7, Try.ntmps7
  go_wp2_with (first
    | (go_at_call 8; (with_reducible refine (sh_new _).mono ?_); rintro e w1 ⟨p, rfl, ⟨q, c, h1⟩, hb1⟩)
    | (go_at_call 11; (with_reducible refine (sh_take h1).mono ?_); rintro e w2 ⟨rfl, h2, hg2⟩; have hq := h2.qlt; have h2' := fun o => h2.below ((Below.refl w2.heap.size w2).alloc (Nat.le_refl _) o); have d2 := heap_alloc_new w2 (.cells #[.int .i64 0, .int .u32 1] 31))
    | (go_at_call 13; (with_reducible refine (sh_keep (h2' _)).mono ?_); rintro e w3 ⟨rfl, h3, hg3⟩; have d3 := cell2_kept d2 hg3 (by omega); obtain ⟨b0, b1⟩ := row2_cells d3)
    | (go_at_call 17; (with_reducible refine (sh_refs h3).mono ?_); rintro e w4 ⟨rfl, hb4⟩; have h4 := h3.below hb4; have d4 := (hb4.block w2.heap.size (block_lt d3)).trans d3; obtain ⟨b0, b1⟩ := row2_cells d4)
    | (go_at_call 15; (with_reducible refine (sh_drop h4).mono ?_); rintro e w5 ⟨rfl, h5, hg5⟩; have d5 := cell2_kept d4 hg5 (by omega); obtain ⟨b0, b1⟩ := row2_cells d5)
    | (go_at_call 15; (with_reducible refine (sh_drop2 h5).mono ?_); rintro e w6 ⟨rfl, h6, hg6⟩; have d6 := cell2_kept d5 hg6 (by omega); obtain ⟨b0, b1⟩ := row2_cells d6)
    | (go_at_call 19; (with_reducible refine (sh_free h6).mono ?_); rintro e w7 ⟨rfl, hb7⟩; have h7 := h6.below hb7; have d7 := (hb7.block w2.heap.size (block_lt d6)).trans d6; obtain ⟨b0, b1⟩ := row2_cells d7)
    | (go_at_call 13; (with_reducible refine (sh_keep2 h7).mono ?_); rintro e w8 ⟨rfl, h8, hg8⟩)
    | (go_at_call 22; (with_reducible refine (sh_slots h8).mono ?_); rintro e w9 ⟨g9, c9, rfl, x9, hb9⟩; have h9 := h8.below hb9)
    | (go_at_call 22; (with_reducible refine (sh_slots h9).mono ?_); rintro e w10 ⟨g10, c10, rfl, x10, hb10⟩))
  go_ret
  have c2 := below_more hb1 hg2 hq.1
  have c2 := c2.alloc c2.size (.cells #[.int .i64 0, .int .u32 1] 31)
  have c3 := below_more c2 hg3 hq.1
  have c4 := c3.trans (hb4.mono c3.size)
  have c5 := below_more c4 hg5 hq.1
  have c6 := below_more c5 hg6 hq.1
  have c7 := c6.trans (hb7.mono c6.size)
  have c8 := below_more c7 hg8 hq.1
  have c9 := c8.trans (hb9.mono c8.size)
  exact ⟨rfl, c9.trans (hb10.mono c9.size)⟩
end Go.Proofs.Ytfmojphbjhedgaa
