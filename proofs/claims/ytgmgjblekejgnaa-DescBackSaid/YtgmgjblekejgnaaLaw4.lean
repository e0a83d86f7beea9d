/-
The walks of the laws over package desc.
-/
import Derived.Test.YtgmgjblekejgnaaDesc5
namespace Go.Proofs.Ytgmgjblekejgnaa
set_option linter.unusedVariables false
set_option linter.unusedSimpArgs false
open Go.RowKit

/-- A row of four is written anew: what the walk asks on its way, and the world behind it under one name. -/
theorem row4_pack {w0 w : World} {B g : Nat} {t : TypeId} {a b c d : Value} (h : w.heap[g]? = some (.cells #[a, b, c, d] t (0, 0))) (hb : Below B w0 w) (hB : B ≤ g) (a' b' c' d' : Value) :
    ∃ W : World, (((w.setCell ⟨g, 0, none⟩ a').setCell ⟨g, 1, none⟩ b').setCell ⟨g, 2, none⟩ c').setCell ⟨g, 3, none⟩ d' = W ∧
    (w.cell? ⟨g, 0, none⟩ = some a ∧ w.frozen? ⟨g, 0, none⟩ = false) ∧
    ((w.setCell ⟨g, 0, none⟩ a').cell? ⟨g, 1, none⟩ = some b ∧ (w.setCell ⟨g, 0, none⟩ a').frozen? ⟨g, 1, none⟩ = false) ∧
    (((w.setCell ⟨g, 0, none⟩ a').setCell ⟨g, 1, none⟩ b').cell? ⟨g, 2, none⟩ = some c ∧ ((w.setCell ⟨g, 0, none⟩ a').setCell ⟨g, 1, none⟩ b').frozen? ⟨g, 2, none⟩ = false) ∧
    ((((w.setCell ⟨g, 0, none⟩ a').setCell ⟨g, 1, none⟩ b').setCell ⟨g, 2, none⟩ c').cell? ⟨g, 3, none⟩ = some d ∧ (((w.setCell ⟨g, 0, none⟩ a').setCell ⟨g, 1, none⟩ b').setCell ⟨g, 2, none⟩ c').frozen? ⟨g, 3, none⟩ = false) ∧
    W.heap[g]? = some (.cells #[a', b', c', d'] t (0, 0)) ∧ Below B w0 W ∧ Hid (W.heap.size = w.heap.size) ∧ (∀ k, k ≠ g → W.heap[k]? = w.heap[k]?) := by
  obtain ⟨h0, h1, h2, h3, h4⟩ := row4_store h a' b' c' d'
  refine ⟨_, rfl, h0, h1, h2, h3, h4, (((hb.setCell (p := ⟨g, 0, none⟩) hB a').setCell (p := ⟨g, 1, none⟩) hB b').setCell (p := ⟨g, 2, none⟩) hB c').setCell (p := ⟨g, 3, none⟩) hB d', ?_, ?_⟩
  · show _ = _
    simp [World.setCell]
  · intro k hk
    rw [Below.heap_setCell _ _ _ _ hk, Below.heap_setCell _ _ _ _ hk, Below.heap_setCell _ _ _ _ hk, Below.heap_setCell _ _ _ _ hk]
theorem dget_agg (A : Option Addr) (n c : Nat) (l : List UInt8) (w : World) (hn : l.length = n) (hnc : n ≤ c) (hcm : c ≤ maxLen) (hr : Rd w A (bys l)) :
    Calls Try.prog 21 #[.slice A n c] w fun e w' => e = .returned (.tuple #[.agg #[.int .i64 (dL l), .bool (dK l), .bool (dS l), .int .u16 (dF l)], .int .i64 (dE l)]) ∧ Below w.heap.size w w' :=
  dget_any A n c l w hn hnc hcm hr
theorem rdget_agg (A : Option Addr) (n c : Nat) (l : List UInt8) (w : World) (hn : l.length = n) (hnc : n ≤ c) (hcm : c ≤ maxLen) (hr : Rd w A (bys l)) :
    Calls Try.prog 22 #[.slice A n c] w fun e w' => e = .returned (.tuple #[.agg #[.int .i64 (dL l), .bool (dK l), .bool (dS l), .int .u16 (dF l)], .int .i64 (dE l)]) ∧ Below w.heap.size w w' :=
  rdget_any A n c l w hn hnc hcm hr
theorem shown4_put (w : World) : Calls Try.prog 25 #[.agg #[.int .i64 2, .bool true, .bool false, .int .u16 258]] w fun e w' => ∃ A c', e = .returned (.slice A 4 c') ∧
      w'.ownsRow w.heap.size 5 1 (.slice A 4 c') 4 (bys [130, 90, 1, 2]) ∧ Below w.heap.size w w' :=
  dput_yes 2 true false 258 w (by omega) (by omega)
theorem shown4_get (W : World) (g : Nat) (hg : W.heap.size = g) :
    Calls Try.prog 21 #[.slice (some ⟨g, 0, none⟩) 5 5] (W.alloc (.cells #[.int .u8 64, .int .u8 90, .int .u8 0, .int .u8 7, .int .u8 1] 5)) fun e w' => e = .returned (.tuple #[.agg #[.int .i64 0, .bool false, .bool true, .int .u16 7], .int .i64 0]) ∧ Below g W w' := by
  refine (dget_any _ 5 5 [64, 90, 0, 7, 1] _ rfl (by omega) (by unfold maxLen; omega) (Rd.own (lit_own W [64, 90, 0, 7, 1] _ rfl 5 rfl (by unfold maxLen; omega) 0 g hg (Nat.zero_le _)))).mono ?_
  rintro e w' ⟨rfl, hb⟩
  have hsz : ∀ A : Array Value, (W.alloc (.cells A 5)).heap.size = g + 1 := fun A => by simp [hg]
  rw [hsz] at hb
  exact ⟨rfl, ((Below.refl g W).alloc (by omega) _).trans (hb.mono (by omega))⟩
set_option maxHeartbeats 400000 in
theorem shown4_any (w : World) : Calls Try.prog 20 #[] w fun e w' => e = .returned (.bool true) ∧ Below w.heap.size w w' := by
  go_enter Try.func20, Try.ntmps20
  go_wp2_with (first
    | (go_at_call 25; (with_reducible refine (shown4_put _).mono ?_); rintro e w1 ⟨A1, c1, rfl, hown1, hb1⟩)
    | (go_at_call 21; (with_reducible refine (shown4_get w1 _ rfl).mono ?_); rintro e w2 ⟨rfl, hb2⟩; have hcv := fun o => conv_own ((hown1.kept (own_below (hb2)) (own_none _)).alloc o))
    | (go_at_call 23; (with_reducible refine (dmay_any _ _ _ _ _).mono ?_); rintro e w3 ⟨rfl, hb3⟩))
  go_ret
  exact ⟨rfl, ((hb1.trans (hb2.mono hb1.size)).alloc (by have := hb1.size; have := hb2.size; omega) _).trans (hb3.mono (by have := hb1.size; have := hb2.size; simp; omega))⟩
end Go.Proofs.Ytgmgjblekejgnaa
