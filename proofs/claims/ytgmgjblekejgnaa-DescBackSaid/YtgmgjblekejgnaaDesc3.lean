/-
What the document's own descriptors are, said of cells.
-/
import Derived.Test.YtgmgjblekejgnaaDesc2
namespace Go.Proofs.Ytgmgjblekejgnaa
set_option linter.unusedVariables false
set_option linter.unusedSimpArgs false
open Go.RowKit

set_option maxHeartbeats 400000 in
theorem rdmay_any (L : Int) (k s : Bool) (f : Int) (w : World) :
    Calls Try.prog 24 #[.agg #[.int .i64 L, .bool k, .bool s, .int .u16 f]] w fun e w' => e = .returned (.bool (mayD L)) ∧ Below w.heap.size w w' := by
  go_enter Try.func24, Try.ntmps24
  go_wp2
  all_goals
    go_ret
    refine ⟨ret_bool ?_, (Below.refl _ _).alloc (Nat.le_refl _) _⟩
    rw [Bool.eq_iff_iff]
    simp [mayD]; omega
theorem rdput_no (L : Int) (k s : Bool) (f : Int) (w : World) (h : mayD L = false) :
    Calls Try.prog 26 #[.agg #[.int .i64 L, .bool k, .bool s, .int .u16 f]] w fun e w' => e = .returned (.slice none 0 0) ∧ Below w.heap.size w w' := by
  have H := Lib.hid h
  clear h
  go_enter Try.func26, Try.ntmps26
  go_wp2_with (go_at_call 24; (with_reducible refine (rdmay_any _ _ _ _ _).mono ?_); rintro e w1 ⟨rfl, hb1⟩; rw [H.out])
  go_ret
  exact ⟨rfl, ((Below.refl _ _).alloc (Nat.le_refl _) _).trans (hb1.mono (by simp))⟩
theorem desc_cells {w w1 : World} {L : Int} {k s : Bool} {f : Int}
    (hb1 : Below (w.alloc (.cells #[.int .i64 L, .bool k, .bool s, .int .u16 f] 40)).heap.size (w.alloc (.cells #[.int .i64 L, .bool k, .bool s, .int .u16 f] 40)) w1) :
    w1.cell? ⟨w.heap.size, 0, none⟩ = some (.int .i64 L) ∧ w1.cell? ⟨w.heap.size, 1, none⟩ = some (.bool k) ∧ w1.cell? ⟨w.heap.size, 2, none⟩ = some (.bool s) ∧ w1.cell? ⟨w.heap.size, 3, none⟩ = some (.int .u16 f) ∧ w.heap.size < w1.heap.size := by
  have hc : ∀ j v, (#[.int .i64 L, .bool k, .bool s, .int .u16 f] : Array Value)[j]? = some v → w1.cell? ⟨w.heap.size, j, none⟩ = some v := by
    intro j v hv
    have h0 : (w.alloc (.cells #[.int .i64 L, .bool k, .bool s, .int .u16 f] 40)).cell? ⟨w.heap.size, j, none⟩ = some v := by
      rw [cell_of_row _ _ _ _ _ _ (heap_alloc_new w _)]; exact hv
    rw [hb1.cell (by simp)]; exact h0
  exact ⟨hc 0 _ rfl, hc 1 _ rfl, hc 2 _ rfl, hc 3 _ rfl, by have := hb1.size; simp at this; omega⟩
theorem rdput_bytes (W : World) (g : Nat) (hg : W.heap.size = g) (X : Int) (x : UInt8) (f : Nat) (hX : X = x.toNat) (hf : f ≤ 65535) :
    Calls Try.prog 31 #[.int .i64 2, .int .u64 f] (W.alloc (.cells #[.int .u8 X, .int .u8 90] 5)) fun e w' => ∃ B c', e = .returned (.slice B 2 c') ∧
      w'.ownsRow (g + 1) 5 1 (.slice B 2 c') 2 (bys (enc 2 f)) ∧ w'.ownsRow g 5 1 (.slice (some ⟨g, 0, none⟩) 2 2) 2 (bys [x, 90]) ∧ Below g W w' := by
  subst hX
  have ho := lit_own W [x, 90] _ rfl 2 rfl (by unfold maxLen; omega) g g hg (Nat.le_refl _)
  refine (rbytes_any 2 f _ (by omega) (by omega)).mono ?_
  rintro e w' ⟨B, c', rfl, hown, hb⟩
  have hsz : ∀ A : Array Value, (W.alloc (.cells A 5)).heap.size = g + 1 := fun A => by simp [hg]
  have hk := ho.kept (own_below hb) (own_none _)
  rw [hsz] at hown hb
  exact ⟨B, c', rfl, hown, hk, ((Below.refl g W).alloc (by omega) _).trans (hb.mono (by omega))⟩
set_option maxHeartbeats 1000000 in
theorem rdput_yes (L : Nat) (k s : Bool) (f : Nat) (w : World) (hL : L ≤ 2) (hf : f ≤ 65535) :
    Calls Try.prog 26 #[.agg #[.int .i64 L, .bool k, .bool s, .int .u16 f]] w fun e w' => ∃ A c', e = .returned (.slice A 4 c') ∧
      w'.ownsRow w.heap.size 5 1 (.slice A 4 c') 4 (bys (descL L k s f)) ∧ Below w.heap.size w w' := by
  have H : Hid (mayD L = true) := by simp [Hid, mayD]; omega
  obtain ⟨D, hD⟩ : ∃ D, D = desc0 L k s := ⟨_, rfl⟩
  have hv : ((D.toNat : Nat) : Int) = L + (if k then 128 else 0) + (if s then 64 else 0) := by
    rw [hD]
    have : L = 0 ∨ L = 1 ∨ L = 2 := by omega
    rcases this with rfl | rfl | rfl <;> cases k <;> cases s <;> decide
  have hDL : descL L k s f = [D, 90] ++ enc 2 f := by rw [hD]; rfl
  have HDL := Lib.hid hDL
  clear hD hDL
  cases k <;> cases s
  all_goals
    simp only [if_true, if_false, Bool.false_eq_true, Int.add_zero] at hv
    go_enter Try.func26, Try.ntmps26
    go_wp2_with (first
      | (go_at_call 24; (with_reducible refine (rdmay_any _ _ _ _ _).mono ?_); rintro e w1 ⟨rfl, hb1⟩; rw [H.out]; obtain ⟨c0, c1, c2, c3, hsz⟩ := desc_cells hb1)
      | (go_at_call 31; (with_reducible refine (rdput_bytes w1 _ rfl _ D f (by omega) hf).mono ?_); rintro e w2 ⟨B, cB, rfl, hown2, hlit2, hb2⟩)
      | (at_builtin; refine wpList_app slU8 rfl _ _ rfl w1.heap.size (some ⟨w1.heap.size, 0, none⟩) 2 2 (bys [D, 90]) rfl hlit2 B 2 cB (bys (enc 2 f)) rfl (by rw [bys_length, enc_length]) (Rd.own hown2) (bys_one _) (by omega) hb2.size ?_; intro A3 c3 w3 hown3 hg3 hA3))
    go_ret
    rw [bys_append, ← HDL.out] at hown3
    have hb3 := hb2.grown hg3 hb2.size (by simp)
    exact ⟨A3, c3, rfl, own_base hown3 (by omega), ((Below.refl _ _).alloc (Nat.le_refl _) _).trans ((hb1.mono (by simp)).trans (hb3.mono (by omega)))⟩
end Go.Proofs.Ytgmgjblekejgnaa
