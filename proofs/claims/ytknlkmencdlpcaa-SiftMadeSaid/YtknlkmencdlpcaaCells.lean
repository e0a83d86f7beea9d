/-
A packet in memory, cell by cell; a store into one of them.
-/
import Derived.Test.YtknlkmencdlpcaaRtp4
import Derived.Test.YtknlkmencdlpcaaRep1
namespace Go.Proofs.Ytknlkmencdlpcaa
set_option linter.unusedVariables false
set_option linter.unusedSimpArgs false
open Go Go.RowKit

theorem slU32R : SliceT Try.prog 37 24 (.int .u32 0) 1 4 := sliceT_of Try.underlying37 (by kernel_rfl) rfl (by omega) (by omega)
theorem u32s_snoc (l : List Nat) (z : Nat) : u32s (l ++ [z]) = u32s l ++ [.int .u32 z] := by simp [u32s]
theorem lit_u32 (w : World) (z : Nat) : Rd (w.alloc (.cells #[.int .u32 z] 24)) (some ⟨w.heap.size, 0, none⟩) [.int .u32 z] := by
  intro j u hu
  refine ⟨_, rfl, ?_⟩
  rw [add_lit, cell_of_row _ _ _ _ _ _ (heap_alloc_new w _)]
  rw [← hu]
  show (([Value.int .u32 z]).toArray)[j]? = _
  exact List.getElem?_toArray
theorem three_cells {w : World} {g : Nat} {t : TypeId} {fr : Nat × Nat} {a0 a1 a2 : Value} (h : w.heap[g]? = some (.cells #[a0, a1, a2] t fr)) : w.cell? ⟨g, 0, none⟩ = some a0 ∧ w.cell? ⟨g, 1, none⟩ = some a1 ∧ w.cell? ⟨g, 2, none⟩ = some a2 := by
  refine ⟨?_, ?_, ?_⟩ <;> (rw [cell_of_row _ _ _ _ _ _ h]; rfl)
/-- A part of bytes, as Go's slice of them has it. -/
theorem part_rd {w : World} {ad : Addr} {n c : Nat} {l : List UInt8} (h : Bts w (some ad) n c l) (lo k : Nat) (hlo : lo + k ≤ n) : Rd w (some (ad.add lo)) (bys ((l.drop lo).take k)) := by
  have h1 := (h.rd.drop lo).take k
  rw [bys_drop, bys_take] at h1
  exact h1
theorem part_nil {w : World} {ad : Addr} {n c : Nat} {l : List UInt8} (h : Bts w (some ad) n c l) (lo k : Nat) (hlo : lo + k ≤ n) (hc : c = lo) : Rd w (some ad) (bys ((l.drop lo).take k)) := by
  have : k = 0 := by have := h.nc; omega
  subst this
  rw [List.take_zero]
  exact Rd.nil _ _
theorem part_if {w : World} {ad : Addr} {n c : Nat} {l : List UInt8} (h : Bts w (some ad) n c l) (lo k : Nat) (hlo : lo + k ≤ n) : Rd w (if c = lo then some ad else some (ad.add lo)) (bys ((l.drop lo).take k)) := by
  split
  · exact part_nil h lo k hlo (by assumption)
  · exact part_rd h lo k hlo
theorem if_some {c lo : Nat} {ad : Addr} {n d : Nat} (h : (if c = lo then some ad else some (ad.add lo)) = none) : n = 0 ∧ d = 0 := by split at h <;> cases h
theorem cell_set {w : World} {g : Nat} {cs : Array Value} {t : TypeId} (h : w.heap[g]? = some (.cells cs t (0, 0))) (j : Nat) (u v : Value) (hu : cs[j]? = some u) :
    (w.cell? ⟨g, j, none⟩ = some u ∧ w.frozen? ⟨g, j, none⟩ = false) ∧ (w.setCell ⟨g, j, none⟩ v).heap[g]? = some (.cells (cs.setIfInBounds j v) t (0, 0)) ∧ w.grownBy (w.setCell ⟨g, j, none⟩ v) (some g) :=
  ⟨⟨by rw [cell_of_row _ _ _ _ _ _ h]; exact hu, frozen_of_row _ _ _ _ _ h⟩, heap_setCell_same w g j _ t v h, set_one w g j v⟩
theorem eleven_234 {w : World} {g : Nat} {t : TypeId} {a0 a1 a2 a3 a4 a5 a6 a7 a8 a9 a10 : Value} (h : w.heap[g]? = some (.cells #[a0, a1, a2, a3, a4, a5, a6, a7, a8, a9, a10] t (0, 0))) (v2 v3 v4 : Value) :
    ((w).cell? ⟨g, 2, none⟩ = some a2 ∧ (w).frozen? ⟨g, 2, none⟩ = false) ∧ ((((w).setCell ⟨g, 2, none⟩ v2)).cell? ⟨g, 3, none⟩ = some a3 ∧ (((w).setCell ⟨g, 2, none⟩ v2)).frozen? ⟨g, 3, none⟩ = false) ∧ ((((((w).setCell ⟨g, 2, none⟩ v2)).setCell ⟨g, 3, none⟩ v3)).cell? ⟨g, 4, none⟩ = some a4 ∧ (((((w).setCell ⟨g, 2, none⟩ v2)).setCell ⟨g, 3, none⟩ v3)).frozen? ⟨g, 4, none⟩ = false) ∧ (((((((w).setCell ⟨g, 2, none⟩ v2)).setCell ⟨g, 3, none⟩ v3)).setCell ⟨g, 4, none⟩ v4)).heap[g]? = some (.cells #[a0, a1, v2, v3, v4, a5, a6, a7, a8, a9, a10] t (0, 0)) ∧ w.grownBy ((((((w).setCell ⟨g, 2, none⟩ v2)).setCell ⟨g, 3, none⟩ v3)).setCell ⟨g, 4, none⟩ v4) (some g) := by
  obtain ⟨c2, h2, g2⟩ := cell_set h 2 a2 v2 rfl
  obtain ⟨c3, h3, g3⟩ := cell_set h2 3 a3 v3 rfl
  obtain ⟨c4, h4, g4⟩ := cell_set h3 4 a4 v4 rfl
  exact ⟨c2, c3, c4, h4, (grown_tr (grown_tr g2 g3) g4)⟩
theorem eleven_5 {w : World} {g : Nat} {t : TypeId} {a0 a1 a2 a3 a4 a5 a6 a7 a8 a9 a10 : Value} (h : w.heap[g]? = some (.cells #[a0, a1, a2, a3, a4, a5, a6, a7, a8, a9, a10] t (0, 0))) (v5 : Value) :
    ((w).cell? ⟨g, 5, none⟩ = some a5 ∧ (w).frozen? ⟨g, 5, none⟩ = false) ∧ (((w).setCell ⟨g, 5, none⟩ v5)).heap[g]? = some (.cells #[a0, a1, a2, a3, a4, v5, a6, a7, a8, a9, a10] t (0, 0)) ∧ w.grownBy ((w).setCell ⟨g, 5, none⟩ v5) (some g) := by
  obtain ⟨c5, h5, g5⟩ := cell_set h 5 a5 v5 rfl
  exact ⟨c5, h5, g5⟩
theorem eleven_678 {w : World} {g : Nat} {t : TypeId} {a0 a1 a2 a3 a4 a5 a6 a7 a8 a9 a10 : Value} (h : w.heap[g]? = some (.cells #[a0, a1, a2, a3, a4, a5, a6, a7, a8, a9, a10] t (0, 0))) (v6 v7 v8 : Value) :
    ((w).cell? ⟨g, 6, none⟩ = some a6 ∧ (w).frozen? ⟨g, 6, none⟩ = false) ∧ ((((w).setCell ⟨g, 6, none⟩ v6)).cell? ⟨g, 7, none⟩ = some a7 ∧ (((w).setCell ⟨g, 6, none⟩ v6)).frozen? ⟨g, 7, none⟩ = false) ∧ ((((((w).setCell ⟨g, 6, none⟩ v6)).setCell ⟨g, 7, none⟩ v7)).cell? ⟨g, 8, none⟩ = some a8 ∧ (((((w).setCell ⟨g, 6, none⟩ v6)).setCell ⟨g, 7, none⟩ v7)).frozen? ⟨g, 8, none⟩ = false) ∧ (((((((w).setCell ⟨g, 6, none⟩ v6)).setCell ⟨g, 7, none⟩ v7)).setCell ⟨g, 8, none⟩ v8)).heap[g]? = some (.cells #[a0, a1, a2, a3, a4, a5, v6, v7, v8, a9, a10] t (0, 0)) ∧ w.grownBy ((((((w).setCell ⟨g, 6, none⟩ v6)).setCell ⟨g, 7, none⟩ v7)).setCell ⟨g, 8, none⟩ v8) (some g) := by
  obtain ⟨c6, h6, g6⟩ := cell_set h 6 a6 v6 rfl
  obtain ⟨c7, h7, g7⟩ := cell_set h6 7 a7 v7 rfl
  obtain ⟨c8, h8, g8⟩ := cell_set h7 8 a8 v8 rfl
  exact ⟨c6, c7, c8, h8, (grown_tr (grown_tr g6 g7) g8)⟩
theorem eleven_9 {w : World} {g : Nat} {t : TypeId} {a0 a1 a2 a3 a4 a5 a6 a7 a8 a9 a10 : Value} (h : w.heap[g]? = some (.cells #[a0, a1, a2, a3, a4, a5, a6, a7, a8, a9, a10] t (0, 0))) (v9 : Value) :
    ((w).cell? ⟨g, 9, none⟩ = some a9 ∧ (w).frozen? ⟨g, 9, none⟩ = false) ∧ (((w).setCell ⟨g, 9, none⟩ v9)).heap[g]? = some (.cells #[a0, a1, a2, a3, a4, a5, a6, a7, a8, v9, a10] t (0, 0)) ∧ w.grownBy ((w).setCell ⟨g, 9, none⟩ v9) (some g) := by
  obtain ⟨c9, h9, g9⟩ := cell_set h 9 a9 v9 rfl
  exact ⟨c9, h9, g9⟩
theorem eleven_10 {w : World} {g : Nat} {t : TypeId} {a0 a1 a2 a3 a4 a5 a6 a7 a8 a9 a10 : Value} (h : w.heap[g]? = some (.cells #[a0, a1, a2, a3, a4, a5, a6, a7, a8, a9, a10] t (0, 0))) (v10 : Value) :
    ((w).cell? ⟨g, 10, none⟩ = some a10 ∧ (w).frozen? ⟨g, 10, none⟩ = false) ∧ (((w).setCell ⟨g, 10, none⟩ v10)).heap[g]? = some (.cells #[a0, a1, a2, a3, a4, a5, a6, a7, a8, a9, v10] t (0, 0)) ∧ w.grownBy ((w).setCell ⟨g, 10, none⟩ v10) (some g) := by
  obtain ⟨c9, h9, g9⟩ := cell_set h 10 a10 v10 rfl
  exact ⟨c9, h9, g9⟩
theorem Row.front {w : World} {A : Option Addr} {n c : Nat} {l : List UInt8} (h : Row w A n c 1 1 (bys l)) {d : Nat} (hd : d ≤ n) : Row w A d c 1 1 (bys (l.take d)) := by
  have hl := h.len
  rw [bys_length] at hl
  refine ⟨by rw [bys_length, List.length_take]; omega, Nat.le_trans hd h.nc, h.cm, fun e => ⟨by have := h.nil e; omega, (h.nil e).2⟩, ?_⟩
  rw [← bys_take]
  exact h.rd.take d
theorem own_leq {w : World} {base : Nat} {B : Option Addr} {n c : Nat} {l : List UInt8} (h : w.ownsRow base 5 1 (.slice B n c) n (bys l)) : n ≤ c := (own_cap h).1
theorem hid_of {p : Prop} (h : p) : Hid p := h
end Go.Proofs.Ytknlkmencdlpcaa
