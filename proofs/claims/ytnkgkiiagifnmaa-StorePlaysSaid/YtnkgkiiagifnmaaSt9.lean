/-
The choice of a handle in law 12; Refs and Free of the document's own store.
-/
import Derived.Test.YtnkgkiiagifnmaaSt8
namespace Go.Proofs.Ytnkgkiiagifnmaa
set_option linter.unusedVariables false
set_option linter.unusedSimpArgs false
open Go Go.RowKit

theorem Rto.refs {w : World} {base : Nat} {F : Nat → Prop} {P n : Nat} {S : List Slo} {L : Nat → List UInt8} (h : Rto w base F P n S L) (i gn : Int) :
    Calls Try.prog 54 #[.pointer (some ⟨P, 0, none⟩), .agg #[.int .i64 i, .int .u32 gn]] w fun e w' => e = .returned (.int .i64 (refsS S i gn)) ∧ Below w.heap.size w w' := by
  obtain ⟨q, c, g, d, V, hC⟩ := h
  exact rrefs_any hC.ar i gn
theorem Rto.free {w : World} {base : Nat} {F : Nat → Prop} {P n : Nat} {S : List Slo} {L : Nat → List UInt8} (h : Rto w base F P n S L) :
    Calls Try.prog 55 #[.pointer (some ⟨P, 0, none⟩)] w fun e w' => e = .returned (.int .i64 (freeS S)) ∧ Below w.heap.size w w' := by
  obtain ⟨q, c, g, d, V, hC⟩ := h
  exact rfree_any hC.ar
set_option maxRecDepth 20000
theorem some12_none (A : Option Addr) (ct : Nat) (x : Int) (w : World) : Calls Try.prog 48 #[.slice A 0 ct, .int .i64 x] w fun e w' => (∃ i g : Int, e = .returned (.agg #[.int .i64 i, .int .u32 g])) ∧ Below w.heap.size w w' := by
  have hb0 := (Below.refl w.heap.size w).alloc (Nat.le_refl _) (.cells #[.int .i64 0, .int .u32 0] 65)
  have d0 := heap_alloc_new w (.cells #[.int .i64 0, .int .u32 0] 65)
  obtain ⟨b0, b1⟩ := row2_cells d0
  go_enter Try.func48, Try.ntmps48
  go_wp2
  exact bodyPost_ret (v := .agg #[.int .i64 0, .int .u32 0]) (by simp [results, Try.results48, go_sem, b0, b1]) rfl ⟨⟨0, 0, rfl⟩, hb0⟩
set_option maxHeartbeats 400000 in
theorem some12_any (q n c : Nat) (l : List Slo) (x : Int) (w : World) (hx : -9223372036854775808 ≤ x ∧ x ≤ 9223372036854775807) (hlen : l.length = n) (h1 : 1 ≤ n) (h2 : n ≤ 60) (hr : Rd w (some ⟨q, 0, none⟩) (rowH l)) :
    Calls Try.prog 48 #[.slice (some ⟨q, 0, none⟩) n c, .int .i64 x] w fun e w' => (∃ i g : Int, e = .returned (.agg #[.int .i64 i, .int .u32 g])) ∧ Below w.heap.size w w' := by
  have hb0 := (Below.refl w.heap.size w).alloc (Nat.le_refl _) (.cells #[.int .i64 0, .int .u32 0] 65)
  have d0 := heap_alloc_new w (.cells #[.int .i64 0, .int .u32 0] 65)
  have hr0 := hr.below hb0
  have n0 : ((n : Int) == 0) = false := by simp; omega
  obtain ⟨K, hK, hKn⟩ := pick_is x n h1 h2
  have c0 := rd_at hr0 (rowH_slot l K (by omega))
  have c1 := rd_at hr0 (rowH_gen l K (by omega))
  obtain ⟨⟨x0, x1⟩, ⟨x2, x3⟩, x4⟩ := row2_store d0 (.int .i64 l[K].1) (.int .u32 l[K].2)
  obtain ⟨r0, r1⟩ := row2_cells x4
  obtain ⟨q0, q1⟩ := row2_cells (heap_alloc_new w (.cells #[.int .i64 l[K].1, .int .u32 l[K].2] 65))
  go_enter Try.func48, Try.ntmps48
  go_wp2
  exact bodyPost_ret (v := .agg #[.int .i64 l[K].1, .int .u32 l[K].2]) (by simp [results, Try.results48, go_sem, r0, r1, q0, q1]) rfl ⟨⟨_, _, rfl⟩, by first | exact (Below.refl _ w).alloc (Nat.le_refl _) _ | exact (hb0.setCell (p := ⟨w.heap.size, 0, none⟩) (Nat.le_refl _) _).setCell (p := ⟨w.heap.size, 1, none⟩) (Nat.le_refl _) _⟩
end Go.Proofs.Ytnkgkiiagifnmaa
