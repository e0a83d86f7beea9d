/-
The walks of Drop. Printed by genar3.py.
-/
import Derived.Test.YtfmojphbjhedgaaAr2
namespace Go.Proofs.Ytfmojphbjhedgaa
set_option linter.unusedVariables false
set_option linter.unusedSimpArgs false
open Go.RowKit

theorem ArAt.drop_last {T : TypeId} {r : List Value} {w : World} {base p q n c : Nat} {S : List Slo} (h : ArAt T r w base p q n c S) (k : Nat) (hk : k < S.length) (x : Int) (hx : (((S[k].1 + 1) % 4294967296 : Nat) : Int) = x) :
    ArAt T r ((w.setCell ⟨q, k * 2 + 1, none⟩ (.int .i64 0)).setCell ⟨q, k * 2, none⟩ (.int .u32 x)) base p q n c (S.set k ((S[k].1 + 1) % 4294967296, 0)) ∧
      w.grownBy ((w.setCell ⟨q, k * 2 + 1, none⟩ (.int .i64 0)).setCell ⟨q, k * 2, none⟩ (.int .u32 x)) (some q) := by
  subst hx
  have h1 := h.setRef k hk 0
  have hk' : k < (S.set k (S[k].1, 0)).length := by simpa using hk
  have h2 := h1.1.setGen k hk' ((S[k].1 + 1) % 4294967296) (by omega)
  simp only [List.set_set, List.getElem_set_self] at h2
  exact ⟨h2.1, h1.2.trans h2.2⟩
theorem ArAt.lastGen {T : TypeId} {r : List Value} {w : World} {base p q n c : Nat} {S : List Slo} (k : Nat) (hk : k < S.length) (h : ArAt T r w base p q n c (S.set k (S[k].1, 0))) (x : Int) (hx : (((S[k].1 + 1) % 4294967296 : Nat) : Int) = x) :
    ArAt T r (w.setCell ⟨q, k * 2, none⟩ (.int .u32 x)) base p q n c (S.set k ((S[k].1 + 1) % 4294967296, 0)) ∧ w.grownBy (w.setCell ⟨q, k * 2, none⟩ (.int .u32 x)) (some q) := by
  subst hx
  have h2 := h.setGen k (by simpa using hk) ((S[k].1 + 1) % 4294967296) (by omega)
  simp only [List.set_set, List.getElem_set_self] at h2
  exact h2
theorem ArAt.setRef' {T : TypeId} {r : List Value} {w : World} {base p q n c : Nat} {S : List Slo} (h : ArAt T r w base p q n c S) (k : Nat) (hk : k < S.length) (m : Nat) (x : Int) (hx : (m : Int) = x) :
    ArAt T r (w.setCell ⟨q, k * 2 + 1, none⟩ (.int .i64 x)) base p q n c (S.set k (S[k].1, m)) ∧ w.grownBy (w.setCell ⟨q, k * 2 + 1, none⟩ (.int .i64 x)) (some q) := by
  subst hx
  exact h.setRef k hk m

set_option maxHeartbeats 400000 in
theorem drop_no {r : List Value} {base p q n c : Nat} {S : List Slo} {w : World} (h : ArAt 57 r w base p q n c S) (i g : Int) (hv : liveS S i g = false) :
    Calls Try.prog 15 #[.pointer (some ⟨p, 0, none⟩), .agg #[.int .i64 i, .int .u32 g]] w fun e w' => e = .returned (.int .i64 (staleS S i g)) ∧ ArAt 57 r w' base p q n c (dropS S i g) ∧ w.grownBy w' (some q) := by
  have hb := (Below.refl w.heap.size w).alloc (Nat.le_refl _) (.cells #[.int .i64 i, .int .u32 g] 31)
  have h1 := h.below hb
  rw [staleS_no hv, dropS_no hv]
  have HV := Lib.hid hv
  clear hv
  go_enter Try.func15, Try.ntmps15
  go_wp2_with (go_at_call 24; (with_reducible refine (live_any h1 i g).mono ?_); rintro e w1 ⟨rfl, hb1⟩; rw [HV.out])
  go_ret
  exact ⟨rfl, h1.below hb1, below_grown (hb.trans (hb1.mono hb.size)) (Nat.le_refl _) _⟩

set_option maxHeartbeats 400000 in
theorem drop_last {r : List Value} {base p q n c : Nat} {S : List Slo} {w : World} (h : ArAt 57 r w base p q n c S) (k : Nat) (hk : k < S.length) (hv : liveS S k S[k].1 = true) (hl : S[k].2 = 1) :
    Calls Try.prog 15 #[.pointer (some ⟨p, 0, none⟩), .agg #[.int .i64 k, .int .u32 S[k].1]] w fun e w' => e = .returned (.int .i64 (staleS S k S[k].1)) ∧ ArAt 57 r w' base p q n c (dropS S k S[k].1) ∧ w.grownBy w' (some q) := by
  have hb := (Below.refl w.heap.size w).alloc (Nat.le_refl _) (.cells #[.int .i64 k, .int .u32 S[k].1] 31)
  have h1 := h.below hb
  have HV := Lib.hid hv
  have hkn : k < n := by have := h.len; omega
  have hg : S[k].1 < 4294967296 := h.gens _ (List.getElem_mem hk)
  rw [staleS_yes hv]
  rw [dropS_last hk hv hl]
  clear hv
  have HL := Lib.hid (show (S[k].2 : Int) = 1 by omega)
  have HG := Lib.hid (show (((S[k].1 + 1) % 4294967296 : Nat) : Int) = ((S[k].1 : Int) + 1) % 4294967296 by omega)
  clear hl
  go_enter Try.func15, Try.ntmps15
  go_wp2_with (go_at_call 24; (with_reducible refine (live_any h1 _ _).mono ?_); rintro e w1 ⟨rfl, hb1⟩; rw [HV.out])
  have h2 := h1.below hb1
  have l0 : ∀ j, (w1.drewN j).cell? ⟨p, 0, none⟩ = some (.slice (some ⟨q, 0, none⟩) n c) := fun j => h2.at_
  have a0 : ∀ j, (w1.drewN j).cell? ⟨w.heap.size, 0, none⟩ = some (.int .i64 k) := fun j => (row2_cells (w := w1) ((hb1.block w.heap.size (by simp)).trans (heap_alloc_new w _))).1
  have l1 : ∀ j, (w1.drewN j).cell? ⟨q, k * 2 + 1, none⟩ = some (.int .i64 1) := fun j => by rw [← HL.out]; exact h2.ref k hk
  have f1 : ∀ j, (w1.drewN j).frozen? ⟨q, k * 2 + 1, none⟩ = false := fun j => h2.frozen _
  have hA : ∀ j, ArAt 57 r (w1.drewN j) base p q n c S := fun j => h2.below (below_drewN (Below.refl _ _) j)
  have g1 : ∀ j, ((w1.drewN j).setCell ⟨q, k * 2 + 1, none⟩ (.int .i64 0)).cell? ⟨q, k * 2, none⟩ = some (.int .u32 S[k].1) := fun j => by
    have := ((hA j).setRef k hk 0).1.gen k (by simpa using hk)
    simpa using this
  have f2 : ∀ j, ((w1.drewN j).setCell ⟨q, k * 2 + 1, none⟩ (.int .i64 0)).frozen? ⟨q, k * 2, none⟩ = false := fun j => ((hA j).setRef k hk 0).1.frozen _
  go_quiet (fail)
  go_wp2
  go_ret
  exact ⟨rfl, ((hA _).drop_last k hk _ HG.out).1, (below_grown (below_drewN (hb.trans (hb1.mono hb.size)) _) (Nat.le_refl _) _).trans ((hA _).drop_last k hk _ HG.out).2⟩

set_option maxHeartbeats 400000 in
theorem drop_more {r : List Value} {base p q n c : Nat} {S : List Slo} {w : World} (h : ArAt 57 r w base p q n c S) (k : Nat) (hk : k < S.length) (hv : liveS S k S[k].1 = true) (hl : 1 < S[k].2) (hm : S[k].2 < 9223372036854775807) :
    Calls Try.prog 15 #[.pointer (some ⟨p, 0, none⟩), .agg #[.int .i64 k, .int .u32 S[k].1]] w fun e w' => e = .returned (.int .i64 (staleS S k S[k].1)) ∧ ArAt 57 r w' base p q n c (dropS S k S[k].1) ∧ w.grownBy w' (some q) := by
  have hb := (Below.refl w.heap.size w).alloc (Nat.le_refl _) (.cells #[.int .i64 k, .int .u32 S[k].1] 31)
  have h1 := h.below hb
  have HV := Lib.hid hv
  have hkn : k < n := by have := h.len; omega
  have hg : S[k].1 < 4294967296 := h.gens _ (List.getElem_mem hk)
  rw [staleS_yes hv]
  rw [dropS_more hk hv (by omega)]
  clear hv
  obtain ⟨m, em⟩ : ∃ m : Int, m = S[k].2 - 1 := ⟨_, rfl⟩
  have hd : (m == 0) = false := by simp; omega
  have hm0 : 0 ≤ m := by omega
  have hm1 : m ≤ 9223372036854775807 := by omega
  have hm2 : (m + 1 == 1) = false := by simp; omega
  have EM := Lib.hid (show (S[k].2 : Int) = m + 1 by omega)
  have EN := Lib.hid (show ((S[k].2 - 1 : Nat) : Int) = m by omega)
  clear em hl
  go_enter Try.func15, Try.ntmps15
  go_wp2_with (go_at_call 24; (with_reducible refine (live_any h1 _ _).mono ?_); rintro e w1 ⟨rfl, hb1⟩; rw [HV.out])
  have h2 := h1.below hb1
  have l0 : ∀ j, (w1.drewN j).cell? ⟨p, 0, none⟩ = some (.slice (some ⟨q, 0, none⟩) n c) := fun j => h2.at_
  have a0 : ∀ j, (w1.drewN j).cell? ⟨w.heap.size, 0, none⟩ = some (.int .i64 k) := fun j => (row2_cells (w := w1) ((hb1.block w.heap.size (by simp)).trans (heap_alloc_new w _))).1
  have l1 : ∀ j, (w1.drewN j).cell? ⟨q, k * 2 + 1, none⟩ = some (.int .i64 (m + 1)) := fun j => by rw [← EM.out]; exact h2.ref k hk
  have f1 : ∀ j, (w1.drewN j).frozen? ⟨q, k * 2 + 1, none⟩ = false := fun j => h2.frozen _
  have hA : ∀ j, ArAt 57 r (w1.drewN j) base p q n c S := fun j => h2.below (below_drewN (Below.refl _ _) j)
  go_quiet (fail)
  go_wp2
  go_ret
  exact ⟨rfl, ((hA _).setRef' k hk (S[k].2 - 1) _ EN.out).1, (below_grown (below_drewN (hb.trans (hb1.mono hb.size)) _) (Nat.le_refl _) _).trans ((hA _).setRef' k hk (S[k].2 - 1) _ EN.out).2⟩

theorem drop_any {r : List Value} {base p q n c : Nat} {S : List Slo} {w : World} (h : ArAt 57 r w base p q n c S) (i g : Int) (hm : ∀ s ∈ S, s.2 < 9223372036854775807) :
    Calls Try.prog 15 #[.pointer (some ⟨p, 0, none⟩), .agg #[.int .i64 i, .int .u32 g]] w fun e w' => e = .returned (.int .i64 (staleS S i g)) ∧ ArAt 57 r w' base p q n c (dropS S i g) ∧ w.grownBy w' (some q) := by
  cases hv : liveS S i g
  · exact drop_no h i g hv
  · obtain ⟨k, hk, rfl, h3, rfl⟩ := liveS_yes hv
    by_cases h4 : S[k].2 = 1
    · exact drop_last h k hk hv h4
    · exact drop_more h k hk hv (by omega) (hm _ (List.getElem_mem hk))

set_option maxHeartbeats 400000 in
theorem rdrop_no {r : List Value} {base p q n c : Nat} {S : List Slo} {w : World} (h : ArAt 46 r w base p q n c S) (i g : Int) (hv : liveS S i g = false) :
    Calls Try.prog 16 #[.pointer (some ⟨p, 0, none⟩), .agg #[.int .i64 i, .int .u32 g]] w fun e w' => e = .returned (.int .i64 (staleS S i g)) ∧ ArAt 46 r w' base p q n c (dropS S i g) ∧ w.grownBy w' (some q) := by
  have hb := (Below.refl w.heap.size w).alloc (Nat.le_refl _) (.cells #[.int .i64 i, .int .u32 g] 31)
  have h1 := h.below hb
  rw [staleS_no hv, dropS_no hv]
  have HV := Lib.hid hv
  clear hv
  go_enter Try.func16, Try.ntmps16
  go_wp2_with (go_at_call 25; (with_reducible refine (rlive_any h1 i g).mono ?_); rintro e w1 ⟨rfl, hb1⟩; rw [HV.out])
  go_ret
  exact ⟨rfl, h1.below hb1, below_grown (hb.trans (hb1.mono hb.size)) (Nat.le_refl _) _⟩

set_option maxHeartbeats 400000 in
theorem rdrop_last {r : List Value} {base p q n c : Nat} {S : List Slo} {w : World} (h : ArAt 46 r w base p q n c S) (k : Nat) (hk : k < S.length) (hv : liveS S k S[k].1 = true) (hl : S[k].2 = 1) :
    Calls Try.prog 16 #[.pointer (some ⟨p, 0, none⟩), .agg #[.int .i64 k, .int .u32 S[k].1]] w fun e w' => e = .returned (.int .i64 (staleS S k S[k].1)) ∧ ArAt 46 r w' base p q n c (dropS S k S[k].1) ∧ w.grownBy w' (some q) := by
  have hb := (Below.refl w.heap.size w).alloc (Nat.le_refl _) (.cells #[.int .i64 k, .int .u32 S[k].1] 31)
  have h1 := h.below hb
  have HV := Lib.hid hv
  have hkn : k < n := by have := h.len; omega
  have hg : S[k].1 < 4294967296 := h.gens _ (List.getElem_mem hk)
  rw [staleS_yes hv]
  rw [dropS_last hk hv hl]
  clear hv
  have HL := Lib.hid (show (S[k].2 : Int) = 1 by omega)
  have HG := Lib.hid (show (((S[k].1 + 1) % 4294967296 : Nat) : Int) = ((S[k].1 : Int) + 1) % 4294967296 by omega)
  clear hl
  go_enter Try.func16, Try.ntmps16
  go_wp2_with (go_at_call 25; (with_reducible refine (rlive_any h1 _ _).mono ?_); rintro e w1 ⟨rfl, hb1⟩; rw [HV.out])
  have hB := (hb.trans (hb1.mono hb.size)).drew
  have d1 : w1.drew.heap[w.heap.size]? = some (.cells #[.int .i64 k, .int .u32 S[k].1] 31 (0, 0)) := (hb1.block w.heap.size (by simp)).trans (heap_alloc_new w _)
  have h2 := (h1.below hb1).below ((Below.refl w1.heap.size w1).drew)
  have hq := h2.qlt
  have hqw : q ≠ w.heap.size := by have := h.qlt; omega
  have l0 := h2.at_
  obtain ⟨a0, _⟩ := row2_cells d1
  have l1 := h2.ref k hk
  rw [HL.out] at l1
  have f1 := h2.frozen (k * 2 + 1)
  refine still_tail2 12 (by kernel_rfl) (by kernel_rfl) ?_
  generalize w1.drew = w2 at *
  simp only [List.take_succ_cons, List.take_zero, List.drop_succ_cons, List.drop_zero]
  repeat still_step
  refine wpStill_nil ?_
  have hst := h2.setRef k hk 0
  have b0 := (row2_cells ((hst.2.block w.heap.size (block_lt d1) (by simp; omega)).trans d1)).1
  have m0 := hst.1.at_
  have n1 := hst.1.ref k (by simpa using hk)
  have n2 := hst.1.gen k (by simpa using hk)
  have n3 := hst.1.frozen (k * 2)
  simp only [List.getElem_set_self] at n1 n2
  go_wp2
  generalize hW : w2.setCell ⟨q, k * 2 + 1, none⟩ (.int .i64 0) = W at *
  have y0 : ∀ j, (W.drewN j).cell? ⟨p, 0, none⟩ = some (.slice (some ⟨q, 0, none⟩) n c) := fun j => m0
  have y1 : ∀ j, (W.drewN j).cell? ⟨w.heap.size, 0, none⟩ = some (.int .i64 k) := fun j => b0
  have y2 : ∀ j, (W.drewN j).cell? ⟨q, k * 2 + 1, none⟩ = some (.int .i64 0) := fun j => n1
  have HW := Lib.hid hW
  clear hW
  go_quiet (fail)
  go_wp2
  have z0 : ∀ j, (W.drewN j).drew.cell? ⟨p, 0, none⟩ = some (.slice (some ⟨q, 0, none⟩) n c) := fun j => m0
  have z1 : ∀ j, (W.drewN j).drew.cell? ⟨w.heap.size, 0, none⟩ = some (.int .i64 k) := fun j => b0
  have z2 : ∀ j, (W.drewN j).drew.cell? ⟨q, k * 2, none⟩ = some (.int .u32 S[k].1) := fun j => n2
  have z3 : ∀ j, (W.drewN j).drew.frozen? ⟨q, k * 2, none⟩ = false := fun j => n3
  refine still_tail2 12 (by kernel_rfl) (by kernel_rfl) ?_
  simp only [List.take_succ_cons, List.take_zero, List.drop_succ_cons, List.drop_zero]
  repeat still_step
  refine wpStill_nil ?_
  go_wp2
  go_ret
  have hV : ∀ j, ArAt 46 r (W.drewN j).drew base p q n c (S.set k (S[k].1, 0)) := fun j => hst.1.below (below_drewN (Below.refl _ _) j).drew
  exact ⟨rfl, (ArAt.lastGen k hk (hV _) _ HG.out).1, (below_grown hB (Nat.le_refl _) _).trans (hst.2.trans ((below_grown ((below_drewN (Below.refl W.heap.size W) _).drew) (Nat.le_refl _) _).trans (ArAt.lastGen k hk (hV _) _ HG.out).2))⟩

set_option maxHeartbeats 400000 in
theorem rdrop_more {r : List Value} {base p q n c : Nat} {S : List Slo} {w : World} (h : ArAt 46 r w base p q n c S) (k : Nat) (hk : k < S.length) (hv : liveS S k S[k].1 = true) (hl : 1 < S[k].2) (hm : S[k].2 < 9223372036854775807) :
    Calls Try.prog 16 #[.pointer (some ⟨p, 0, none⟩), .agg #[.int .i64 k, .int .u32 S[k].1]] w fun e w' => e = .returned (.int .i64 (staleS S k S[k].1)) ∧ ArAt 46 r w' base p q n c (dropS S k S[k].1) ∧ w.grownBy w' (some q) := by
  have hb := (Below.refl w.heap.size w).alloc (Nat.le_refl _) (.cells #[.int .i64 k, .int .u32 S[k].1] 31)
  have h1 := h.below hb
  have HV := Lib.hid hv
  have hkn : k < n := by have := h.len; omega
  have hg : S[k].1 < 4294967296 := h.gens _ (List.getElem_mem hk)
  rw [staleS_yes hv]
  rw [dropS_more hk hv (by omega)]
  clear hv
  obtain ⟨m, em⟩ : ∃ m : Int, m = S[k].2 - 1 := ⟨_, rfl⟩
  have hd : (m == 0) = false := by simp; omega
  have hm0 : 0 ≤ m := by omega
  have hm1 : m ≤ 9223372036854775807 := by omega
  have EM := Lib.hid (show (S[k].2 : Int) = m + 1 by omega)
  have EN := Lib.hid (show ((S[k].2 - 1 : Nat) : Int) = m by omega)
  clear em hl
  go_enter Try.func16, Try.ntmps16
  go_wp2_with (go_at_call 25; (with_reducible refine (rlive_any h1 _ _).mono ?_); rintro e w1 ⟨rfl, hb1⟩; rw [HV.out])
  have hB := (hb.trans (hb1.mono hb.size)).drew
  have d1 : w1.drew.heap[w.heap.size]? = some (.cells #[.int .i64 k, .int .u32 S[k].1] 31 (0, 0)) := (hb1.block w.heap.size (by simp)).trans (heap_alloc_new w _)
  have h2 := (h1.below hb1).below ((Below.refl w1.heap.size w1).drew)
  have hq := h2.qlt
  have hqw : q ≠ w.heap.size := by have := h.qlt; omega
  have l0 := h2.at_
  obtain ⟨a0, _⟩ := row2_cells d1
  have l1 := h2.ref k hk
  rw [EM.out] at l1
  have f1 := h2.frozen (k * 2 + 1)
  refine still_tail2 12 (by kernel_rfl) (by kernel_rfl) ?_
  generalize w1.drew = w2 at *
  simp only [List.take_succ_cons, List.take_zero, List.drop_succ_cons, List.drop_zero]
  repeat still_step
  refine wpStill_nil ?_
  have hst := h2.setRef' k hk (S[k].2 - 1) _ EN.out
  have b0 := (row2_cells ((hst.2.block w.heap.size (block_lt d1) (by simp; omega)).trans d1)).1
  have m0 := hst.1.at_
  have n1 := hst.1.ref k (by simpa using hk)
  simp only [List.getElem_set_self] at n1
  rw [EN.out] at n1
  go_wp2
  generalize hW : w2.setCell ⟨q, k * 2 + 1, none⟩ (.int .i64 m) = W at *
  have y0 : ∀ j, (W.drewN j).cell? ⟨p, 0, none⟩ = some (.slice (some ⟨q, 0, none⟩) n c) := fun j => m0
  have y1 : ∀ j, (W.drewN j).cell? ⟨w.heap.size, 0, none⟩ = some (.int .i64 k) := fun j => b0
  have y2 : ∀ j, (W.drewN j).cell? ⟨q, k * 2 + 1, none⟩ = some (.int .i64 m) := fun j => n1
  have HW := Lib.hid hW
  clear hW
  go_quiet (fail)
  go_wp2
  go_ret
  exact ⟨rfl, hst.1.below (below_drewN (Below.refl _ _) _), (below_grown hB (Nat.le_refl _) _).trans (hst.2.trans (below_grown (below_drewN (Below.refl W.heap.size W) _) (Nat.le_refl _) _))⟩

theorem rdrop_any {r : List Value} {base p q n c : Nat} {S : List Slo} {w : World} (h : ArAt 46 r w base p q n c S) (i g : Int) (hm : ∀ s ∈ S, s.2 < 9223372036854775807) :
    Calls Try.prog 16 #[.pointer (some ⟨p, 0, none⟩), .agg #[.int .i64 i, .int .u32 g]] w fun e w' => e = .returned (.int .i64 (staleS S i g)) ∧ ArAt 46 r w' base p q n c (dropS S i g) ∧ w.grownBy w' (some q) := by
  cases hv : liveS S i g
  · exact rdrop_no h i g hv
  · obtain ⟨k, hk, rfl, h3, rfl⟩ := liveS_yes hv
    by_cases h4 : S[k].2 = 1
    · exact rdrop_last h k hk hv h4
    · exact rdrop_more h k hk hv (by omega) (hm _ (List.getElem_mem hk))
end Go.Proofs.Ytfmojphbjhedgaa
