/-
The walks of Keep, Refs and Drop. Printed by genar2.py.
-/
import Derived.Test.YtfmojphbjhedgaaAr1
import Derived.Test.YtfmojphbjhedgaaReg
import Derived.StillTailTactics
namespace Go.Proofs.Ytfmojphbjhedgaa
set_option linter.unusedVariables false
set_option linter.unusedSimpArgs false
open Go.RowKit

theorem still_tail2 {P : Program} {id : Nat} {Q : Exit → Act → World → Prop} {a : Act} {w : World} {l : List Oper} (n : Nat) (hm : P.follows .mixedOrders = true) (hB : Region.lexTailB .any l.toArray n = true)
    (h : wpStill P l.toArray w.drew (fun a' => wpList P l.toArray Q (l.drop n) a' w.drew) (l.take n) a) : (Code.region id l.toArray true).wp P Q a w := wp_region_still_tail n hm hB h
theorem below_grown {w w' : World} {B : Nat} (h : Below B w w') (hB : w.heap.size ≤ B) (row : Option Nat) : w.grownBy w' row :=
  ⟨h.os, h.tape, h.output, h.size, fun k hk _ => h.block k (by omega)⟩

set_option maxHeartbeats 400000 in
theorem keep_any {r : List Value} {base p q n c : Nat} {S : List Slo} {w : World} (h : ArAt 57 r w base p q n c S) (i g : Int) (hm : ∀ s ∈ S, s.2 < 9223372036854775807) :
    Calls Try.prog 13 #[.pointer (some ⟨p, 0, none⟩), .agg #[.int .i64 i, .int .u32 g]] w fun e w' => e = .returned (.int .i64 (staleS S i g)) ∧ ArAt 57 r w' base p q n c (keepS S i g) ∧ w.grownBy w' (some q) := by
  have hb := (Below.refl w.heap.size w).alloc (Nat.le_refl _) (.cells #[.int .i64 i, .int .u32 g] 31)
  have h1 := h.below hb
  cases hv : liveS S i g
  · rw [staleS_no hv, keepS_no hv]
    have HV := Lib.hid hv
    clear hv
    go_enter Try.func13, Try.ntmps13
    go_wp2_with (go_at_call 24; (with_reducible refine (live_any h1 i g).mono ?_); rintro e w1 ⟨rfl, hb1⟩; rw [HV.out])
    go_ret
    exact ⟨rfl, h1.below hb1, below_grown (hb.trans (hb1.mono hb.size)) (Nat.le_refl _) _⟩
  · have HV := Lib.hid hv
    obtain ⟨k, hk, rfl, h3, rfl⟩ := liveS_yes hv
    have hm' := hm _ (List.getElem_mem hk)
    rw [staleS_yes hv, keepS_yes hk hv]
    have hkn : k < n := by have := h.len; omega
    clear hv hm h3
    have HM := Lib.hid (show (S[k].2 : Int) + 1 = ((S[k].2 + 1 : Nat) : Int) from rfl)
    have hm2 : (S[k].2 : Int) + 1 ≤ 9223372036854775807 := by omega
    have hm3 : 0 ≤ (S[k].2 : Int) := by omega
    obtain ⟨m, em⟩ : ∃ m : Int, m = S[k].2 := ⟨_, rfl⟩
    have EM := Lib.hid em
    rw [← em] at hm2 hm3
    clear em
    go_enter Try.func13, Try.ntmps13
    go_wp2_with (go_at_call 24; (with_reducible refine (live_any h1 _ _).mono ?_); rintro e w1 ⟨rfl, hb1⟩; rw [HV.out])
    have h2 := (h1.below hb1).below ((Below.refl w1.heap.size w1).drew)
    have l0 := h2.at_
    have l1 := h2.ref k hk
    have l2 := h2.frozen (k * 2 + 1)
    obtain ⟨a0, a1⟩ := row2_cells (w := w1.drew) ((hb1.block w.heap.size (by simp)).trans (heap_alloc_new w _))
    rw [← EM.out] at l1
    refine still_tail2 12 (by kernel_rfl) (by kernel_rfl) ?_
    simp only [List.take_succ_cons, List.take_zero, List.drop_succ_cons, List.drop_zero]
    repeat still_step
    refine wpStill_nil ?_
    go_wp2
    go_ret
    have hst := h2.setRef k hk (S[k].2 + 1)
    rw [← HM.out, ← EM.out] at hst
    exact ⟨rfl, hst.1, (below_grown (hb.trans (hb1.mono hb.size)).drew (Nat.le_refl _) _).trans hst.2⟩

set_option maxHeartbeats 400000 in
theorem refs_any {r : List Value} {base p q n c : Nat} {S : List Slo} {w : World} (h : ArAt 57 r w base p q n c S) (i g : Int) :
    Calls Try.prog 17 #[.pointer (some ⟨p, 0, none⟩), .agg #[.int .i64 i, .int .u32 g]] w fun e w' => e = .returned (.int .i64 (refsS S i g)) ∧ Below w.heap.size w w' := by
  have hb := (Below.refl w.heap.size w).alloc (Nat.le_refl _) (.cells #[.int .i64 i, .int .u32 g] 31)
  have h1 := h.below hb
  cases hv : liveS S i g
  · rw [refsS_no hv]
    have HV := Lib.hid hv
    clear hv
    go_enter Try.func17, Try.ntmps17
    go_wp2_with (go_at_call 24; (with_reducible refine (live_any h1 i g).mono ?_); rintro e w1 ⟨rfl, hb1⟩; rw [HV.out])
    go_ret
    exact ⟨rfl, hb.trans (hb1.mono hb.size)⟩
  · have HV := Lib.hid hv
    obtain ⟨k, hk, rfl, h3, rfl⟩ := liveS_yes hv
    rw [refsS_yes hk hv]
    have hkn : k < n := by have := h.len; omega
    clear hv h3
    obtain ⟨m, em⟩ : ∃ m : Int, m = S[k].2 := ⟨_, rfl⟩
    have EM := Lib.hid em
    rw [← em]
    clear em
    go_enter Try.func17, Try.ntmps17
    go_wp2_with (go_at_call 24; (with_reducible refine (live_any h1 _ _).mono ?_); rintro e w1 ⟨rfl, hb1⟩; rw [HV.out])
    have h2 := h1.below hb1
    have l0 : ∀ j, (w1.drewN j).cell? ⟨p, 0, none⟩ = some (.slice (some ⟨q, 0, none⟩) n c) := fun j => h2.at_
    have l1 : ∀ j, (w1.drewN j).cell? ⟨q, k * 2 + 1, none⟩ = some (.int .i64 m) := fun j => by rw [EM.out]; exact h2.ref k hk
    have a0 : ∀ j, (w1.drewN j).cell? ⟨w.heap.size, 0, none⟩ = some (.int .i64 k) := fun j => (row2_cells (w := w1) ((hb1.block w.heap.size (by simp)).trans (heap_alloc_new w _))).1
    go_quiet (fail)
    go_wp2
    go_ret
    exact ⟨rfl, below_drewN (hb.trans (hb1.mono hb.size)) _⟩

set_option maxHeartbeats 400000 in
theorem rkeep_any {r : List Value} {base p q n c : Nat} {S : List Slo} {w : World} (h : ArAt 46 r w base p q n c S) (i g : Int) (hm : ∀ s ∈ S, s.2 < 9223372036854775807) :
    Calls Try.prog 14 #[.pointer (some ⟨p, 0, none⟩), .agg #[.int .i64 i, .int .u32 g]] w fun e w' => e = .returned (.int .i64 (staleS S i g)) ∧ ArAt 46 r w' base p q n c (keepS S i g) ∧ w.grownBy w' (some q) := by
  have hb := (Below.refl w.heap.size w).alloc (Nat.le_refl _) (.cells #[.int .i64 i, .int .u32 g] 31)
  have h1 := h.below hb
  cases hv : liveS S i g
  · rw [staleS_no hv, keepS_no hv]
    have HV := Lib.hid hv
    clear hv
    go_enter Try.func14, Try.ntmps14
    go_wp2_with (go_at_call 25; (with_reducible refine (rlive_any h1 i g).mono ?_); rintro e w1 ⟨rfl, hb1⟩; rw [HV.out])
    go_ret
    exact ⟨rfl, h1.below hb1, below_grown (hb.trans (hb1.mono hb.size)) (Nat.le_refl _) _⟩
  · have HV := Lib.hid hv
    obtain ⟨k, hk, rfl, h3, rfl⟩ := liveS_yes hv
    have hm' := hm _ (List.getElem_mem hk)
    rw [staleS_yes hv, keepS_yes hk hv]
    have hkn : k < n := by have := h.len; omega
    clear hv hm h3
    have HM := Lib.hid (show (S[k].2 : Int) + 1 = ((S[k].2 + 1 : Nat) : Int) from rfl)
    have hm2 : (S[k].2 : Int) + 1 ≤ 9223372036854775807 := by omega
    have hm3 : 0 ≤ (S[k].2 : Int) := by omega
    obtain ⟨m, em⟩ : ∃ m : Int, m = S[k].2 := ⟨_, rfl⟩
    have EM := Lib.hid em
    rw [← em] at hm2 hm3
    clear em
    go_enter Try.func14, Try.ntmps14
    go_wp2_with (go_at_call 25; (with_reducible refine (rlive_any h1 _ _).mono ?_); rintro e w1 ⟨rfl, hb1⟩; rw [HV.out])
    have h2 := (h1.below hb1).below ((Below.refl w1.heap.size w1).drew)
    have l0 := h2.at_
    have l1 := h2.ref k hk
    have l2 := h2.frozen (k * 2 + 1)
    obtain ⟨a0, a1⟩ := row2_cells (w := w1.drew) ((hb1.block w.heap.size (by simp)).trans (heap_alloc_new w _))
    rw [← EM.out] at l1
    refine still_tail2 12 (by kernel_rfl) (by kernel_rfl) ?_
    simp only [List.take_succ_cons, List.take_zero, List.drop_succ_cons, List.drop_zero]
    repeat still_step
    refine wpStill_nil ?_
    go_wp2
    go_ret
    have hst := h2.setRef k hk (S[k].2 + 1)
    rw [← HM.out, ← EM.out] at hst
    exact ⟨rfl, hst.1, (below_grown (hb.trans (hb1.mono hb.size)).drew (Nat.le_refl _) _).trans hst.2⟩

set_option maxHeartbeats 400000 in
theorem rrefs_any {r : List Value} {base p q n c : Nat} {S : List Slo} {w : World} (h : ArAt 46 r w base p q n c S) (i g : Int) :
    Calls Try.prog 18 #[.pointer (some ⟨p, 0, none⟩), .agg #[.int .i64 i, .int .u32 g]] w fun e w' => e = .returned (.int .i64 (refsS S i g)) ∧ Below w.heap.size w w' := by
  have hb := (Below.refl w.heap.size w).alloc (Nat.le_refl _) (.cells #[.int .i64 i, .int .u32 g] 31)
  have h1 := h.below hb
  cases hv : liveS S i g
  · rw [refsS_no hv]
    have HV := Lib.hid hv
    clear hv
    go_enter Try.func18, Try.ntmps18
    go_wp2_with (go_at_call 25; (with_reducible refine (rlive_any h1 i g).mono ?_); rintro e w1 ⟨rfl, hb1⟩; rw [HV.out])
    go_ret
    exact ⟨rfl, hb.trans (hb1.mono hb.size)⟩
  · have HV := Lib.hid hv
    obtain ⟨k, hk, rfl, h3, rfl⟩ := liveS_yes hv
    rw [refsS_yes hk hv]
    have hkn : k < n := by have := h.len; omega
    clear hv h3
    obtain ⟨m, em⟩ : ∃ m : Int, m = S[k].2 := ⟨_, rfl⟩
    have EM := Lib.hid em
    rw [← em]
    clear em
    go_enter Try.func18, Try.ntmps18
    go_wp2_with (go_at_call 25; (with_reducible refine (rlive_any h1 _ _).mono ?_); rintro e w1 ⟨rfl, hb1⟩; rw [HV.out])
    have h2 := h1.below hb1
    have l0 : ∀ j, (w1.drewN j).cell? ⟨p, 0, none⟩ = some (.slice (some ⟨q, 0, none⟩) n c) := fun j => h2.at_
    have l1 : ∀ j, (w1.drewN j).cell? ⟨q, k * 2 + 1, none⟩ = some (.int .i64 m) := fun j => by rw [EM.out]; exact h2.ref k hk
    have a0 : ∀ j, (w1.drewN j).cell? ⟨w.heap.size, 0, none⟩ = some (.int .i64 k) := fun j => (row2_cells (w := w1) ((hb1.block w.heap.size (by simp)).trans (heap_alloc_new w _))).1
    go_quiet (fail)
    go_wp2
    go_ret
    exact ⟨rfl, below_drewN (hb.trans (hb1.mono hb.size)) _⟩
end Go.Proofs.Ytfmojphbjhedgaa
