/-
The walks of package arena: what each function leaves behind. Printed by genar.py.
The walks of Keep, Refs and Drop. Printed by genar2.py.
The walks of Drop. Printed by genar3.py.
-/
import Derived.Test.YtknlkmencdlpcaaChecked
import Derived.Test.YtknlkmencdlpcaaArNum
import Derived.Test.YtknlkmencdlpcaaApp
import Derived.Deep.QuietTactic
import Derived.BigQuiet
import Derived.WalkKit
import Derived.WalkSpells
import Derived.WalkLawsBesides
import Derived.Laws.BitsAllLaws
import Derived.IntWalk
import Derived.Laws.Pointers
import Derived.Test.YtknlkmencdlpcaaReg
import Derived.StillTailTactics
namespace Go.Proofs.Ytknlkmencdlpcaa
set_option linter.unusedVariables false
set_option linter.unusedSimpArgs false
open Go.RowKit

/-- At p lies a struct (of type T) that holds the slice of the slots S, at q, and r behind it. -/
structure ArAt (T : TypeId) (r : List Value) (w : World) (base p q n c : Nat) (S : List Slo) : Prop where
  ne : T ≠ 150
  hp : base ≤ p
  head : w.heap[p]? = some (.cells ⟨.slice (some ⟨q, 0, none⟩) n c :: r⟩ T (0, 0))
  own : w.ownsRow base 150 2 (.slice (some ⟨q, 0, none⟩) n c) n (rowS S)
  len : S.length = n
  top : n ≤ 1024
  bot : 0 < n
  gens : ∀ s ∈ S, s.1 < 4294967296
abbrev AA := ArAt 190 []
theorem block_lt {w : World} {p : Nat} {o : Obj} (h : w.heap[p]? = some o) : p < w.heap.size := (Array.getElem?_eq_some_iff.1 h).1
section
variable {T : TypeId} {r : List Value} {w w' : World} {base p q n c : Nat} {S : List Slo}
theorem ArAt.below (h : ArAt T r w base p q n c S) (hb : Below w.heap.size w w') : ArAt T r w' base p q n c S :=
  ⟨h.ne, h.hp, (hb.block p (block_lt h.head)).trans h.head, h.own.kept (own_below hb) (own_none _), h.len, h.top, h.bot, h.gens⟩
theorem ArAt.kept (h : ArAt T r w base p q n c S) {row : Option Nat} (hg : w.grownBy w' row) (h1 : row ≠ some p) (h2 : row ≠ some q) : ArAt T r w' base p q n c S :=
  ⟨h.ne, h.hp, (hg.block p (block_lt h.head) (fun e => h1 e.symm)).trans h.head, h.own.kept hg (.inr (fun e => h2 (by rw [← e]; rfl))), h.len, h.top, h.bot, h.gens⟩
theorem ArAt.qlt (h : ArAt T r w base p q n c S) : base ≤ q ∧ q < w.heap.size := h.own.lt q rfl
theorem ArAt.plt (h : ArAt T r w base p q n c S) : p < w.heap.size := block_lt h.head
theorem ArAt.pq (h : ArAt T r w base p q n c S) : p ≠ q := by
  rintro rfl
  rcases h.own.2 with ⟨h', _⟩ | ⟨g', cap', cur, h', _, hg, _⟩
  · simp at h'
  · simp only [Value.slice.injEq, Option.some.injEq, Addr.mk.injEq, and_true, true_and] at h'
    obtain ⟨rfl, rfl⟩ := h'
    rw [h.head] at hg
    injection hg with hg
    injection hg with _ ht
    exact h.ne ht
theorem ArAt.at_ (h : ArAt T r w base p q n c S) : w.cell? ⟨p, 0, none⟩ = some (.slice (some ⟨q, 0, none⟩) n c) := by
  rw [cell_of_row w p 0 _ _ _ h.head]; rfl
theorem ArAt.gen (h : ArAt T r w base p q n c S) (i : Nat) (hi : i < S.length) : w.cell? ⟨q, i * 2, none⟩ = some (.int .u32 S[i].1) := by
  rw [h.own.cellAt (i * 2) (by have := h.len; omega)]; exact rowS_gen S i hi
theorem ArAt.ref (h : ArAt T r w base p q n c S) (i : Nat) (hi : i < S.length) : w.cell? ⟨q, i * 2 + 1, none⟩ = some (.int .i64 S[i].2) := by
  rw [h.own.cellAt (i * 2 + 1) (by have := h.len; omega)]; exact rowS_ref S i hi
theorem ArAt.setRef (h : ArAt T r w base p q n c S) (i : Nat) (hi : i < S.length) (m : Nat) :
    ArAt T r (w.setCell ⟨q, i * 2 + 1, none⟩ (.int .i64 m)) base p q n c (S.set i (S[i].1, m)) ∧ w.grownBy (w.setCell ⟨q, i * 2 + 1, none⟩ (.int .i64 m)) (some q) := by
  have hst := h.own.stored (i * 2 + 1) (.int .i64 m)
  rw [rowS_set_ref S i m hi] at hst
  refine ⟨⟨h.ne, h.hp, (hst.2.block p h.plt (by simpa using h.pq)).trans h.head, hst.1, by simpa using h.len, h.top, h.bot, ?_⟩, hst.2⟩
  intro s hs
  rcases List.mem_or_eq_of_mem_set hs with hs | rfl
  · exact h.gens s hs
  · exact (h.gens S[i] (List.getElem_mem hi) : S[i].1 < 4294967296)
theorem ArAt.setGen (h : ArAt T r w base p q n c S) (i : Nat) (hi : i < S.length) (m : Nat) (hm : m < 4294967296) :
    ArAt T r (w.setCell ⟨q, i * 2, none⟩ (.int .u32 m)) base p q n c (S.set i (m, S[i].2)) ∧ w.grownBy (w.setCell ⟨q, i * 2, none⟩ (.int .u32 m)) (some q) := by
  have hst := h.own.stored (i * 2) (.int .u32 m)
  rw [rowS_set_gen S i m hi] at hst
  refine ⟨⟨h.ne, h.hp, (hst.2.block p h.plt (by simpa using h.pq)).trans h.head, hst.1, by simpa using h.len, h.top, h.bot, ?_⟩, hst.2⟩
  intro s hs
  rcases List.mem_or_eq_of_mem_set hs with hs | rfl
  · exact h.gens s hs
  · exact hm
theorem ArAt.frozen (h : ArAt T r w base p q n c S) (j : Nat) : w.frozen? ⟨q, j, none⟩ = false := h.own.frozenAt j
end
theorem row2_cells {w : World} {b : Nat} {x y : Value} {t : TypeId} (h : w.heap[b]? = some (.cells #[x, y] t (0, 0))) : w.cell? ⟨b, 0, none⟩ = some x ∧ w.cell? ⟨b, 1, none⟩ = some y :=
  ⟨by rw [cell_of_row w b 0 _ _ _ h]; rfl, by rw [cell_of_row w b 1 _ _ _ h]; rfl⟩
theorem neq_nil (t : TypeId) (a : Addr) (h : Try.prog.underlying t = some (.pointer (Try.prog.pointee t))) (w : World) : (binOp .neq t (.pointer (some a)) (.pointer none)).run Try.prog w = .ok (.bool true) w := by
  rw [run_neq_pointer_nil w t _ h]; rfl
theorem eql_nil (t : TypeId) (a : Addr) (h : Try.prog.underlying t = some (.pointer (Try.prog.pointee t))) (w : World) : (binOp .eql t (.pointer (some a)) (.pointer none)).run Try.prog w = .ok (.bool false) w := by
  rw [run_eql_pointer_nil w t _ h]; rfl
theorem neq_none (t : TypeId) (h : Try.prog.underlying t = some (.pointer (Try.prog.pointee t))) (w : World) : (binOp .neq t (.pointer none) (.pointer none)).run Try.prog w = .ok (.bool false) w := by
  rw [run_neq_pointer_nil w t _ h]; rfl
theorem eql_none (t : TypeId) (h : Try.prog.underlying t = some (.pointer (Try.prog.pointee t))) (w : World) : (binOp .eql t (.pointer none) (.pointer none)).run Try.prog w = .ok (.bool true) w := by
  rw [run_eql_pointer_nil w t _ h]; rfl

set_option maxRecDepth 20000 in
set_option maxHeartbeats 1000000 in
theorem live_any {r : List Value} {base p q n c : Nat} {S : List Slo} {w : World} (h : ArAt 190 r w base p q n c S) (i g : Int) :
    Calls Try.prog 141 #[.pointer (some ⟨p, 0, none⟩), .agg #[.int .i64 i, .int .u32 g]] w fun e w' => e = .returned (.bool (liveS S i g)) ∧ Below w.heap.size w w' := by
  have hb := (Below.refl w.heap.size w).alloc (Nat.le_refl _) (.cells #[.int .i64 i, .int .u32 g] 69)
  have h1 := h.below hb
  have hl : ∀ k, ((w.alloc (.cells #[.int .i64 i, .int .u32 g] 69)).drewN k).cell? ⟨p, 0, none⟩ = some (.slice (some ⟨q, 0, none⟩) n c) := fun k => h1.at_
  have a0 : ∀ k, ((w.alloc (.cells #[.int .i64 i, .int .u32 g] 69)).drewN k).cell? ⟨w.heap.size, 0, none⟩ = some (.int .i64 i) := fun k => (row2_cells (heap_alloc_new w _)).1
  have a1 : ∀ k, ((w.alloc (.cells #[.int .i64 i, .int .u32 g] 69)).drewN k).cell? ⟨w.heap.size, 1, none⟩ = some (.int .u32 g) := fun k => (row2_cells (heap_alloc_new w _)).2
  have hlen := h.len
  have htop := h.top
  have hq := fun wx => neq_nil 145 ⟨p, 0, none⟩ (by kernel_rfl) wx
  cases hv : liveS S i g
  · rcases liveS_no hv with h2 | h2 | ⟨k, hk, rfl, h3 | ⟨h3, h4⟩⟩
    · have h3 : decide (0 ≤ i) = false := by simp; omega
      clear h hlen htop
      go_enter Try.func141, Try.ntmps141
      go_wp2
      go_quiet (fail)
      go_wp2
      go_ret
      exact ⟨rfl, below_drewN hb _⟩
    · have h3 : decide (0 ≤ i) = true := by simp; omega
      have h4 : decide (i < (n : Int)) = false := by simp; omega
      clear h hlen htop
      go_enter Try.func141, Try.ntmps141
      go_wp2
      go_quiet (fail)
      go_wp2
      go_ret
      exact ⟨rfl, below_drewN hb _⟩
    · have c1 : ∀ j, ((w.alloc (.cells #[.int .i64 k, .int .u32 g] 69)).drewN j).cell? ⟨q, k * 2 + 1, none⟩ = some (.int .i64 S[k].2) := fun j => h1.ref k hk
      rw [h3] at c1
      have h5 : decide ((0 : Int) ≤ k) = true := by simp
      have h6 : decide ((k : Int) < n) = true := by simp; omega
      have h7 : k < n := by omega
      clear h hlen htop h3
      go_enter Try.func141, Try.ntmps141
      go_wp2
      go_quiet (fail)
      go_wp2
      go_ret
      exact ⟨rfl, below_drewN hb _⟩
    · have c1 : ∀ j, ((w.alloc (.cells #[.int .i64 k, .int .u32 g] 69)).drewN j).cell? ⟨q, k * 2 + 1, none⟩ = some (.int .i64 S[k].2) := fun j => h1.ref k hk
      have c2 : ∀ j, ((w.alloc (.cells #[.int .i64 k, .int .u32 g] 69)).drewN j).cell? ⟨q, k * 2, none⟩ = some (.int .u32 S[k].1) := fun j => h1.gen k hk
      have h5 : decide ((0 : Int) ≤ k) = true := by simp
      have h6 : decide ((k : Int) < n) = true := by simp; omega
      have h7 : k < n := by omega
      have h8 : decide ((0 : Int) < (S[k].2 : Int)) = true := by simp; omega
      have h9 : ((S[k].1 : Int) == g) = false := by simp; exact h4
      generalize hr : (S[k].2 : Int) = r at *
      generalize hg : (S[k].1 : Int) = g' at *
      clear h hlen htop h3 h4 hr hg
      go_enter Try.func141, Try.ntmps141
      go_wp2
      go_quiet (fail)
      go_wp2
      go_ret
      exact ⟨rfl, below_drewN hb _⟩
  · obtain ⟨k, hk, rfl, h3, rfl⟩ := liveS_yes hv
    have c1 : ∀ j, ((w.alloc (.cells #[.int .i64 k, .int .u32 S[k].1] 69)).drewN j).cell? ⟨q, k * 2 + 1, none⟩ = some (.int .i64 S[k].2) := fun j => h1.ref k hk
    have c2 : ∀ j, ((w.alloc (.cells #[.int .i64 k, .int .u32 S[k].1] 69)).drewN j).cell? ⟨q, k * 2, none⟩ = some (.int .u32 S[k].1) := fun j => h1.gen k hk
    have h5 : decide ((0 : Int) ≤ k) = true := by simp
    have h6 : decide ((k : Int) < n) = true := by simp; omega
    have h7 : k < n := by omega
    have h8 : decide ((0 : Int) < (S[k].2 : Int)) = true := by simp; omega
    clear hv h
    generalize hr : (S[k].2 : Int) = r at *
    generalize hg : (S[k].1 : Int) = g' at *
    have h9 : (g' == g') = true := by simp
    clear hlen htop h3 hr hg
    go_enter Try.func141, Try.ntmps141
    go_wp2
    go_quiet (fail)
    go_wp2
    go_ret
    exact ⟨rfl, below_drewN hb _⟩

set_option maxRecDepth 20000 in
set_option maxHeartbeats 1000000 in
theorem rlive_any {r : List Value} {base p q n c : Nat} {S : List Slo} {w : World} (h : ArAt 85 r w base p q n c S) (i g : Int) :
    Calls Try.prog 104 #[.pointer (some ⟨p, 0, none⟩), .agg #[.int .i64 i, .int .u32 g]] w fun e w' => e = .returned (.bool (liveS S i g)) ∧ Below w.heap.size w w' := by
  have hb := (Below.refl w.heap.size w).alloc (Nat.le_refl _) (.cells #[.int .i64 i, .int .u32 g] 69)
  have h1 := h.below hb
  have hl : ∀ k, ((w.alloc (.cells #[.int .i64 i, .int .u32 g] 69)).drewN k).cell? ⟨p, 0, none⟩ = some (.slice (some ⟨q, 0, none⟩) n c) := fun k => h1.at_
  have a0 : ∀ k, ((w.alloc (.cells #[.int .i64 i, .int .u32 g] 69)).drewN k).cell? ⟨w.heap.size, 0, none⟩ = some (.int .i64 i) := fun k => (row2_cells (heap_alloc_new w _)).1
  have a1 : ∀ k, ((w.alloc (.cells #[.int .i64 i, .int .u32 g] 69)).drewN k).cell? ⟨w.heap.size, 1, none⟩ = some (.int .u32 g) := fun k => (row2_cells (heap_alloc_new w _)).2
  have hlen := h.len
  have htop := h.top
  cases hv : liveS S i g
  · rcases liveS_no hv with h2 | h2 | ⟨k, hk, rfl, h3 | ⟨h3, h4⟩⟩
    · have h3 : decide (0 ≤ i) = false := by simp; omega
      clear h hlen htop
      go_enter Try.func104, Try.ntmps104
      go_wp2
      go_quiet (fail)
      go_wp2
      go_ret
      exact ⟨rfl, below_drewN hb _⟩
    · have h3 : decide (0 ≤ i) = true := by simp; omega
      have h4 : decide (i < (n : Int)) = false := by simp; omega
      clear h hlen htop
      go_enter Try.func104, Try.ntmps104
      go_wp2
      go_quiet (fail)
      go_wp2
      go_ret
      exact ⟨rfl, below_drewN hb _⟩
    · have c1 : ∀ j, ((w.alloc (.cells #[.int .i64 k, .int .u32 g] 69)).drewN j).cell? ⟨q, k * 2 + 1, none⟩ = some (.int .i64 S[k].2) := fun j => h1.ref k hk
      rw [h3] at c1
      have h5 : decide ((0 : Int) ≤ k) = true := by simp
      have h6 : decide ((k : Int) < n) = true := by simp; omega
      have h7 : k < n := by omega
      clear h hlen htop h3
      go_enter Try.func104, Try.ntmps104
      go_wp2
      go_quiet (fail)
      go_wp2
      go_ret
      exact ⟨rfl, below_drewN hb _⟩
    · have c1 : ∀ j, ((w.alloc (.cells #[.int .i64 k, .int .u32 g] 69)).drewN j).cell? ⟨q, k * 2 + 1, none⟩ = some (.int .i64 S[k].2) := fun j => h1.ref k hk
      have c2 : ∀ j, ((w.alloc (.cells #[.int .i64 k, .int .u32 g] 69)).drewN j).cell? ⟨q, k * 2, none⟩ = some (.int .u32 S[k].1) := fun j => h1.gen k hk
      have h5 : decide ((0 : Int) ≤ k) = true := by simp
      have h6 : decide ((k : Int) < n) = true := by simp; omega
      have h7 : k < n := by omega
      have h8 : decide ((0 : Int) < (S[k].2 : Int)) = true := by simp; omega
      have h9 : ((S[k].1 : Int) == g) = false := by simp; exact h4
      generalize hr : (S[k].2 : Int) = r at *
      generalize hg : (S[k].1 : Int) = g' at *
      clear h hlen htop h3 h4 hr hg
      go_enter Try.func104, Try.ntmps104
      go_wp2
      go_quiet (fail)
      go_wp2
      go_ret
      exact ⟨rfl, below_drewN hb _⟩
  · obtain ⟨k, hk, rfl, h3, rfl⟩ := liveS_yes hv
    have c1 : ∀ j, ((w.alloc (.cells #[.int .i64 k, .int .u32 S[k].1] 69)).drewN j).cell? ⟨q, k * 2 + 1, none⟩ = some (.int .i64 S[k].2) := fun j => h1.ref k hk
    have c2 : ∀ j, ((w.alloc (.cells #[.int .i64 k, .int .u32 S[k].1] 69)).drewN j).cell? ⟨q, k * 2, none⟩ = some (.int .u32 S[k].1) := fun j => h1.gen k hk
    have h5 : decide ((0 : Int) ≤ k) = true := by simp
    have h6 : decide ((k : Int) < n) = true := by simp; omega
    have h7 : k < n := by omega
    have h8 : decide ((0 : Int) < (S[k].2 : Int)) = true := by simp; omega
    clear hv h
    generalize hr : (S[k].2 : Int) = r at *
    generalize hg : (S[k].1 : Int) = g' at *
    have h9 : (g' == g') = true := by simp
    clear hlen htop h3 hr hg
    go_enter Try.func104, Try.ntmps104
    go_wp2
    go_quiet (fail)
    go_wp2
    go_ret
    exact ⟨rfl, below_drewN hb _⟩
end Go.Proofs.Ytknlkmencdlpcaa

namespace Go.Proofs.Ytknlkmencdlpcaa
set_option linter.unusedVariables false
set_option linter.unusedSimpArgs false
open Go.RowKit

theorem still_tail2 {P : Program} {id : Nat} {Q : Exit → Act → World → Prop} {a : Act} {w : World} {l : List Oper} (n : Nat) (hm : P.follows .mixedOrders = true) (hB : Region.lexTailB .any l.toArray n = true)
    (h : wpStill P l.toArray w.drew (fun a' => wpList P l.toArray Q (l.drop n) a' w.drew) (l.take n) a) : (Code.region id l.toArray true).wp P Q a w := wp_region_still_tail n hm hB h
theorem below_grown {w w' : World} {B : Nat} (h : Below B w w') (hB : w.heap.size ≤ B) (row : Option Nat) : w.grownBy w' row :=
  ⟨h.os, h.tape, h.output, h.size, fun k hk _ => h.block k (by omega)⟩

set_option maxRecDepth 20000 in
set_option maxHeartbeats 1000000 in
theorem keep_any {r : List Value} {base p q n c : Nat} {S : List Slo} {w : World} (h : ArAt 190 r w base p q n c S) (i g : Int) (hm : ∀ s ∈ S, s.2 < 9223372036854775807) :
    Calls Try.prog 103 #[.pointer (some ⟨p, 0, none⟩), .agg #[.int .i64 i, .int .u32 g]] w fun e w' => e = .returned (.int .i64 (staleS S i g)) ∧ ArAt 190 r w' base p q n c (keepS S i g) ∧ w.grownBy w' (some q) := by
  have hb := (Below.refl w.heap.size w).alloc (Nat.le_refl _) (.cells #[.int .i64 i, .int .u32 g] 69)
  have h1 := h.below hb
  cases hv : liveS S i g
  · rw [staleS_no hv, keepS_no hv]
    have HV := Lib.hid hv
    clear hv
    go_enter Try.func103, Try.ntmps103
    go_wp2_with (go_at_call 141; (with_reducible refine (live_any h1 i g).mono ?_); rintro e w1 ⟨rfl, hb1⟩; rw [HV.out])
    go_ret
    exact ⟨rfl, h1.below hb1, below_grown (hb.trans (hb1.mono hb.size)) (Nat.le_refl _) _⟩
  · have HV := Lib.hid hv
    obtain ⟨k, hk, rfl, h3, rfl⟩ := liveS_yes hv
    have hm' := hm _ (List.getElem_mem hk)
    rw [staleS_yes hv, keepS_yes hk hv]
    have hkn : k < n := by have := h.len; omega
    clear hv hm h3
    have HM := Lib.hid (show (S[k].2 : Int) + 1 = ((S[k].2 + 1 : Nat) : Int) from rfl)
    have hm2 : (S[k].2 : Int) + 1 ≤ 9223372036854775807 := by omega
    have hm3 : 0 ≤ (S[k].2 : Int) := by omega
    obtain ⟨m, em⟩ : ∃ m : Int, m = S[k].2 := ⟨_, rfl⟩
    have EM := Lib.hid em
    rw [← em] at hm2 hm3
    clear em
    go_enter Try.func103, Try.ntmps103
    go_wp2_with (go_at_call 141; (with_reducible refine (live_any h1 _ _).mono ?_); rintro e w1 ⟨rfl, hb1⟩; rw [HV.out])
    have h2 := (h1.below hb1).below ((Below.refl w1.heap.size w1).drew)
    have l0 := h2.at_
    have l1 := h2.ref k hk
    have l2 := h2.frozen (k * 2 + 1)
    obtain ⟨a0, a1⟩ := row2_cells (w := w1.drew) ((hb1.block w.heap.size (by simp)).trans (heap_alloc_new w _))
    rw [← EM.out] at l1
    refine still_tail2 12 (by kernel_rfl) (by kernel_rfl) ?_
    simp only [List.take_succ_cons, List.take_zero, List.drop_succ_cons, List.drop_zero]
    repeat still_step
    refine wpStill_nil ?_
    go_wp2
    go_ret
    have hst := h2.setRef k hk (S[k].2 + 1)
    rw [← HM.out, ← EM.out] at hst
    exact ⟨rfl, hst.1, (below_grown (hb.trans (hb1.mono hb.size)).drew (Nat.le_refl _) _).trans hst.2⟩

set_option maxRecDepth 20000 in
set_option maxHeartbeats 1000000 in
theorem refs_any {r : List Value} {base p q n c : Nat} {S : List Slo} {w : World} (h : ArAt 190 r w base p q n c S) (i g : Int) :
    Calls Try.prog 106 #[.pointer (some ⟨p, 0, none⟩), .agg #[.int .i64 i, .int .u32 g]] w fun e w' => e = .returned (.int .i64 (refsS S i g)) ∧ Below w.heap.size w w' := by
  have hb := (Below.refl w.heap.size w).alloc (Nat.le_refl _) (.cells #[.int .i64 i, .int .u32 g] 69)
  have h1 := h.below hb
  cases hv : liveS S i g
  · rw [refsS_no hv]
    have HV := Lib.hid hv
    clear hv
    go_enter Try.func106, Try.ntmps106
    go_wp2_with (go_at_call 141; (with_reducible refine (live_any h1 i g).mono ?_); rintro e w1 ⟨rfl, hb1⟩; rw [HV.out])
    go_ret
    exact ⟨rfl, hb.trans (hb1.mono hb.size)⟩
  · have HV := Lib.hid hv
    obtain ⟨k, hk, rfl, h3, rfl⟩ := liveS_yes hv
    rw [refsS_yes hk hv]
    have hkn : k < n := by have := h.len; omega
    clear hv h3
    obtain ⟨m, em⟩ : ∃ m : Int, m = S[k].2 := ⟨_, rfl⟩
    have EM := Lib.hid em
    rw [← em]
    clear em
    go_enter Try.func106, Try.ntmps106
    go_wp2_with (go_at_call 141; (with_reducible refine (live_any h1 _ _).mono ?_); rintro e w1 ⟨rfl, hb1⟩; rw [HV.out])
    have h2 := h1.below hb1
    have l0 : ∀ j, (w1.drewN j).cell? ⟨p, 0, none⟩ = some (.slice (some ⟨q, 0, none⟩) n c) := fun j => h2.at_
    have l1 : ∀ j, (w1.drewN j).cell? ⟨q, k * 2 + 1, none⟩ = some (.int .i64 m) := fun j => by rw [EM.out]; exact h2.ref k hk
    have a0 : ∀ j, (w1.drewN j).cell? ⟨w.heap.size, 0, none⟩ = some (.int .i64 k) := fun j => (row2_cells (w := w1) ((hb1.block w.heap.size (by simp)).trans (heap_alloc_new w _))).1
    go_quiet (fail)
    go_wp2
    go_ret
    exact ⟨rfl, below_drewN (hb.trans (hb1.mono hb.size)) _⟩

set_option maxRecDepth 20000 in
set_option maxHeartbeats 1000000 in
theorem rkeep_any {r : List Value} {base p q n c : Nat} {S : List Slo} {w : World} (h : ArAt 85 r w base p q n c S) (i g : Int) (hm : ∀ s ∈ S, s.2 < 9223372036854775807) :
    Calls Try.prog 44 #[.pointer (some ⟨p, 0, none⟩), .agg #[.int .i64 i, .int .u32 g]] w fun e w' => e = .returned (.int .i64 (staleS S i g)) ∧ ArAt 85 r w' base p q n c (keepS S i g) ∧ w.grownBy w' (some q) := by
  have hb := (Below.refl w.heap.size w).alloc (Nat.le_refl _) (.cells #[.int .i64 i, .int .u32 g] 69)
  have h1 := h.below hb
  cases hv : liveS S i g
  · rw [staleS_no hv, keepS_no hv]
    have HV := Lib.hid hv
    clear hv
    go_enter Try.func44, Try.ntmps44
    go_wp2_with (go_at_call 104; (with_reducible refine (rlive_any h1 i g).mono ?_); rintro e w1 ⟨rfl, hb1⟩; rw [HV.out])
    go_ret
    exact ⟨rfl, h1.below hb1, below_grown (hb.trans (hb1.mono hb.size)) (Nat.le_refl _) _⟩
  · have HV := Lib.hid hv
    obtain ⟨k, hk, rfl, h3, rfl⟩ := liveS_yes hv
    have hm' := hm _ (List.getElem_mem hk)
    rw [staleS_yes hv, keepS_yes hk hv]
    have hkn : k < n := by have := h.len; omega
    clear hv hm h3
    have HM := Lib.hid (show (S[k].2 : Int) + 1 = ((S[k].2 + 1 : Nat) : Int) from rfl)
    have hm2 : (S[k].2 : Int) + 1 ≤ 9223372036854775807 := by omega
    have hm3 : 0 ≤ (S[k].2 : Int) := by omega
    obtain ⟨m, em⟩ : ∃ m : Int, m = S[k].2 := ⟨_, rfl⟩
    have EM := Lib.hid em
    rw [← em] at hm2 hm3
    clear em
    go_enter Try.func44, Try.ntmps44
    go_wp2_with (go_at_call 104; (with_reducible refine (rlive_any h1 _ _).mono ?_); rintro e w1 ⟨rfl, hb1⟩; rw [HV.out])
    have h2 := (h1.below hb1).below ((Below.refl w1.heap.size w1).drew)
    have l0 := h2.at_
    have l1 := h2.ref k hk
    have l2 := h2.frozen (k * 2 + 1)
    obtain ⟨a0, a1⟩ := row2_cells (w := w1.drew) ((hb1.block w.heap.size (by simp)).trans (heap_alloc_new w _))
    rw [← EM.out] at l1
    refine still_tail2 12 (by kernel_rfl) (by kernel_rfl) ?_
    simp only [List.take_succ_cons, List.take_zero, List.drop_succ_cons, List.drop_zero]
    repeat still_step
    refine wpStill_nil ?_
    go_wp2
    go_ret
    have hst := h2.setRef k hk (S[k].2 + 1)
    rw [← HM.out, ← EM.out] at hst
    exact ⟨rfl, hst.1, (below_grown (hb.trans (hb1.mono hb.size)).drew (Nat.le_refl _) _).trans hst.2⟩

set_option maxRecDepth 20000 in
set_option maxHeartbeats 1000000 in
theorem rrefs_any {r : List Value} {base p q n c : Nat} {S : List Slo} {w : World} (h : ArAt 85 r w base p q n c S) (i g : Int) :
    Calls Try.prog 52 #[.pointer (some ⟨p, 0, none⟩), .agg #[.int .i64 i, .int .u32 g]] w fun e w' => e = .returned (.int .i64 (refsS S i g)) ∧ Below w.heap.size w w' := by
  have hb := (Below.refl w.heap.size w).alloc (Nat.le_refl _) (.cells #[.int .i64 i, .int .u32 g] 69)
  have h1 := h.below hb
  cases hv : liveS S i g
  · rw [refsS_no hv]
    have HV := Lib.hid hv
    clear hv
    go_enter Try.func52, Try.ntmps52
    go_wp2_with (go_at_call 104; (with_reducible refine (rlive_any h1 i g).mono ?_); rintro e w1 ⟨rfl, hb1⟩; rw [HV.out])
    go_ret
    exact ⟨rfl, hb.trans (hb1.mono hb.size)⟩
  · have HV := Lib.hid hv
    obtain ⟨k, hk, rfl, h3, rfl⟩ := liveS_yes hv
    rw [refsS_yes hk hv]
    have hkn : k < n := by have := h.len; omega
    clear hv h3
    obtain ⟨m, em⟩ : ∃ m : Int, m = S[k].2 := ⟨_, rfl⟩
    have EM := Lib.hid em
    rw [← em]
    clear em
    go_enter Try.func52, Try.ntmps52
    go_wp2_with (go_at_call 104; (with_reducible refine (rlive_any h1 _ _).mono ?_); rintro e w1 ⟨rfl, hb1⟩; rw [HV.out])
    have h2 := h1.below hb1
    have l0 : ∀ j, (w1.drewN j).cell? ⟨p, 0, none⟩ = some (.slice (some ⟨q, 0, none⟩) n c) := fun j => h2.at_
    have l1 : ∀ j, (w1.drewN j).cell? ⟨q, k * 2 + 1, none⟩ = some (.int .i64 m) := fun j => by rw [EM.out]; exact h2.ref k hk
    have a0 : ∀ j, (w1.drewN j).cell? ⟨w.heap.size, 0, none⟩ = some (.int .i64 k) := fun j => (row2_cells (w := w1) ((hb1.block w.heap.size (by simp)).trans (heap_alloc_new w _))).1
    go_quiet (fail)
    go_wp2
    go_ret
    exact ⟨rfl, below_drewN (hb.trans (hb1.mono hb.size)) _⟩
end Go.Proofs.Ytknlkmencdlpcaa

namespace Go.Proofs.Ytknlkmencdlpcaa
set_option linter.unusedVariables false
set_option linter.unusedSimpArgs false
open Go.RowKit

theorem ArAt.drop_last {T : TypeId} {r : List Value} {w : World} {base p q n c : Nat} {S : List Slo} (h : ArAt T r w base p q n c S) (k : Nat) (hk : k < S.length) (x : Int) (hx : (((S[k].1 + 1) % 4294967296 : Nat) : Int) = x) :
    ArAt T r ((w.setCell ⟨q, k * 2 + 1, none⟩ (.int .i64 0)).setCell ⟨q, k * 2, none⟩ (.int .u32 x)) base p q n c (S.set k ((S[k].1 + 1) % 4294967296, 0)) ∧
      w.grownBy ((w.setCell ⟨q, k * 2 + 1, none⟩ (.int .i64 0)).setCell ⟨q, k * 2, none⟩ (.int .u32 x)) (some q) := by
  subst hx
  have h1 := h.setRef k hk 0
  have hk' : k < (S.set k (S[k].1, 0)).length := by simpa using hk
  have h2 := h1.1.setGen k hk' ((S[k].1 + 1) % 4294967296) (by omega)
  simp only [List.set_set, List.getElem_set_self] at h2
  exact ⟨h2.1, h1.2.trans h2.2⟩
theorem ArAt.lastGen {T : TypeId} {r : List Value} {w : World} {base p q n c : Nat} {S : List Slo} (k : Nat) (hk : k < S.length) (h : ArAt T r w base p q n c (S.set k (S[k].1, 0))) (x : Int) (hx : (((S[k].1 + 1) % 4294967296 : Nat) : Int) = x) :
    ArAt T r (w.setCell ⟨q, k * 2, none⟩ (.int .u32 x)) base p q n c (S.set k ((S[k].1 + 1) % 4294967296, 0)) ∧ w.grownBy (w.setCell ⟨q, k * 2, none⟩ (.int .u32 x)) (some q) := by
  subst hx
  have h2 := h.setGen k (by simpa using hk) ((S[k].1 + 1) % 4294967296) (by omega)
  simp only [List.set_set, List.getElem_set_self] at h2
  exact h2
theorem ArAt.setRef' {T : TypeId} {r : List Value} {w : World} {base p q n c : Nat} {S : List Slo} (h : ArAt T r w base p q n c S) (k : Nat) (hk : k < S.length) (m : Nat) (x : Int) (hx : (m : Int) = x) :
    ArAt T r (w.setCell ⟨q, k * 2 + 1, none⟩ (.int .i64 x)) base p q n c (S.set k (S[k].1, m)) ∧ w.grownBy (w.setCell ⟨q, k * 2 + 1, none⟩ (.int .i64 x)) (some q) := by
  subst hx
  exact h.setRef k hk m

set_option maxRecDepth 20000 in
set_option maxHeartbeats 1000000 in
theorem drop_no {r : List Value} {base p q n c : Nat} {S : List Slo} {w : World} (h : ArAt 190 r w base p q n c S) (i g : Int) (hv : liveS S i g = false) :
    Calls Try.prog 105 #[.pointer (some ⟨p, 0, none⟩), .agg #[.int .i64 i, .int .u32 g]] w fun e w' => e = .returned (.int .i64 (staleS S i g)) ∧ ArAt 190 r w' base p q n c (dropS S i g) ∧ w.grownBy w' (some q) := by
  have hb := (Below.refl w.heap.size w).alloc (Nat.le_refl _) (.cells #[.int .i64 i, .int .u32 g] 69)
  have h1 := h.below hb
  rw [staleS_no hv, dropS_no hv]
  have HV := Lib.hid hv
  clear hv
  go_enter Try.func105, Try.ntmps105
  go_wp2_with (go_at_call 141; (with_reducible refine (live_any h1 i g).mono ?_); rintro e w1 ⟨rfl, hb1⟩; rw [HV.out])
  go_ret
  exact ⟨rfl, h1.below hb1, below_grown (hb.trans (hb1.mono hb.size)) (Nat.le_refl _) _⟩

set_option maxRecDepth 20000 in
set_option maxHeartbeats 1000000 in
theorem drop_last {r : List Value} {base p q n c : Nat} {S : List Slo} {w : World} (h : ArAt 190 r w base p q n c S) (k : Nat) (hk : k < S.length) (hv : liveS S k S[k].1 = true) (hl : S[k].2 = 1) :
    Calls Try.prog 105 #[.pointer (some ⟨p, 0, none⟩), .agg #[.int .i64 k, .int .u32 S[k].1]] w fun e w' => e = .returned (.int .i64 (staleS S k S[k].1)) ∧ ArAt 190 r w' base p q n c (dropS S k S[k].1) ∧ w.grownBy w' (some q) := by
  have hb := (Below.refl w.heap.size w).alloc (Nat.le_refl _) (.cells #[.int .i64 k, .int .u32 S[k].1] 69)
  have h1 := h.below hb
  have HV := Lib.hid hv
  have hkn : k < n := by have := h.len; omega
  have hg : S[k].1 < 4294967296 := h.gens _ (List.getElem_mem hk)
  rw [staleS_yes hv]
  rw [dropS_last hk hv hl]
  clear hv
  have HL := Lib.hid (show (S[k].2 : Int) = 1 by omega)
  have HG := Lib.hid (show (((S[k].1 + 1) % 4294967296 : Nat) : Int) = ((S[k].1 : Int) + 1) % 4294967296 by omega)
  clear hl
  go_enter Try.func105, Try.ntmps105
  go_wp2_with (go_at_call 141; (with_reducible refine (live_any h1 _ _).mono ?_); rintro e w1 ⟨rfl, hb1⟩; rw [HV.out])
  have h2 := h1.below hb1
  have l0 : ∀ j, (w1.drewN j).cell? ⟨p, 0, none⟩ = some (.slice (some ⟨q, 0, none⟩) n c) := fun j => h2.at_
  have a0 : ∀ j, (w1.drewN j).cell? ⟨w.heap.size, 0, none⟩ = some (.int .i64 k) := fun j => (row2_cells (w := w1) ((hb1.block w.heap.size (by simp)).trans (heap_alloc_new w _))).1
  have l1 : ∀ j, (w1.drewN j).cell? ⟨q, k * 2 + 1, none⟩ = some (.int .i64 1) := fun j => by rw [← HL.out]; exact h2.ref k hk
  have f1 : ∀ j, (w1.drewN j).frozen? ⟨q, k * 2 + 1, none⟩ = false := fun j => h2.frozen _
  have hA : ∀ j, ArAt 190 r (w1.drewN j) base p q n c S := fun j => h2.below (below_drewN (Below.refl _ _) j)
  have g1 : ∀ j, ((w1.drewN j).setCell ⟨q, k * 2 + 1, none⟩ (.int .i64 0)).cell? ⟨q, k * 2, none⟩ = some (.int .u32 S[k].1) := fun j => by
    have := ((hA j).setRef k hk 0).1.gen k (by simpa using hk)
    simpa using this
  have f2 : ∀ j, ((w1.drewN j).setCell ⟨q, k * 2 + 1, none⟩ (.int .i64 0)).frozen? ⟨q, k * 2, none⟩ = false := fun j => ((hA j).setRef k hk 0).1.frozen _
  go_quiet (fail)
  go_wp2
  go_ret
  exact ⟨rfl, ((hA _).drop_last k hk _ HG.out).1, (below_grown (below_drewN (hb.trans (hb1.mono hb.size)) _) (Nat.le_refl _) _).trans ((hA _).drop_last k hk _ HG.out).2⟩

set_option maxRecDepth 20000 in
set_option maxHeartbeats 1000000 in
theorem drop_more {r : List Value} {base p q n c : Nat} {S : List Slo} {w : World} (h : ArAt 190 r w base p q n c S) (k : Nat) (hk : k < S.length) (hv : liveS S k S[k].1 = true) (hl : 1 < S[k].2) (hm : S[k].2 < 9223372036854775807) :
    Calls Try.prog 105 #[.pointer (some ⟨p, 0, none⟩), .agg #[.int .i64 k, .int .u32 S[k].1]] w fun e w' => e = .returned (.int .i64 (staleS S k S[k].1)) ∧ ArAt 190 r w' base p q n c (dropS S k S[k].1) ∧ w.grownBy w' (some q) := by
  have hb := (Below.refl w.heap.size w).alloc (Nat.le_refl _) (.cells #[.int .i64 k, .int .u32 S[k].1] 69)
  have h1 := h.below hb
  have HV := Lib.hid hv
  have hkn : k < n := by have := h.len; omega
  have hg : S[k].1 < 4294967296 := h.gens _ (List.getElem_mem hk)
  rw [staleS_yes hv]
  rw [dropS_more hk hv (by omega)]
  clear hv
  obtain ⟨m, em⟩ : ∃ m : Int, m = S[k].2 - 1 := ⟨_, rfl⟩
  have hd : (m == 0) = false := by simp; omega
  have hm0 : 0 ≤ m := by omega
  have hm1 : m ≤ 9223372036854775807 := by omega
  have hm2 : (m + 1 == 1) = false := by simp; omega
  have EM := Lib.hid (show (S[k].2 : Int) = m + 1 by omega)
  have EN := Lib.hid (show ((S[k].2 - 1 : Nat) : Int) = m by omega)
  clear em hl
  go_enter Try.func105, Try.ntmps105
  go_wp2_with (go_at_call 141; (with_reducible refine (live_any h1 _ _).mono ?_); rintro e w1 ⟨rfl, hb1⟩; rw [HV.out])
  have h2 := h1.below hb1
  have l0 : ∀ j, (w1.drewN j).cell? ⟨p, 0, none⟩ = some (.slice (some ⟨q, 0, none⟩) n c) := fun j => h2.at_
  have a0 : ∀ j, (w1.drewN j).cell? ⟨w.heap.size, 0, none⟩ = some (.int .i64 k) := fun j => (row2_cells (w := w1) ((hb1.block w.heap.size (by simp)).trans (heap_alloc_new w _))).1
  have l1 : ∀ j, (w1.drewN j).cell? ⟨q, k * 2 + 1, none⟩ = some (.int .i64 (m + 1)) := fun j => by rw [← EM.out]; exact h2.ref k hk
  have f1 : ∀ j, (w1.drewN j).frozen? ⟨q, k * 2 + 1, none⟩ = false := fun j => h2.frozen _
  have hA : ∀ j, ArAt 190 r (w1.drewN j) base p q n c S := fun j => h2.below (below_drewN (Below.refl _ _) j)
  go_quiet (fail)
  go_wp2
  go_ret
  exact ⟨rfl, ((hA _).setRef' k hk (S[k].2 - 1) _ EN.out).1, (below_grown (below_drewN (hb.trans (hb1.mono hb.size)) _) (Nat.le_refl _) _).trans ((hA _).setRef' k hk (S[k].2 - 1) _ EN.out).2⟩

theorem drop_any {r : List Value} {base p q n c : Nat} {S : List Slo} {w : World} (h : ArAt 190 r w base p q n c S) (i g : Int) (hm : ∀ s ∈ S, s.2 < 9223372036854775807) :
    Calls Try.prog 105 #[.pointer (some ⟨p, 0, none⟩), .agg #[.int .i64 i, .int .u32 g]] w fun e w' => e = .returned (.int .i64 (staleS S i g)) ∧ ArAt 190 r w' base p q n c (dropS S i g) ∧ w.grownBy w' (some q) := by
  cases hv : liveS S i g
  · exact drop_no h i g hv
  · obtain ⟨k, hk, rfl, h3, rfl⟩ := liveS_yes hv
    by_cases h4 : S[k].2 = 1
    · exact drop_last h k hk hv h4
    · exact drop_more h k hk hv (by omega) (hm _ (List.getElem_mem hk))

set_option maxRecDepth 20000 in
set_option maxHeartbeats 1000000 in
theorem rdrop_no {r : List Value} {base p q n c : Nat} {S : List Slo} {w : World} (h : ArAt 85 r w base p q n c S) (i g : Int) (hv : liveS S i g = false) :
    Calls Try.prog 46 #[.pointer (some ⟨p, 0, none⟩), .agg #[.int .i64 i, .int .u32 g]] w fun e w' => e = .returned (.int .i64 (staleS S i g)) ∧ ArAt 85 r w' base p q n c (dropS S i g) ∧ w.grownBy w' (some q) := by
  have hb := (Below.refl w.heap.size w).alloc (Nat.le_refl _) (.cells #[.int .i64 i, .int .u32 g] 69)
  have h1 := h.below hb
  rw [staleS_no hv, dropS_no hv]
  have HV := Lib.hid hv
  clear hv
  go_enter Try.func46, Try.ntmps46
  go_wp2_with (go_at_call 104; (with_reducible refine (rlive_any h1 i g).mono ?_); rintro e w1 ⟨rfl, hb1⟩; rw [HV.out])
  go_ret
  exact ⟨rfl, h1.below hb1, below_grown (hb.trans (hb1.mono hb.size)) (Nat.le_refl _) _⟩

set_option maxRecDepth 20000 in
set_option maxHeartbeats 1000000 in
theorem rdrop_last {r : List Value} {base p q n c : Nat} {S : List Slo} {w : World} (h : ArAt 85 r w base p q n c S) (k : Nat) (hk : k < S.length) (hv : liveS S k S[k].1 = true) (hl : S[k].2 = 1) :
    Calls Try.prog 46 #[.pointer (some ⟨p, 0, none⟩), .agg #[.int .i64 k, .int .u32 S[k].1]] w fun e w' => e = .returned (.int .i64 (staleS S k S[k].1)) ∧ ArAt 85 r w' base p q n c (dropS S k S[k].1) ∧ w.grownBy w' (some q) := by
  have hb := (Below.refl w.heap.size w).alloc (Nat.le_refl _) (.cells #[.int .i64 k, .int .u32 S[k].1] 69)
  have h1 := h.below hb
  have HV := Lib.hid hv
  have hkn : k < n := by have := h.len; omega
  have hg : S[k].1 < 4294967296 := h.gens _ (List.getElem_mem hk)
  rw [staleS_yes hv]
  rw [dropS_last hk hv hl]
  clear hv
  have HL := Lib.hid (show (S[k].2 : Int) = 1 by omega)
  have HG := Lib.hid (show (((S[k].1 + 1) % 4294967296 : Nat) : Int) = ((S[k].1 : Int) + 1) % 4294967296 by omega)
  clear hl
  go_enter Try.func46, Try.ntmps46
  go_wp2_with (go_at_call 104; (with_reducible refine (rlive_any h1 _ _).mono ?_); rintro e w1 ⟨rfl, hb1⟩; rw [HV.out])
  have hB := (hb.trans (hb1.mono hb.size)).drew
  have d1 : w1.drew.heap[w.heap.size]? = some (.cells #[.int .i64 k, .int .u32 S[k].1] 69 (0, 0)) := (hb1.block w.heap.size (by simp)).trans (heap_alloc_new w _)
  have h2 := (h1.below hb1).below ((Below.refl w1.heap.size w1).drew)
  have hq := h2.qlt
  have hqw : q ≠ w.heap.size := by have := h.qlt; omega
  have l0 := h2.at_
  obtain ⟨a0, _⟩ := row2_cells d1
  have l1 := h2.ref k hk
  rw [HL.out] at l1
  have f1 := h2.frozen (k * 2 + 1)
  refine still_tail2 12 (by kernel_rfl) (by kernel_rfl) ?_
  generalize w1.drew = w2 at *
  simp only [List.take_succ_cons, List.take_zero, List.drop_succ_cons, List.drop_zero]
  repeat still_step
  refine wpStill_nil ?_
  have hst := h2.setRef k hk 0
  have b0 := (row2_cells ((hst.2.block w.heap.size (block_lt d1) (by simp; omega)).trans d1)).1
  have m0 := hst.1.at_
  have n1 := hst.1.ref k (by simpa using hk)
  have n2 := hst.1.gen k (by simpa using hk)
  have n3 := hst.1.frozen (k * 2)
  simp only [List.getElem_set_self] at n1 n2
  go_wp2
  generalize hW : w2.setCell ⟨q, k * 2 + 1, none⟩ (.int .i64 0) = W at *
  have y0 : ∀ j, (W.drewN j).cell? ⟨p, 0, none⟩ = some (.slice (some ⟨q, 0, none⟩) n c) := fun j => m0
  have y1 : ∀ j, (W.drewN j).cell? ⟨w.heap.size, 0, none⟩ = some (.int .i64 k) := fun j => b0
  have y2 : ∀ j, (W.drewN j).cell? ⟨q, k * 2 + 1, none⟩ = some (.int .i64 0) := fun j => n1
  have HW := Lib.hid hW
  clear hW
  go_quiet (fail)
  go_wp2
  have z0 : ∀ j, (W.drewN j).drew.cell? ⟨p, 0, none⟩ = some (.slice (some ⟨q, 0, none⟩) n c) := fun j => m0
  have z1 : ∀ j, (W.drewN j).drew.cell? ⟨w.heap.size, 0, none⟩ = some (.int .i64 k) := fun j => b0
  have z2 : ∀ j, (W.drewN j).drew.cell? ⟨q, k * 2, none⟩ = some (.int .u32 S[k].1) := fun j => n2
  have z3 : ∀ j, (W.drewN j).drew.frozen? ⟨q, k * 2, none⟩ = false := fun j => n3
  refine still_tail2 12 (by kernel_rfl) (by kernel_rfl) ?_
  simp only [List.take_succ_cons, List.take_zero, List.drop_succ_cons, List.drop_zero]
  repeat still_step
  refine wpStill_nil ?_
  go_wp2
  go_ret
  have hV : ∀ j, ArAt 85 r (W.drewN j).drew base p q n c (S.set k (S[k].1, 0)) := fun j => hst.1.below (below_drewN (Below.refl _ _) j).drew
  exact ⟨rfl, (ArAt.lastGen k hk (hV _) _ HG.out).1, (below_grown hB (Nat.le_refl _) _).trans (hst.2.trans ((below_grown ((below_drewN (Below.refl W.heap.size W) _).drew) (Nat.le_refl _) _).trans (ArAt.lastGen k hk (hV _) _ HG.out).2))⟩

set_option maxRecDepth 20000 in
set_option maxHeartbeats 1000000 in
theorem rdrop_more {r : List Value} {base p q n c : Nat} {S : List Slo} {w : World} (h : ArAt 85 r w base p q n c S) (k : Nat) (hk : k < S.length) (hv : liveS S k S[k].1 = true) (hl : 1 < S[k].2) (hm : S[k].2 < 9223372036854775807) :
    Calls Try.prog 46 #[.pointer (some ⟨p, 0, none⟩), .agg #[.int .i64 k, .int .u32 S[k].1]] w fun e w' => e = .returned (.int .i64 (staleS S k S[k].1)) ∧ ArAt 85 r w' base p q n c (dropS S k S[k].1) ∧ w.grownBy w' (some q) := by
  have hb := (Below.refl w.heap.size w).alloc (Nat.le_refl _) (.cells #[.int .i64 k, .int .u32 S[k].1] 69)
  have h1 := h.below hb
  have HV := Lib.hid hv
  have hkn : k < n := by have := h.len; omega
  have hg : S[k].1 < 4294967296 := h.gens _ (List.getElem_mem hk)
  rw [staleS_yes hv]
  rw [dropS_more hk hv (by omega)]
  clear hv
  obtain ⟨m, em⟩ : ∃ m : Int, m = S[k].2 - 1 := ⟨_, rfl⟩
  have hd : (m == 0) = false := by simp; omega
  have hm0 : 0 ≤ m := by omega
  have hm1 : m ≤ 9223372036854775807 := by omega
  have EM := Lib.hid (show (S[k].2 : Int) = m + 1 by omega)
  have EN := Lib.hid (show ((S[k].2 - 1 : Nat) : Int) = m by omega)
  clear em hl
  go_enter Try.func46, Try.ntmps46
  go_wp2_with (go_at_call 104; (with_reducible refine (rlive_any h1 _ _).mono ?_); rintro e w1 ⟨rfl, hb1⟩; rw [HV.out])
  have hB := (hb.trans (hb1.mono hb.size)).drew
  have d1 : w1.drew.heap[w.heap.size]? = some (.cells #[.int .i64 k, .int .u32 S[k].1] 69 (0, 0)) := (hb1.block w.heap.size (by simp)).trans (heap_alloc_new w _)
  have h2 := (h1.below hb1).below ((Below.refl w1.heap.size w1).drew)
  have hq := h2.qlt
  have hqw : q ≠ w.heap.size := by have := h.qlt; omega
  have l0 := h2.at_
  obtain ⟨a0, _⟩ := row2_cells d1
  have l1 := h2.ref k hk
  rw [EM.out] at l1
  have f1 := h2.frozen (k * 2 + 1)
  refine still_tail2 12 (by kernel_rfl) (by kernel_rfl) ?_
  generalize w1.drew = w2 at *
  simp only [List.take_succ_cons, List.take_zero, List.drop_succ_cons, List.drop_zero]
  repeat still_step
  refine wpStill_nil ?_
  have hst := h2.setRef' k hk (S[k].2 - 1) _ EN.out
  have b0 := (row2_cells ((hst.2.block w.heap.size (block_lt d1) (by simp; omega)).trans d1)).1
  have m0 := hst.1.at_
  have n1 := hst.1.ref k (by simpa using hk)
  simp only [List.getElem_set_self] at n1
  rw [EN.out] at n1
  go_wp2
  generalize hW : w2.setCell ⟨q, k * 2 + 1, none⟩ (.int .i64 m) = W at *
  have y0 : ∀ j, (W.drewN j).cell? ⟨p, 0, none⟩ = some (.slice (some ⟨q, 0, none⟩) n c) := fun j => m0
  have y1 : ∀ j, (W.drewN j).cell? ⟨w.heap.size, 0, none⟩ = some (.int .i64 k) := fun j => b0
  have y2 : ∀ j, (W.drewN j).cell? ⟨q, k * 2 + 1, none⟩ = some (.int .i64 m) := fun j => n1
  have HW := Lib.hid hW
  clear hW
  go_quiet (fail)
  go_wp2
  go_ret
  exact ⟨rfl, hst.1.below (below_drewN (Below.refl _ _) _), (below_grown hB (Nat.le_refl _) _).trans (hst.2.trans (below_grown (below_drewN (Below.refl W.heap.size W) _) (Nat.le_refl _) _))⟩

theorem rdrop_any {r : List Value} {base p q n c : Nat} {S : List Slo} {w : World} (h : ArAt 85 r w base p q n c S) (i g : Int) (hm : ∀ s ∈ S, s.2 < 9223372036854775807) :
    Calls Try.prog 46 #[.pointer (some ⟨p, 0, none⟩), .agg #[.int .i64 i, .int .u32 g]] w fun e w' => e = .returned (.int .i64 (staleS S i g)) ∧ ArAt 85 r w' base p q n c (dropS S i g) ∧ w.grownBy w' (some q) := by
  cases hv : liveS S i g
  · exact rdrop_no h i g hv
  · obtain ⟨k, hk, rfl, h3, rfl⟩ := liveS_yes hv
    by_cases h4 : S[k].2 = 1
    · exact rdrop_last h k hk hv h4
    · exact rdrop_more h k hk hv (by omega) (hm _ (List.getElem_mem hk))
end Go.Proofs.Ytknlkmencdlpcaa
