/-
The walks of package arena: what each function leaves behind. Printed by genar.py.
-/
import Derived.Test.YtfmojphbjhedgaaChecked
import Derived.Test.YtfmojphbjhedgaaArNum
import Derived.Test.YtfmojphbjhedgaaApp
import Derived.Deep.QuietTactic
import Derived.BigQuiet
import Derived.WalkKit
import Derived.WalkSpells
import Derived.WalkLawsBesides
import Derived.Laws.BitsAllLaws
import Derived.IntWalk
import Derived.Laws.Pointers
namespace Go.Proofs.Ytfmojphbjhedgaa
set_option linter.unusedVariables false
set_option linter.unusedSimpArgs false
open Go.RowKit

/-- At p lies a struct (of type T) that holds the slice of the slots S, at q, and r behind it. -/
structure ArAt (T : TypeId) (r : List Value) (w : World) (base p q n c : Nat) (S : List Slo) : Prop where
  ne : T ≠ 53
  hp : base ≤ p
  head : w.heap[p]? = some (.cells ⟨.slice (some ⟨q, 0, none⟩) n c :: r⟩ T (0, 0))
  own : w.ownsRow base 53 2 (.slice (some ⟨q, 0, none⟩) n c) n (rowS S)
  len : S.length = n
  top : n ≤ 1024
  bot : 0 < n
  gens : ∀ s ∈ S, s.1 < 4294967296
abbrev AA := ArAt 57 []
theorem block_lt {w : World} {p : Nat} {o : Obj} (h : w.heap[p]? = some o) : p < w.heap.size := (Array.getElem?_eq_some_iff.1 h).1
section
variable {T : TypeId} {r : List Value} {w w' : World} {base p q n c : Nat} {S : List Slo}
theorem ArAt.below (h : ArAt T r w base p q n c S) (hb : Below w.heap.size w w') : ArAt T r w' base p q n c S :=
  ⟨h.ne, h.hp, (hb.block p (block_lt h.head)).trans h.head, h.own.kept (own_below hb) (own_none _), h.len, h.top, h.bot, h.gens⟩
theorem ArAt.kept (h : ArAt T r w base p q n c S) {row : Option Nat} (hg : w.grownBy w' row) (h1 : row ≠ some p) (h2 : row ≠ some q) : ArAt T r w' base p q n c S :=
  ⟨h.ne, h.hp, (hg.block p (block_lt h.head) (fun e => h1 e.symm)).trans h.head, h.own.kept hg (.inr (fun e => h2 (by rw [← e]; rfl))), h.len, h.top, h.bot, h.gens⟩
theorem ArAt.qlt (h : ArAt T r w base p q n c S) : base ≤ q ∧ q < w.heap.size := h.own.lt q rfl
theorem ArAt.plt (h : ArAt T r w base p q n c S) : p < w.heap.size := block_lt h.head
theorem ArAt.pq (h : ArAt T r w base p q n c S) : p ≠ q := by
  rintro rfl
  rcases h.own.2 with ⟨h', _⟩ | ⟨g', cap', cur, h', _, hg, _⟩
  · simp at h'
  · simp only [Value.slice.injEq, Option.some.injEq, Addr.mk.injEq, and_true, true_and] at h'
    obtain ⟨rfl, rfl⟩ := h'
    rw [h.head] at hg
    injection hg with hg
    injection hg with _ ht
    exact h.ne ht
theorem ArAt.at_ (h : ArAt T r w base p q n c S) : w.cell? ⟨p, 0, none⟩ = some (.slice (some ⟨q, 0, none⟩) n c) := by
  rw [cell_of_row w p 0 _ _ _ h.head]; rfl
theorem ArAt.gen (h : ArAt T r w base p q n c S) (i : Nat) (hi : i < S.length) : w.cell? ⟨q, i * 2, none⟩ = some (.int .u32 S[i].1) := by
  rw [h.own.cellAt (i * 2) (by have := h.len; omega)]; exact rowS_gen S i hi
theorem ArAt.ref (h : ArAt T r w base p q n c S) (i : Nat) (hi : i < S.length) : w.cell? ⟨q, i * 2 + 1, none⟩ = some (.int .i64 S[i].2) := by
  rw [h.own.cellAt (i * 2 + 1) (by have := h.len; omega)]; exact rowS_ref S i hi
theorem ArAt.setRef (h : ArAt T r w base p q n c S) (i : Nat) (hi : i < S.length) (m : Nat) :
    ArAt T r (w.setCell ⟨q, i * 2 + 1, none⟩ (.int .i64 m)) base p q n c (S.set i (S[i].1, m)) ∧ w.grownBy (w.setCell ⟨q, i * 2 + 1, none⟩ (.int .i64 m)) (some q) := by
  have hst := h.own.stored (i * 2 + 1) (.int .i64 m)
  rw [rowS_set_ref S i m hi] at hst
  refine ⟨⟨h.ne, h.hp, (hst.2.block p h.plt (by simpa using h.pq)).trans h.head, hst.1, by simpa using h.len, h.top, h.bot, ?_⟩, hst.2⟩
  intro s hs
  rcases List.mem_or_eq_of_mem_set hs with hs | rfl
  · exact h.gens s hs
  · exact (h.gens S[i] (List.getElem_mem hi) : S[i].1 < 4294967296)
theorem ArAt.setGen (h : ArAt T r w base p q n c S) (i : Nat) (hi : i < S.length) (m : Nat) (hm : m < 4294967296) :
    ArAt T r (w.setCell ⟨q, i * 2, none⟩ (.int .u32 m)) base p q n c (S.set i (m, S[i].2)) ∧ w.grownBy (w.setCell ⟨q, i * 2, none⟩ (.int .u32 m)) (some q) := by
  have hst := h.own.stored (i * 2) (.int .u32 m)
  rw [rowS_set_gen S i m hi] at hst
  refine ⟨⟨h.ne, h.hp, (hst.2.block p h.plt (by simpa using h.pq)).trans h.head, hst.1, by simpa using h.len, h.top, h.bot, ?_⟩, hst.2⟩
  intro s hs
  rcases List.mem_or_eq_of_mem_set hs with hs | rfl
  · exact h.gens s hs
  · exact hm
theorem ArAt.frozen (h : ArAt T r w base p q n c S) (j : Nat) : w.frozen? ⟨q, j, none⟩ = false := h.own.frozenAt j
end
theorem row2_cells {w : World} {b : Nat} {x y : Value} {t : TypeId} (h : w.heap[b]? = some (.cells #[x, y] t (0, 0))) : w.cell? ⟨b, 0, none⟩ = some x ∧ w.cell? ⟨b, 1, none⟩ = some y :=
  ⟨by rw [cell_of_row w b 0 _ _ _ h]; rfl, by rw [cell_of_row w b 1 _ _ _ h]; rfl⟩
theorem neq_nil (t : TypeId) (a : Addr) (h : Try.prog.underlying t = some (.pointer (Try.prog.pointee t))) (w : World) : (binOp .neq t (.pointer (some a)) (.pointer none)).run Try.prog w = .ok (.bool true) w := by
  rw [run_neq_pointer_nil w t _ h]; rfl
theorem eql_nil (t : TypeId) (a : Addr) (h : Try.prog.underlying t = some (.pointer (Try.prog.pointee t))) (w : World) : (binOp .eql t (.pointer (some a)) (.pointer none)).run Try.prog w = .ok (.bool false) w := by
  rw [run_eql_pointer_nil w t _ h]; rfl
theorem neq_none (t : TypeId) (h : Try.prog.underlying t = some (.pointer (Try.prog.pointee t))) (w : World) : (binOp .neq t (.pointer none) (.pointer none)).run Try.prog w = .ok (.bool false) w := by
  rw [run_neq_pointer_nil w t _ h]; rfl
theorem eql_none (t : TypeId) (h : Try.prog.underlying t = some (.pointer (Try.prog.pointee t))) (w : World) : (binOp .eql t (.pointer none) (.pointer none)).run Try.prog w = .ok (.bool true) w := by
  rw [run_eql_pointer_nil w t _ h]; rfl

set_option maxHeartbeats 400000 in
theorem live_any {r : List Value} {base p q n c : Nat} {S : List Slo} {w : World} (h : ArAt 57 r w base p q n c S) (i g : Int) :
    Calls Try.prog 24 #[.pointer (some ⟨p, 0, none⟩), .agg #[.int .i64 i, .int .u32 g]] w fun e w' => e = .returned (.bool (liveS S i g)) ∧ Below w.heap.size w w' := by
  have hb := (Below.refl w.heap.size w).alloc (Nat.le_refl _) (.cells #[.int .i64 i, .int .u32 g] 31)
  have h1 := h.below hb
  have hl : ∀ k, ((w.alloc (.cells #[.int .i64 i, .int .u32 g] 31)).drewN k).cell? ⟨p, 0, none⟩ = some (.slice (some ⟨q, 0, none⟩) n c) := fun k => h1.at_
  have a0 : ∀ k, ((w.alloc (.cells #[.int .i64 i, .int .u32 g] 31)).drewN k).cell? ⟨w.heap.size, 0, none⟩ = some (.int .i64 i) := fun k => (row2_cells (heap_alloc_new w _)).1
  have a1 : ∀ k, ((w.alloc (.cells #[.int .i64 i, .int .u32 g] 31)).drewN k).cell? ⟨w.heap.size, 1, none⟩ = some (.int .u32 g) := fun k => (row2_cells (heap_alloc_new w _)).2
  have hlen := h.len
  have htop := h.top
  have hq := fun wx => neq_nil 24 ⟨p, 0, none⟩ (by kernel_rfl) wx
  cases hv : liveS S i g
  · rcases liveS_no hv with h2 | h2 | ⟨k, hk, rfl, h3 | ⟨h3, h4⟩⟩
    · have h3 : decide (0 ≤ i) = false := by simp; omega
      clear h hlen htop
      go_enter Try.func24, Try.ntmps24
      go_wp2
      go_quiet (fail)
      go_wp2
      go_ret
      exact ⟨rfl, below_drewN hb _⟩
    · have h3 : decide (0 ≤ i) = true := by simp; omega
      have h4 : decide (i < (n : Int)) = false := by simp; omega
      clear h hlen htop
      go_enter Try.func24, Try.ntmps24
      go_wp2
      go_quiet (fail)
      go_wp2
      go_ret
      exact ⟨rfl, below_drewN hb _⟩
    · have c1 : ∀ j, ((w.alloc (.cells #[.int .i64 k, .int .u32 g] 31)).drewN j).cell? ⟨q, k * 2 + 1, none⟩ = some (.int .i64 S[k].2) := fun j => h1.ref k hk
      rw [h3] at c1
      have h5 : decide ((0 : Int) ≤ k) = true := by simp
      have h6 : decide ((k : Int) < n) = true := by simp; omega
      have h7 : k < n := by omega
      clear h hlen htop h3
      go_enter Try.func24, Try.ntmps24
      go_wp2
      go_quiet (fail)
      go_wp2
      go_ret
      exact ⟨rfl, below_drewN hb _⟩
    · have c1 : ∀ j, ((w.alloc (.cells #[.int .i64 k, .int .u32 g] 31)).drewN j).cell? ⟨q, k * 2 + 1, none⟩ = some (.int .i64 S[k].2) := fun j => h1.ref k hk
      have c2 : ∀ j, ((w.alloc (.cells #[.int .i64 k, .int .u32 g] 31)).drewN j).cell? ⟨q, k * 2, none⟩ = some (.int .u32 S[k].1) := fun j => h1.gen k hk
      have h5 : decide ((0 : Int) ≤ k) = true := by simp
      have h6 : decide ((k : Int) < n) = true := by simp; omega
      have h7 : k < n := by omega
      have h8 : decide ((0 : Int) < (S[k].2 : Int)) = true := by simp; omega
      have h9 : ((S[k].1 : Int) == g) = false := by simp; exact h4
      generalize hr : (S[k].2 : Int) = r at *
      generalize hg : (S[k].1 : Int) = g' at *
      clear h hlen htop h3 h4 hr hg
      go_enter Try.func24, Try.ntmps24
      go_wp2
      go_quiet (fail)
      go_wp2
      go_ret
      exact ⟨rfl, below_drewN hb _⟩
  · obtain ⟨k, hk, rfl, h3, rfl⟩ := liveS_yes hv
    have c1 : ∀ j, ((w.alloc (.cells #[.int .i64 k, .int .u32 S[k].1] 31)).drewN j).cell? ⟨q, k * 2 + 1, none⟩ = some (.int .i64 S[k].2) := fun j => h1.ref k hk
    have c2 : ∀ j, ((w.alloc (.cells #[.int .i64 k, .int .u32 S[k].1] 31)).drewN j).cell? ⟨q, k * 2, none⟩ = some (.int .u32 S[k].1) := fun j => h1.gen k hk
    have h5 : decide ((0 : Int) ≤ k) = true := by simp
    have h6 : decide ((k : Int) < n) = true := by simp; omega
    have h7 : k < n := by omega
    have h8 : decide ((0 : Int) < (S[k].2 : Int)) = true := by simp; omega
    clear hv h
    generalize hr : (S[k].2 : Int) = r at *
    generalize hg : (S[k].1 : Int) = g' at *
    have h9 : (g' == g') = true := by simp
    clear hlen htop h3 hr hg
    go_enter Try.func24, Try.ntmps24
    go_wp2
    go_quiet (fail)
    go_wp2
    go_ret
    exact ⟨rfl, below_drewN hb _⟩

set_option maxHeartbeats 400000 in
theorem rlive_any {r : List Value} {base p q n c : Nat} {S : List Slo} {w : World} (h : ArAt 46 r w base p q n c S) (i g : Int) :
    Calls Try.prog 25 #[.pointer (some ⟨p, 0, none⟩), .agg #[.int .i64 i, .int .u32 g]] w fun e w' => e = .returned (.bool (liveS S i g)) ∧ Below w.heap.size w w' := by
  have hb := (Below.refl w.heap.size w).alloc (Nat.le_refl _) (.cells #[.int .i64 i, .int .u32 g] 31)
  have h1 := h.below hb
  have hl : ∀ k, ((w.alloc (.cells #[.int .i64 i, .int .u32 g] 31)).drewN k).cell? ⟨p, 0, none⟩ = some (.slice (some ⟨q, 0, none⟩) n c) := fun k => h1.at_
  have a0 : ∀ k, ((w.alloc (.cells #[.int .i64 i, .int .u32 g] 31)).drewN k).cell? ⟨w.heap.size, 0, none⟩ = some (.int .i64 i) := fun k => (row2_cells (heap_alloc_new w _)).1
  have a1 : ∀ k, ((w.alloc (.cells #[.int .i64 i, .int .u32 g] 31)).drewN k).cell? ⟨w.heap.size, 1, none⟩ = some (.int .u32 g) := fun k => (row2_cells (heap_alloc_new w _)).2
  have hlen := h.len
  have htop := h.top
  cases hv : liveS S i g
  · rcases liveS_no hv with h2 | h2 | ⟨k, hk, rfl, h3 | ⟨h3, h4⟩⟩
    · have h3 : decide (0 ≤ i) = false := by simp; omega
      clear h hlen htop
      go_enter Try.func25, Try.ntmps25
      go_wp2
      go_quiet (fail)
      go_wp2
      go_ret
      exact ⟨rfl, below_drewN hb _⟩
    · have h3 : decide (0 ≤ i) = true := by simp; omega
      have h4 : decide (i < (n : Int)) = false := by simp; omega
      clear h hlen htop
      go_enter Try.func25, Try.ntmps25
      go_wp2
      go_quiet (fail)
      go_wp2
      go_ret
      exact ⟨rfl, below_drewN hb _⟩
    · have c1 : ∀ j, ((w.alloc (.cells #[.int .i64 k, .int .u32 g] 31)).drewN j).cell? ⟨q, k * 2 + 1, none⟩ = some (.int .i64 S[k].2) := fun j => h1.ref k hk
      rw [h3] at c1
      have h5 : decide ((0 : Int) ≤ k) = true := by simp
      have h6 : decide ((k : Int) < n) = true := by simp; omega
      have h7 : k < n := by omega
      clear h hlen htop h3
      go_enter Try.func25, Try.ntmps25
      go_wp2
      go_quiet (fail)
      go_wp2
      go_ret
      exact ⟨rfl, below_drewN hb _⟩
    · have c1 : ∀ j, ((w.alloc (.cells #[.int .i64 k, .int .u32 g] 31)).drewN j).cell? ⟨q, k * 2 + 1, none⟩ = some (.int .i64 S[k].2) := fun j => h1.ref k hk
      have c2 : ∀ j, ((w.alloc (.cells #[.int .i64 k, .int .u32 g] 31)).drewN j).cell? ⟨q, k * 2, none⟩ = some (.int .u32 S[k].1) := fun j => h1.gen k hk
      have h5 : decide ((0 : Int) ≤ k) = true := by simp
      have h6 : decide ((k : Int) < n) = true := by simp; omega
      have h7 : k < n := by omega
      have h8 : decide ((0 : Int) < (S[k].2 : Int)) = true := by simp; omega
      have h9 : ((S[k].1 : Int) == g) = false := by simp; exact h4
      generalize hr : (S[k].2 : Int) = r at *
      generalize hg : (S[k].1 : Int) = g' at *
      clear h hlen htop h3 h4 hr hg
      go_enter Try.func25, Try.ntmps25
      go_wp2
      go_quiet (fail)
      go_wp2
      go_ret
      exact ⟨rfl, below_drewN hb _⟩
  · obtain ⟨k, hk, rfl, h3, rfl⟩ := liveS_yes hv
    have c1 : ∀ j, ((w.alloc (.cells #[.int .i64 k, .int .u32 S[k].1] 31)).drewN j).cell? ⟨q, k * 2 + 1, none⟩ = some (.int .i64 S[k].2) := fun j => h1.ref k hk
    have c2 : ∀ j, ((w.alloc (.cells #[.int .i64 k, .int .u32 S[k].1] 31)).drewN j).cell? ⟨q, k * 2, none⟩ = some (.int .u32 S[k].1) := fun j => h1.gen k hk
    have h5 : decide ((0 : Int) ≤ k) = true := by simp
    have h6 : decide ((k : Int) < n) = true := by simp; omega
    have h7 : k < n := by omega
    have h8 : decide ((0 : Int) < (S[k].2 : Int)) = true := by simp; omega
    clear hv h
    generalize hr : (S[k].2 : Int) = r at *
    generalize hg : (S[k].1 : Int) = g' at *
    have h9 : (g' == g') = true := by simp
    clear hlen htop h3 hr hg
    go_enter Try.func25, Try.ntmps25
    go_wp2
    go_quiet (fail)
    go_wp2
    go_ret
    exact ⟨rfl, below_drewN hb _⟩
end Go.Proofs.Ytfmojphbjhedgaa
