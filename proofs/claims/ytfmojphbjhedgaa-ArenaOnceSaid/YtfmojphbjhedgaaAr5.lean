/-
The walks of the document's own Take; of New, in both; of SameSlots.
-/
import Derived.Test.YtfmojphbjhedgaaAr4
namespace Go.Proofs.Ytfmojphbjhedgaa
set_option linter.unusedVariables false
set_option linter.unusedSimpArgs false
open Go.RowKit

set_option maxHeartbeats 400000 in
theorem rtake_any {r : List Value} {base p q n c : Nat} {S : List Slo} {w : World} (h : ArAt 46 r w base p q n c S) :
    Calls Try.prog 12 #[.pointer (some ⟨p, 0, none⟩)] w fun e w' => e = .returned (.tuple #[.agg #[.int .i64 (takeSlot S), .int .u32 (takeGen S)], .int .i64 (takeErr S)]) ∧
      ArAt 46 r w' base p q n c (takeS S) ∧ w.grownBy w' (some q) := by
  have hlen := h.len
  have htop := h.top
  have hbot := h.bot
  have hb0 := (Below.refl w.heap.size w).alloc (Nat.le_refl _) (.cells #[.int .i64 0, .int .u32 0] 31)
  have h1 := h.below hb0
  have hl := h1.at_
  have d0 := heap_alloc_new w (.cells #[.int .i64 0, .int .u32 0] 31)
  have hw1 := block_lt d0
  go_enter Try.func12, Try.ntmps12
  go_wp2
  generalize w.alloc (.cells #[.int .i64 0, .int .u32 0] 31) = w1 at *
  go_loopw [10] (fun i wr => ∃ k : Nat, i = .int .i64 k ∧ k ≤ n ∧ (∀ j, j < k → ∀ hj : j < S.length, S[j].2 ≠ 0) ∧ wr = w1) (fun i _ => n - (intOf i).toNat)
  case atStart => exact ⟨0, rfl, Nat.zero_le _, fun j hj => absurd hj (by omega), rfl⟩
  case round =>
    obtain ⟨k, rfl, hkn, hnz, rfl⟩ := hrel
    have Hnz := Lib.hid hnz
    clear hnz
    have hwp := h.plt
    have hwq := h.qlt
    by_cases hlt : k < n
    · have hk : k < S.length := by omega
      have g2 := h1.ref k hk
      by_cases hz : S[k].2 = 0
      · have e := takeS_at hk (freeIx_at hk hz (fun j hj => Hnz.out j hj (by omega)))
        have E := Lib.hid e
        rw [hz] at g2
        have l2 := h1.frozen (k * 2 + 1)
        have hst := h1.setRef' k hk 1 1 rfl
        have m0 := hst.1.at_
        have m1 := hst.1.gen k (by simpa using hk)
        simp only [List.getElem_set_self] at m1
        have d3 := (hst.2.block w.heap.size hw1 (by simp; omega)).trans d0
        obtain ⟨⟨x0, x1⟩, ⟨x2, x3⟩, x4⟩ := row2_store d3 (.int .i64 k) (.int .u32 S[k].1)
        obtain ⟨r0, r1⟩ := row2_cells x4
        have hfin := (hst.1.keptSet (a := ⟨w.heap.size, 0, none⟩) (by simp; omega) (by simp; omega) (.int .i64 k)).keptSet (a := ⟨w.heap.size, 1, none⟩) (by simp; omega) (by simp; omega) (.int .u32 S[k].1)
        have hgr := grown_set_new (grown_set_new ((below_grown hb0 (Nat.le_refl _) (some q)).trans hst.2) (a := ⟨w.heap.size, 0, none⟩) (Nat.le_refl _) (.int .i64 k)) (a := ⟨w.heap.size, 1, none⟩) (Nat.le_refl _) (.int .u32 S[k].1)
        have HF := Lib.hid (And.intro hfin hgr)
        clear e hst hfin hgr d3 x4
        go_wp2
        rw [E.out.1, E.out.2.1, E.out.2.2.1, E.out.2.2.2]
        exact bodyPost_ret (v := .tuple #[.agg #[.int .i64 k, .int .u32 S[k].1], .int .i64 0]) (by simp [results, Try.results12, go_sem, r0, r1]) rfl ⟨rfl, HF.out.1, HF.out.2⟩
      · have hz' : ((S[k].2 : Int) == 0) = false := by simp; omega
        go_wp2
        refine ⟨⟨k + 1, rfl, by omega, ?_, trivial⟩, by simp [intOf]; omega⟩
        intro j hj hj'
        by_cases e : j = k
        · subst e; exact hz
        · exact Hnz.out j (by omega) hj'
    · obtain rfl : k = n := by omega
      obtain ⟨⟨x0, x1⟩, ⟨x2, x3⟩, x4⟩ := row2_store d0 (.int .i64 0) (.int .u32 0)
      obtain ⟨r0, r1⟩ := row2_cells x4
      have E := Lib.hid (takeS_none (freeIx_none (S := S) (fun j hj => Hnz.out j (by omega) hj)))
      have hfin := (h1.keptSet (a := ⟨w.heap.size, 0, none⟩) (by simp; omega) (by simp; omega) (.int .i64 0)).keptSet (a := ⟨w.heap.size, 1, none⟩) (by simp; omega) (by simp; omega) (.int .u32 0)
      have hgr := grown_set_new (grown_set_new (below_grown hb0 (Nat.le_refl _) (some q)) (a := ⟨w.heap.size, 0, none⟩) (Nat.le_refl _) (.int .i64 0)) (a := ⟨w.heap.size, 1, none⟩) (Nat.le_refl _) (.int .u32 0)
      have HF := Lib.hid (And.intro hfin hgr)
      clear d0 x4 hfin hgr
      go_wp2
      rw [E.out.1, E.out.2.1, E.out.2.2.1, E.out.2.2.2]
      exact bodyPost_ret (v := .tuple #[.agg #[.int .i64 0, .int .u32 0], .int .i64 6]) (by simp [results, Try.results12, go_sem, r0, r1]) rfl ⟨rfl, HF.out.1, HF.out.2⟩
end Go.Proofs.Ytfmojphbjhedgaa
