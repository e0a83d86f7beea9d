/-
The walks of SameSlots and of the choice of a handle.
-/
import Derived.Test.YtfmojphbjhedgaaAr8
namespace Go.Proofs.Ytfmojphbjhedgaa
set_option linter.unusedVariables false
set_option linter.unusedSimpArgs false
open Go.RowKit

theorem rd_at {w : World} {g : Nat} {xs : List Value} (h : Rd w (some ⟨g, 0, none⟩) xs) {j : Nat} {u : Value} (hu : xs[j]? = some u) : w.cell? ⟨g, j, none⟩ = some u := by
  obtain ⟨ad, he, hc⟩ := h j u hu
  injection he with he
  subst he
  rwa [add_lit] at hc
set_option maxHeartbeats 400000 in
theorem same_any (g1 g2 n c1 c2 : Nat) (S : List Slo) (w : World) (hlen : S.length = n) (htop : n ≤ 1024) (hr1 : Rd w (some ⟨g1, 0, none⟩) (rowS S)) (hr2 : Rd w (some ⟨g2, 0, none⟩) (rowS S)) :
    Calls Try.prog 21 #[.slice (some ⟨g1, 0, none⟩) n c1, .slice (some ⟨g2, 0, none⟩) n c2] w fun e w' => e = .returned (.bool true) ∧ Below w.heap.size w w' := by
  go_enter Try.func21, Try.ntmps21
  go_wp2
  go_loopw [13] (fun i wr => ∃ k : Nat, i = .int .i64 k ∧ k ≤ n ∧ Below w.heap.size w wr) (fun i _ => n - (intOf i).toNat)
  case atStart => exact ⟨0, rfl, Nat.zero_le _, Below.refl _ _⟩
  case round =>
    obtain ⟨k, rfl, hkn, hbr⟩ := hrel
    by_cases hlt : k < n
    · have hk : k < S.length := by omega
      have a0 : ∀ j, (wr.drewN j).cell? ⟨g1, k * 2, none⟩ = some (.int .u32 S[k].1) := fun j => rd_at (hr1.below hbr) (rowS_gen S k hk)
      have a1 : ∀ j, (wr.drewN j).cell? ⟨g1, k * 2 + 1, none⟩ = some (.int .i64 S[k].2) := fun j => rd_at (hr1.below hbr) (rowS_ref S k hk)
      have b0 : ∀ j, (wr.drewN j).cell? ⟨g2, k * 2, none⟩ = some (.int .u32 S[k].1) := fun j => rd_at (hr2.below hbr) (rowS_gen S k hk)
      have b1 : ∀ j, (wr.drewN j).cell? ⟨g2, k * 2 + 1, none⟩ = some (.int .i64 S[k].2) := fun j => rd_at (hr2.below hbr) (rowS_ref S k hk)
      go_wp2
      go_quiet (fail)
      go_wp2
      exact ⟨⟨k + 1, rfl, by omega, below_drewN hbr _⟩, by simp [intOf]; omega⟩
    · go_wp2
      go_ret
      exact ⟨rfl, hbr⟩
/-- The cells of a list of handles. -/
def rowH (l : List Slo) : List Value := l.flatMap fun h => [.int .i64 h.1, .int .u32 h.2]
theorem rowH_cons (s : Slo) (S : List Slo) : rowH (s :: S) = .int .i64 s.1 :: .int .u32 s.2 :: rowH S := rfl
theorem rowH_append (S T : List Slo) : rowH (S ++ T) = rowH S ++ rowH T := by simp [rowH]
theorem rowH_length (S : List Slo) : (rowH S).length = S.length * 2 := by
  induction S with
  | nil => rfl
  | cons s S ih => rw [rowH_cons]; simp [ih]; omega
theorem rowH_one (S : List Slo) : ∀ u ∈ rowH S, u.oneCell' = true := by
  intro u hu
  simp only [rowH, List.mem_flatMap] at hu
  obtain ⟨s, _, hs⟩ := hu
  simp at hs
  rcases hs with rfl | rfl <;> rfl
theorem rowH_slot (S : List Slo) (i : Nat) (h : i < S.length) : (rowH S)[i * 2]? = some (.int .i64 S[i].1) := by
  induction S generalizing i with
  | nil => simp at h
  | cons s S ih =>
    cases i with
    | zero => rfl
    | succ i => rw [rowH_cons, show (i + 1) * 2 = i * 2 + 1 + 1 by omega]; simpa using ih i (by simpa using h)
theorem rowH_gen (S : List Slo) (i : Nat) (h : i < S.length) : (rowH S)[i * 2 + 1]? = some (.int .u32 S[i].2) := by
  induction S generalizing i with
  | nil => simp at h
  | cons s S ih =>
    cases i with
    | zero => rfl
    | succ i => rw [rowH_cons, show (i + 1) * 2 + 1 = i * 2 + 1 + 1 + 1 by omega]; simpa using ih i (by simpa using h)
theorem some_none (A : Option Addr) (ct : Nat) (x : Int) (w : World) : Calls Try.prog 10 #[.slice A 0 ct, .int .i64 x] w fun e w' => (∃ i g : Int, e = .returned (.agg #[.int .i64 i, .int .u32 g])) ∧ Below w.heap.size w w' := by
  have hb0 := (Below.refl w.heap.size w).alloc (Nat.le_refl _) (.cells #[.int .i64 0, .int .u32 0] 31)
  have d0 := heap_alloc_new w (.cells #[.int .i64 0, .int .u32 0] 31)
  obtain ⟨b0, b1⟩ := row2_cells d0
  go_enter Try.func10, Try.ntmps10
  go_wp2
  exact bodyPost_ret (v := .agg #[.int .i64 0, .int .u32 0]) (by simp [results, Try.results10, go_sem, b0, b1]) rfl ⟨⟨0, 0, rfl⟩, hb0⟩
theorem pick_is (x : Int) (n : Nat) (h1 : 1 ≤ n) (h2 : n ≤ 60) : ∃ K : Nat, (wrap64 (x.tmod n + n)).tmod n = (K : Int) ∧ K < n := by
  have a1 := Int.tmod_lt_of_pos x (show (0 : Int) < n by omega)
  have a2 := Int.lt_tmod_of_pos x (show (0 : Int) < n by omega)
  generalize x.tmod n = t at *
  have e : wrap64 (t + n) = t + n := by unfold wrap64; omega
  rw [e, Int.tmod_eq_emod_of_nonneg (by omega)]
  obtain ⟨K, hK⟩ := Int.eq_ofNat_of_zero_le (Int.emod_nonneg (t + n) (show (n : Int) ≠ 0 by omega))
  exact ⟨K, hK, by have := Int.emod_lt_of_pos (t + n) (show (0 : Int) < n by omega); omega⟩
set_option maxHeartbeats 400000 in
theorem some_any (q n c : Nat) (l : List Slo) (x : Int) (w : World) (hx : -9223372036854775808 ≤ x ∧ x ≤ 9223372036854775807) (hlen : l.length = n) (h1 : 1 ≤ n) (h2 : n ≤ 60) (hr : Rd w (some ⟨q, 0, none⟩) (rowH l)) :
    Calls Try.prog 10 #[.slice (some ⟨q, 0, none⟩) n c, .int .i64 x] w fun e w' => (∃ i g : Int, e = .returned (.agg #[.int .i64 i, .int .u32 g])) ∧ Below w.heap.size w w' := by
  have hb0 := (Below.refl w.heap.size w).alloc (Nat.le_refl _) (.cells #[.int .i64 0, .int .u32 0] 31)
  have d0 := heap_alloc_new w (.cells #[.int .i64 0, .int .u32 0] 31)
  have hr0 := hr.below hb0
  have n0 : ((n : Int) == 0) = false := by simp; omega
  obtain ⟨K, hK, hKn⟩ := pick_is x n h1 h2
  have c0 := rd_at hr0 (rowH_slot l K (by omega))
  have c1 := rd_at hr0 (rowH_gen l K (by omega))
  obtain ⟨⟨x0, x1⟩, ⟨x2, x3⟩, x4⟩ := row2_store d0 (.int .i64 l[K].1) (.int .u32 l[K].2)
  obtain ⟨r0, r1⟩ := row2_cells x4
  obtain ⟨q0, q1⟩ := row2_cells (heap_alloc_new w (.cells #[.int .i64 l[K].1, .int .u32 l[K].2] 31))
  go_enter Try.func10, Try.ntmps10
  go_wp2
  exact bodyPost_ret (v := .agg #[.int .i64 l[K].1, .int .u32 l[K].2]) (by simp [results, Try.results10, go_sem, r0, r1, q0, q1]) rfl ⟨⟨_, _, rfl⟩, by first | exact (Below.refl _ w).alloc (Nat.le_refl _) _ | exact (hb0.setCell (p := ⟨w.heap.size, 0, none⟩) (Nat.le_refl _) _).setCell (p := ⟨w.heap.size, 1, none⟩) (Nat.le_refl _) _⟩
end Go.Proofs.Ytfmojphbjhedgaa
