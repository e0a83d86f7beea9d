/-
The walks of slices.Repeat at slots and of New.
-/
import Derived.Test.YtfmojphbjhedgaaAr5
import Derived.Test.YtfmojphbjhedgaaCpyS
namespace Go.Proofs.Ytfmojphbjhedgaa
set_option linter.unusedVariables false
set_option linter.unusedSimpArgs false
open Go.RowKit

theorem mask32 (k : Nat) (hk : k ≤ 1024) : bits .and .u64 (k : Int) 4294967295 = k := by
  rw [show (4294967295 : Int) = ((4294967295 : Nat) : Int) from rfl, u64_and_nat k _ (by omega) (by omega)]
  have := Nat.and_two_pow_sub_one_eq_mod k 32
  simp only [Nat.reducePow, Nat.reduceSub] at this
  rw [this]
  omega
theorem wrap_u64 (k : Int) (h0 : 0 ≤ k) (h1 : k ≤ 1024) : IntKind.u64.wrap k = k := by
  simp [IntKind.wrap, IntKind.signed, IntKind.bits]
  omega
set_option maxHeartbeats 400000 in
theorem mul64_one (k : Nat) (w : World) (hk : k ≤ 1024) : Calls Try.prog 29 #[.int .u64 1, .int .u64 k] w fun e w' => e = .returned (.tuple #[.int .u64 0, .int .u64 k]) ∧ w = w' := by
  have h1 := mask32 k hk
  have h2 : bits .and .u64 1 4294967295 = 1 := by decide
  have h3 : bits .and .u64 0 4294967295 = 0 := by decide
  have h4 : (k : Int) / 4294967296 = 0 := by omega
  have h5 := wrap_u64 k (by omega) (by omega)
  have h6 : IntKind.u64.wrap 0 = 0 := by decide
  go_enter Try.func29, Try.ntmps29
  go_wp2
  exact bodyPost_ret (v := .tuple #[.int .u64 0, .int .u64 k]) (by simp [results, Try.results29, go_sem, h1, h2, h3, h4, h5, h6]) rfl ⟨rfl, rfl⟩
theorem mul_one' (k : Nat) (w : World) (hk : k ≤ 1024) : Calls Try.prog 27 #[.int .u64 1, .int .u64 k] w fun e w' => e = .returned (.tuple #[.int .u64 0, .int .u64 k]) ∧ w = w' := by
  go_enter Try.func27, Try.ntmps27
  go_wp2_with (go_at_call 29; (with_reducible refine (mul64_one k _ hk).mono ?_); rintro e w1 ⟨rfl, rfl⟩)
  exact bodyPost_ret (v := .tuple #[.int .u64 0, .int .u64 k]) (by simp [results, Try.results27, go_sem]) rfl ⟨rfl, rfl⟩
theorem rowS_made (m : Nat) : (madeCells (Value.agg #[.int .u32 0, .int .i64 0]).cells (m * 2)).toList = rowS (List.replicate m (0, 0)) := by
  have hz : (Value.agg #[.int .u32 0, .int .i64 0]).cells = #[.int .u32 0, .int .i64 0] := by simp [Value.cells]
  rw [hz]
  apply List.ext_getElem?
  intro j
  by_cases hj : j < m * 2
  · have e : j = j / 2 * 2 ∨ j = j / 2 * 2 + 1 := by omega
    have hk : j / 2 < m := by omega
    rcases e with e | e
    · rw [e, rowS_gen _ _ (by simpa using hk)]
      simp [madeCells, show j / 2 * 2 < m * 2 by omega]
    · rw [e, rowS_ref _ _ (by simpa using hk)]
      have : (j / 2 * 2 + 1) % 2 = 1 := by omega
      simp [madeCells, show j / 2 * 2 + 1 < m * 2 by omega, this]
  · rw [List.getElem?_eq_none (by simp [madeCells]; omega), List.getElem?_eq_none (by rw [rowS_length]; simp; omega)]
/-- So many slots that are new, and behind them zeros. -/
def partly (j m : Nat) : List Slo := List.replicate j (1, 0) ++ List.replicate (m - j) (0, 0)
theorem rowS_drop (S : List Slo) (k : Nat) : (rowS S).drop (k * 2) = rowS (S.drop k) := by
  induction S generalizing k with
  | nil => simp [rowS]
  | cons s S ih =>
    cases k with
    | zero => simp
    | succ k => rw [rowS_cons, show (k + 1) * 2 = k * 2 + 1 + 1 by omega]; simp only [List.drop_succ_cons, ih]
theorem rowS_splice (T U : List Slo) (j : Nat) : (rowS T).take (j * 2) ++ rowS U ++ (rowS T).drop (j * 2 + (rowS U).length) = rowS (T.take j ++ U ++ T.drop (j + U.length)) := by
  rw [rowS_length, ← Nat.add_mul, rowS_take, rowS_drop, rowS_append, rowS_append]
theorem partly_more (j k m : Nat) (h : j + k ≤ m) : (partly j m).take j ++ List.replicate k (1, 0) ++ (partly j m).drop (j + (List.replicate k ((1, 0) : Slo)).length) = partly (j + k) m := by
  unfold partly
  rw [List.take_left' (by simp), List.drop_append, List.length_replicate, List.length_replicate, List.drop_of_length_le (by simp), List.nil_append, List.drop_replicate, List.replicate_append_replicate]
  congr 2
  omega
theorem partly_take (j k m : Nat) (h : k ≤ j) : (partly j m).take k = List.replicate k (1, 0) := by
  unfold partly
  rw [List.take_append_of_le_length (by simp; omega), List.take_replicate, Nat.min_eq_left h]
set_option maxHeartbeats 800000 in
theorem repeat_any (X : Addr) (m : Nat) (w : World) (h1 : 1 ≤ m) (h2 : m ≤ 1024) (hr : Rd w (some X) (rowS [(1, 0)])) :
    Calls Try.prog 23 #[.slice (some X) 1 1, .int .i64 m] w fun e w' => ∃ g, e = .returned (.slice (some ⟨g, 0, none⟩) m m) ∧
      w'.ownsRow w.heap.size 53 2 (.slice (some ⟨g, 0, none⟩) m m) m (rowS (List.replicate m (1, 0))) ∧ Below w.heap.size w w' := by
  obtain ⟨C, hC, hmk⟩ : ∃ C : Array Value, C.toList = rowS (List.replicate m (0, 0)) ∧ ∀ w : World, (Instr.makeSlice 42 (.int .i64 (m : Int)) (.int .i64 (m : Int))).run Try.prog w = .ok (.slice (some ⟨w.heap.size, 0, none⟩) m m) (w.alloc (.cells C 53)) :=
    ⟨_, rowS_made m, run_mks slS m (by omega) .i64 .i64⟩
  have ho0 := World.ownsRow_lit (base := w.heap.size) (e := 53) (size := 2) w C m (Nat.le_refl _) (by unfold maxLen; omega) (by rw [← Array.length_toList, hC, rowS_length]; simp)
  rw [hC] at ho0
  have hrd : Rd (w.alloc (.cells C 53)) (some X) (rowS [(1, 0)]) := hr.below ((Below.refl _ _).alloc (Nat.le_refl _) _)
  have hb0 := (Below.refl w.heap.size w).alloc (Nat.le_refl _) (.cells C 53)
  have n1 : ¬ (m : Int) < 0 := by omega
  have n2 : (m : Int) % 18446744073709551616 = m := by omega
  have n3 : decide ((9223372036854775807 : Int) < (m : Int)) = false := by simp; omega
  obtain ⟨w2, hcp, ho2, hg2, HZ2⟩ := run_cpys slS (w.alloc (.cells C 53)) 3 w.heap.size w.heap.size m m (rowS (List.replicate m (0, 0))) ho0 0 m m (by omega) X 1 1 (rowS [(1, 0)]) (by rw [rowS_length, Nat.min_eq_left h1]; rfl) hrd (rowS_one _)
  rw [Nat.zero_mul, Nat.min_eq_left h1] at hcp
  clear hr hC
  go_enter Try.func23, Try.ntmps23
  go_wp2_with (go_at_call 27; (with_reducible refine (mul_one' m _ h2).mono ?_); rintro e w1 ⟨rfl, rfl⟩)
  rw [rowS_splice] at ho2
  have e2 : (List.replicate m ((0, 0) : Slo)).take 0 ++ [(1, 0)] ++ (List.replicate m ((0, 0) : Slo)).drop (0 + [((1, 0) : Slo)].length) = partly 1 m := by
    simp [partly, List.drop_replicate]
  rw [e2] at ho2
  have hb2 : Below w.heap.size w w2 := hb0.grown hg2 (by simp) (by simp)
  clear e2 hrd ho0 HZ2 hcp
  go_loopw [8] (fun t wr => ∃ j : Nat, t = .int .i64 j ∧ 1 ≤ j ∧ j ≤ m ∧ wr.ownsRow w.heap.size 53 2 (.slice (some ⟨w.heap.size, 0, none⟩) m m) m (rowS (partly j m)) ∧ Below w.heap.size w wr) (fun t _ => m - (intOf t).toNat)
  case atStart => exact ⟨1, rfl, Nat.le_refl _, h1, ho2, hb2⟩
  case round =>
    obtain ⟨j, rfl, hj1, hjm, hown, hbr⟩ := hrel
    by_cases hlt : j < m
    · have hne : ¬ m = j := by omega
      have hne' : ¬ j = m := by omega
      have hmin : min j (m - j) ≤ j := by omega
      go_wp2
      obtain ⟨w3, hcp, ho3, hg3, HZ3⟩ := run_cpys slS wr.drew 3 w.heap.size w.heap.size m m (rowS (partly j m)) hown j (m - j) (m - j) (by omega) ⟨w.heap.size, 0, none⟩ j m (rowS (List.replicate (min j (m - j)) (1, 0))) (by rw [rowS_length, List.length_replicate]) (by rw [← partly_take j _ m hmin, ← rowS_take]; exact (rd_row hown).take _) (rowS_one _)
      have e1 : (1 : Int) ≤ (min j (m - j) : Nat) := by omega
      obtain ⟨x, hx⟩ : ∃ x, x = min j (m - j) := ⟨_, rfl⟩
      rw [← hx] at hcp
      have HX := Lib.hid hx
      rw [rowS_splice, ← hx, partly_more j x m (by omega)] at ho3
      have hx1 : 1 ≤ x := by omega
      have hx2 : x ≤ m - j := by omega
      clear hx e1
      refine region_plan (calmB_sound _) (.leaf [0, 1, 2, 3, 4, 5, 6, 7, 8, 9]) (by kernel_rfl) (by kernel_rfl) (by kernel_rfl) ?_
      refine wpPlan_leaf fun K hK => ?_
      simp only [List.filterMap_cons, List.filterMap_nil, List.getElem?_toArray, List.getElem?_cons_succ, List.getElem?_cons_zero]
      go_wp2
      refine ⟨⟨j + x, rfl, by omega, by omega, ho3, ?_⟩, by simp [intOf]; omega⟩
      exact hbr.drew.grown hg3 hbr.size (by simp)
    · go_wp2
      go_ret
      obtain rfl : j = m := by omega
      exact ⟨_, rfl, by simpa [partly] using hown, hbr⟩
end Go.Proofs.Ytfmojphbjhedgaa
