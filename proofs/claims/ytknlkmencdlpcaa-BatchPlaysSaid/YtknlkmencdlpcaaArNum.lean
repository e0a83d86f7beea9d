/-
Plain lists of slots: a slot's generation and its references. No program is spoken of.
-/
import Derived.Test.YtknlkmencdlpcaaMem
namespace Go.Proofs.Ytknlkmencdlpcaa
set_option linter.unusedVariables false
set_option linter.unusedSimpArgs false

abbrev Slo := Nat × Nat
/-- The cells of a list of slots. -/
def rowS (S : List Slo) : List Value := S.flatMap fun s => [.int .u32 s.1, .int .i64 s.2]
theorem rowS_cons (s : Slo) (S : List Slo) : rowS (s :: S) = .int .u32 s.1 :: .int .i64 s.2 :: rowS S := rfl
theorem rowS_append (S T : List Slo) : rowS (S ++ T) = rowS S ++ rowS T := by simp [rowS]
theorem rowS_length (S : List Slo) : (rowS S).length = S.length * 2 := by
  induction S with
  | nil => rfl
  | cons s S ih => rw [rowS_cons]; simp [ih]; omega
theorem rowS_one (S : List Slo) : ∀ u ∈ rowS S, u.oneCell' = true := by
  intro u hu
  simp only [rowS, List.mem_flatMap] at hu
  obtain ⟨s, _, hs⟩ := hu
  simp at hs
  rcases hs with rfl | rfl <;> rfl
theorem rowS_gen (S : List Slo) (i : Nat) (h : i < S.length) : (rowS S)[i * 2]? = some (.int .u32 S[i].1) := by
  induction S generalizing i with
  | nil => simp at h
  | cons s S ih =>
    cases i with
    | zero => rfl
    | succ i => rw [rowS_cons, show (i + 1) * 2 = i * 2 + 1 + 1 by omega]; simpa using ih i (by simpa using h)
theorem rowS_ref (S : List Slo) (i : Nat) (h : i < S.length) : (rowS S)[i * 2 + 1]? = some (.int .i64 S[i].2) := by
  induction S generalizing i with
  | nil => simp at h
  | cons s S ih =>
    cases i with
    | zero => rfl
    | succ i => rw [rowS_cons, show (i + 1) * 2 + 1 = i * 2 + 1 + 1 + 1 by omega]; simpa using ih i (by simpa using h)
theorem rowS_set_ref (S : List Slo) (i r : Nat) (h : i < S.length) : (rowS S).set (i * 2 + 1) (.int .i64 r) = rowS (S.set i (S[i].1, r)) := by
  induction S generalizing i with
  | nil => simp at h
  | cons s S ih =>
    cases i with
    | zero => rfl
    | succ i =>
      have h' : i < S.length := by simpa using h
      rw [rowS_cons, show (i + 1) * 2 + 1 = i * 2 + 1 + 1 + 1 by omega]
      simp only [List.set_cons_succ, List.getElem_cons_succ, rowS_cons]
      rw [ih i h']
theorem rowS_set_gen (S : List Slo) (i g : Nat) (h : i < S.length) : (rowS S).set (i * 2) (.int .u32 g) = rowS (S.set i (g, S[i].2)) := by
  induction S generalizing i with
  | nil => simp at h
  | cons s S ih =>
    cases i with
    | zero => rfl
    | succ i =>
      have h' : i < S.length := by simpa using h
      rw [rowS_cons, show (i + 1) * 2 = i * 2 + 1 + 1 by omega]
      simp only [List.set_cons_succ, List.getElem_cons_succ, rowS_cons]
      rw [ih i h']
theorem rowS_take (S : List Slo) (k : Nat) : (rowS S).take (k * 2) = rowS (S.take k) := by
  induction S generalizing k with
  | nil => simp [rowS]
  | cons s S ih =>
    cases k with
    | zero => simp [rowS]
    | succ k => rw [rowS_cons, show (k + 1) * 2 = k * 2 + 1 + 1 by omega]; simp only [List.take_succ_cons, rowS_cons, ih]

/-- Is a handle that of a slot that is taken? -/
def liveS (S : List Slo) (i g : Int) : Bool := decide (0 ≤ i) && (decide (i < S.length) && (decide (0 < (S.getD i.toNat (0, 0)).2) && decide (((S.getD i.toNat (0, 0)).1 : Int) = g)))
theorem liveS_yes {S : List Slo} {i g : Int} (h : liveS S i g = true) : ∃ k : Nat, ∃ hk : k < S.length, i = k ∧ 0 < S[k].2 ∧ g = S[k].1 := by
  simp only [liveS, Bool.and_eq_true, decide_eq_true_eq] at h
  obtain ⟨h1, h2, h3, h4⟩ := h
  obtain ⟨k, rfl⟩ := Int.eq_ofNat_of_zero_le h1
  have hk : k < S.length := by omega
  simp only [Int.toNat_natCast, List.getD_eq_getElem?_getD, List.getElem?_eq_getElem hk, Option.getD_some] at h3 h4
  exact ⟨k, hk, rfl, h3, h4.symm⟩
theorem liveS_no {S : List Slo} {i g : Int} (h : liveS S i g = false) : i < 0 ∨ (S.length : Int) ≤ i ∨ ∃ k : Nat, ∃ hk : k < S.length, i = k ∧ (S[k].2 = 0 ∨ (0 < S[k].2 ∧ ¬ (S[k].1 : Int) = g)) := by
  by_cases h1 : i < 0
  · exact .inl h1
  by_cases h2 : (S.length : Int) ≤ i
  · exact .inr (.inl h2)
  obtain ⟨k, rfl⟩ := Int.eq_ofNat_of_zero_le (show 0 ≤ i by omega)
  have hk : k < S.length := by omega
  refine .inr (.inr ⟨k, hk, rfl, ?_⟩)
  by_cases h3 : S[k].2 = 0
  · exact .inl h3
  refine .inr ⟨by omega, fun h4 => ?_⟩
  simp [liveS, List.getElem?_eq_getElem hk] at h
  exact h (by omega) (by omega) h4
theorem liveS_of {S : List Slo} {k : Nat} (hk : k < S.length) (h : 0 < S[k].2) : liveS S k S[k].1 = true := by
  simp [liveS, List.getElem?_eq_getElem hk, h, hk]
/-- The free slot with the least number. -/
def freeIx (S : List Slo) : Option Nat := S.findIdx? fun s => s.2 == 0
def takeS (S : List Slo) : List Slo := match freeIx S with | some k => S.set k ((S.getD k (0, 0)).1, 1) | none => S
def takeSlot (S : List Slo) : Nat := (freeIx S).getD 0
def takeGen (S : List Slo) : Nat := match freeIx S with | some k => (S.getD k (0, 0)).1 | none => 0
def takeErr (S : List Slo) : Nat := if (freeIx S).isSome then 0 else 6
def keepS (S : List Slo) (i g : Int) : List Slo := if liveS S i g then S.set i.toNat ((S.getD i.toNat (0, 0)).1, (S.getD i.toNat (0, 0)).2 + 1) else S
def dropS (S : List Slo) (i g : Int) : List Slo :=
  if liveS S i g then
    (if (S.getD i.toNat (0, 0)).2 = 1 then S.set i.toNat (((S.getD i.toNat (0, 0)).1 + 1) % 4294967296, 0) else S.set i.toNat ((S.getD i.toNat (0, 0)).1, (S.getD i.toNat (0, 0)).2 - 1))
  else S
def refsS (S : List Slo) (i g : Int) : Nat := if liveS S i g then (S.getD i.toNat (0, 0)).2 else 0
def freeS (S : List Slo) : Nat := (S.filter fun s => s.2 == 0).length
def staleS (S : List Slo) (i g : Int) : Nat := if liveS S i g then 0 else 7
theorem keepS_yes {S : List Slo} {k : Nat} (hk : k < S.length) {g : Int} (hv : liveS S k g = true) : keepS S k g = S.set k (S[k].1, S[k].2 + 1) := by
  unfold keepS; rw [if_pos hv]; simp [List.getElem?_eq_getElem hk]
theorem keepS_no {S : List Slo} {i g : Int} (hv : liveS S i g = false) : keepS S i g = S := by unfold keepS; rw [if_neg (by simp [hv])]
theorem dropS_no {S : List Slo} {i g : Int} (hv : liveS S i g = false) : dropS S i g = S := by unfold dropS; rw [if_neg (by simp [hv])]
theorem dropS_last {S : List Slo} {k : Nat} (hk : k < S.length) {g : Int} (hv : liveS S k g = true) (h : S[k].2 = 1) : dropS S k g = S.set k ((S[k].1 + 1) % 4294967296, 0) := by
  unfold dropS; rw [if_pos hv]; simp [List.getElem?_eq_getElem hk, h]
theorem dropS_more {S : List Slo} {k : Nat} (hk : k < S.length) {g : Int} (hv : liveS S k g = true) (h : ¬ S[k].2 = 1) : dropS S k g = S.set k (S[k].1, S[k].2 - 1) := by
  unfold dropS; rw [if_pos hv]; simp [List.getElem?_eq_getElem hk, h]
theorem refsS_yes {S : List Slo} {k : Nat} (hk : k < S.length) {g : Int} (hv : liveS S k g = true) : refsS S k g = S[k].2 := by
  unfold refsS; rw [if_pos hv]; simp [List.getElem?_eq_getElem hk]
theorem refsS_no {S : List Slo} {i g : Int} (hv : liveS S i g = false) : refsS S i g = 0 := by unfold refsS; rw [if_neg (by simp [hv])]
theorem staleS_yes {S : List Slo} {i g : Int} (hv : liveS S i g = true) : staleS S i g = 0 := by unfold staleS; rw [if_pos hv]
theorem staleS_no {S : List Slo} {i g : Int} (hv : liveS S i g = false) : staleS S i g = 7 := by unfold staleS; rw [if_neg (by simp [hv])]
theorem freeS_succ (S : List Slo) (k : Nat) (hk : k < S.length) : freeS (S.take (k + 1)) = freeS (S.take k) + (if S[k].2 = 0 then 1 else 0) := by
  unfold freeS
  rw [List.take_succ_eq_append_getElem hk, List.filter_append, List.length_append]
  by_cases h : S[k].2 = 0 <;> simp [h]
theorem freeS_le (S : List Slo) : freeS S ≤ S.length := List.length_filter_le _ _
theorem freeIx_at {S : List Slo} {k : Nat} (hk : k < S.length) (h0 : S[k].2 = 0) (hlt : ∀ j, (hj : j < k) → S[j].2 ≠ 0) : freeIx S = some k := by
  unfold freeIx
  rw [List.findIdx?_eq_some_iff_getElem]
  exact ⟨hk, by simp [h0], fun j hj => by simp [hlt j hj]⟩
theorem freeIx_none {S : List Slo} (h : ∀ j, (hj : j < S.length) → S[j].2 ≠ 0) : freeIx S = none := by
  unfold freeIx
  rw [List.findIdx?_eq_none_iff]
  intro s hs
  obtain ⟨j, hj, rfl⟩ := List.getElem_of_mem hs
  simp [h j hj]
theorem takeS_at {S : List Slo} {k : Nat} (hk : k < S.length) (h : freeIx S = some k) : takeS S = S.set k (S[k].1, 1) ∧ takeSlot S = k ∧ takeGen S = S[k].1 ∧ takeErr S = 0 := by
  simp [takeS, takeSlot, takeGen, takeErr, h, List.getElem?_eq_getElem hk]
theorem takeS_none {S : List Slo} (h : freeIx S = none) : takeS S = S ∧ takeSlot S = 0 ∧ takeGen S = 0 ∧ takeErr S = 6 := by
  simp [takeS, takeSlot, takeGen, takeErr, h]
end Go.Proofs.Ytknlkmencdlpcaa
