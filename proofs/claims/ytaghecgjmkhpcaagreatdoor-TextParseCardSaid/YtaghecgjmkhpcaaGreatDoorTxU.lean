/-
UTF-8 in plain words: steps of the decoder, newlines, which names may be.
-/
import Derived.Test.YtaghecgjmkhpcaaGreatDoorTxN
import Derived.Lib.ValidLaws
namespace Go.Proofs.YtaghecgjmkhpcaaGreatDoor
set_option linter.unusedVariables false
set_option linter.unusedSimpArgs false
open Go

theorem decode_drop (l : List UInt8) (pos : Nat) : Utf8.decode ⟨l.toArray⟩ pos = Lib.decodeL (l.drop pos) := by
  rw [Lib.decode_N, Lib.decodeL_N]
  simp [List.getD_eq_getElem?_getD, List.getElem?_drop, List.length_drop]
theorem dec_high (l : List UInt8) (h : 128 ≤ (l.getD 0 0).toNat) : 128 ≤ (Lib.decodeL l).1 ∧ ∀ j, 1 ≤ j → j < (Lib.decodeL l).2 → 128 ≤ (l.getD j 0).toNat := by
  rw [Lib.decodeL_N]
  rcases Lib.decodeN_shape l.length (l.getD 0 0).toNat (l.getD 1 0).toNat (l.getD 2 0).toNat (l.getD 3 0).toNat with ⟨c, e⟩ | ⟨c1, c2, c3, cv, e⟩ | ⟨c1, c2, c3, c4, cv, cs, e⟩ | ⟨c1, c2, c3, c4, c5, cv, cs, e⟩ | e
  all_goals (rw [e]; dsimp only)
  · omega
  · refine ⟨cv, fun j h1 h2 => ?_⟩
    obtain rfl : j = 1 := by omega
    omega
  · refine ⟨by omega, fun j h1 h2 => ?_⟩
    obtain rfl | rfl : j = 1 ∨ j = 2 := by omega
    all_goals omega
  · refine ⟨by omega, fun j h1 h2 => ?_⟩
    obtain rfl | rfl | rfl : j = 1 ∨ j = 2 ∨ j = 3 := by omega
    all_goals omega
  · exact ⟨by omega, fun j h1 h2 => by omega⟩
theorem dec_width4 (l : List UInt8) : (Lib.decodeL l).2 ≤ 4 := by
  rw [Lib.decodeL_N]
  rcases Lib.decodeN_shape l.length (l.getD 0 0).toNat (l.getD 1 0).toNat (l.getD 2 0).toNat (l.getD 3 0).toNat with ⟨c, e⟩ | ⟨c1, c2, c3, cv, e⟩ | ⟨c1, c2, c3, c4, cv, cs, e⟩ | ⟨c1, c2, c3, c4, c5, cv, cs, e⟩ | e
  all_goals (rw [e]; dsimp only; omega)
/-- May a name's rune not be? -/
def badR (r : Nat) : Bool := decide (r < 33) || ((decide (127 ≤ r) && decide (r ≤ 159)) || r == 65533)
def labGo : Nat → List UInt8 → Nat → Bool
  | 0, _, n => decide (1 ≤ n ∧ n ≤ 8)
  | f + 1, l, n => if l = [] then decide (1 ≤ n ∧ n ≤ 8) else if badR (Lib.decodeL l).1 then false else labGo f (l.drop (Lib.decodeL l).2) (n + 1)
def labB (l : List UInt8) : Bool := labGo l.length l 0
theorem lab_bytes : ∀ (f : Nat) (l : List UInt8) (n : Nat), l.length ≤ f → labGo f l n = true → ∀ b ∈ l, 33 ≤ b.toNat
  | 0, l, n, hl, _ => by
    obtain rfl : l = [] := List.eq_nil_of_length_eq_zero (by omega)
    simp
  | f + 1, l, n, hl, h => by
    unfold labGo at h
    by_cases hne : l = []
    · subst hne
      simp
    · rw [if_neg hne] at h
      have hw := Lib.decodeL_width l
      have hp : 0 < l.length := List.length_pos_iff.2 hne
      by_cases hb : badR (Lib.decodeL l).1
      · rw [if_pos hb] at h
        cases h
      · rw [if_neg hb] at h
        have ih := lab_bytes f _ _ (by rw [List.length_drop]; omega) h
        intro b hbm
        rw [← List.take_append_drop (Lib.decodeL l).2 l, List.mem_append] at hbm
        rcases hbm with hbm | hbm
        · obtain ⟨j, hj, rfl⟩ := List.getElem_of_mem hbm
          rw [List.length_take] at hj
          rw [List.getElem_take]
          have hg : l[j]'(by omega) = l.getD j 0 := by rw [List.getD_eq_getElem?_getD, List.getElem?_eq_getElem (by omega)]; rfl
          rw [hg]
          by_cases h0 : (l.getD 0 0).toNat < 128
          · have e : Lib.decodeL l = ((l.getD 0 0).toNat, 1) := by
              rw [Lib.decodeL_N]
              simp only [Lib.decodeN, h0, if_true]
            rw [e] at hb hj
            obtain rfl : j = 0 := by omega
            generalize (l.getD 0 0).toNat = x at *
            unfold badR at hb
            simp at hb
            omega
          · have hh := dec_high l (by omega)
            rcases Nat.eq_zero_or_pos j with rfl | hj1
            · omega
            · have := hh.2 j hj1 (by omega)
              omega
        · exact ih b hbm
theorem lab_valid : ∀ (f : Nat) (l : List UInt8) (n : Nat), l.length ≤ f → labGo f l n = true → Lib.validD l = true
  | 0, l, n, hl, _ => by
    obtain rfl : l = [] := List.eq_nil_of_length_eq_zero (by omega)
    rfl
  | f + 1, l, n, hl, h => by
    unfold labGo at h
    by_cases hne : l = []
    · subst hne
      rfl
    · rw [if_neg hne] at h
      have hw := Lib.decodeL_width l
      have hp : 0 < l.length := List.length_pos_iff.2 hne
      by_cases hb : badR (Lib.decodeL l).1
      · rw [if_pos hb] at h
        cases h
      · rw [if_neg hb] at h
        rw [Lib.validD_step l hne, if_neg]
        · exact lab_valid f _ _ (by rw [List.length_drop]; omega) h
        · rintro ⟨e, _⟩
          rw [e] at hb
          exact hb rfl
theorem lab_len : ∀ (f : Nat) (l : List UInt8) (n : Nat), l.length ≤ f → labGo f l n = true → l.length + 4 * n ≤ 32 ∧ 1 ≤ n + l.length
  | 0, l, n, hl, h => by
    unfold labGo at h
    simp at h
    omega
  | f + 1, l, n, hl, h => by
    unfold labGo at h
    by_cases hne : l = []
    · subst hne
      simp at h
      simp
      omega
    · rw [if_neg hne] at h
      have hw := Lib.decodeL_width l
      have hw4 := dec_width4 l
      have hp : 0 < l.length := List.length_pos_iff.2 hne
      by_cases hb : badR (Lib.decodeL l).1
      · rw [if_pos hb] at h
        cases h
      · rw [if_neg hb] at h
        have ih := lab_len f _ _ (by rw [List.length_drop]; omega) h
        rw [List.length_drop] at ih
        omega
theorem labB_bytes {l : List UInt8} (h : labB l = true) : ∀ b ∈ l, 33 ≤ b.toNat := lab_bytes _ l 0 (Nat.le_refl _) h
theorem labB_valid {l : List UInt8} (h : labB l = true) : Lib.validD l = true := lab_valid _ l 0 (Nat.le_refl _) h
theorem labB_len {l : List UInt8} (h : labB l = true) : 1 ≤ l.length ∧ l.length ≤ 32 := by
  have := lab_len _ l 0 (Nat.le_refl _) h
  omega
/-- A rune is a newline where its first byte is one. -/
theorem dec_ten (l : List UInt8) (hne : l ≠ []) : ((Lib.decodeL l).1 = 10 ↔ l.getD 0 0 = 10) ∧ ∀ j, 1 ≤ j → j < (Lib.decodeL l).2 → l.getD j 0 ≠ 10 := by
  by_cases h0 : (l.getD 0 0).toNat < 128
  · have e : Lib.decodeL l = ((l.getD 0 0).toNat, 1) := by
      rw [Lib.decodeL_N]
      simp only [Lib.decodeN, h0, if_true]
    rw [e]
    refine ⟨⟨fun h => ?_, fun h => by rw [h]; rfl⟩, fun j h1 h2 => by dsimp only at h2; omega⟩
    exact UInt8.toNat.inj h
  · have hh := dec_high l (by omega)
    refine ⟨⟨fun h => by omega, fun h => by rw [h] at h0; exact absurd (by decide) h0⟩, fun j h1 h2 h => ?_⟩
    have := hh.2 j h1 h2
    rw [h] at this
    exact absurd this (by decide)
end Go.Proofs.YtaghecgjmkhpcaaGreatDoor
