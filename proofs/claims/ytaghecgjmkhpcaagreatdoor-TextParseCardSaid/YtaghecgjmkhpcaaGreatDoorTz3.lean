/-
The reference's words, digits, Dec (package sluicegateref30).
-/
import Derived.Test.YtaghecgjmkhpcaaGreatDoorTz2
namespace Go.Proofs.YtaghecgjmkhpcaaGreatDoor
set_option linter.unusedVariables false
set_option linter.unusedSimpArgs false
open Go Go.RowKit

theorem rmay_o (x : Sp) (w : World) (hr : SpR w x) (hT : LaidT w) : Calls Tryz.prog 7 #[spV x] w fun e w' => e = .returned (.bool (mayO x.o)) ∧ Below w.heap.size w w' := by
  obtain ⟨⟨k, p, s, y, nm, ss, bs⟩, A, an, ac, B, bn, bc⟩ := x
  have la := row_len4 hr.ra
  have lb := row_len1 hr.rb
  rw [may_parts]
  dsimp only at la lb
  rw [la, lb]
  exact rmay_v k p s y nm A an ac B bn bc w (by have := hr.nm; dsimp only at this; omega) hT
theorem dig_ext (d : Nat) (h : d < 10) : (⟨#[48, 49, 50, 51, 52, 53, 54, 55, 56, 57]⟩ : ByteArray).extract d (d + 1) = ⟨[UInt8.ofNat (48 + d)].toArray⟩ := by
  have : d = 0 ∨ d = 1 ∨ d = 2 ∨ d = 3 ∨ d = 4 ∨ d = 5 ∨ d = 6 ∨ d = 7 ∨ d = 8 ∨ d = 9 := by omega
  rcases this with rfl | rfl | rfl | rfl | rfl | rfl | rfl | rfl | rfl | rfl <;> rfl
set_option maxRecDepth 20000 in
theorem rdig_one (n : Nat) (w : World) (hn : n < 10) : Calls Tryz.prog 62 #[.int .u64 (n : Int)] w fun e w' => e = .returned (.string ⟨[UInt8.ofNat (48 + n % 10)].toArray⟩) ∧ w = w' := by
  have hd := dig_ext (n % 10) (by omega)
  go_enter Tryz.func62, Tryz.ntmps62
  go_wp2
  go_ret
  exact ⟨congrArg (fun b => Ending.returned (Value.string b)) hd, rfl⟩
set_option maxRecDepth 20000 in
theorem rdig_more (n : Nat) (pre : List UInt8) (w : World) (hn : 10 ≤ n ∧ n ≤ 999) (hrec : ∀ wz, Calls Tryz.prog 62 #[.int .u64 ((n : Int) / 10)] wz fun e w' => e = .returned (.string ⟨pre.toArray⟩) ∧ wz = w') (hpl : pre.length ≤ 2) :
    Calls Tryz.prog 62 #[.int .u64 (n : Int)] w fun e w' => e = .returned (.string ⟨(pre ++ [UInt8.ofNat (48 + n % 10)]).toArray⟩) ∧ w = w' := by
  have HR := Lib.hid hrec
  have hdx := dig_ext (n % 10) (by omega)
  obtain ⟨d, hd⟩ : ∃ d, UInt8.ofNat (48 + n % 10) = d := ⟨_, rfl⟩
  rw [hd] at hdx ⊢
  have hadd : ∀ wz : World, (Op.stringOp .add ⟨pre.toArray⟩ ((⟨#[48, 49, 50, 51, 52, 53, 54, 55, 56, 57]⟩ : ByteArray).extract (n % 10) (n % 10 + 1))).run Tryz.prog wz = .ok (.string ⟨(pre ++ [d]).toArray⟩) wz := fun wz => by
    rw [hdx]
    exact run_string_add_lists (P := Tryz.prog) wz pre [d] (by omega) (by simp)
  clear hrec hdx hd
  go_enter Tryz.func62, Tryz.ntmps62
  go_wp2_with (go_at_call 62; (with_reducible refine (HR.out _).mono ?_); rintro e w2 ⟨rfl, rfl⟩)
  go_ret
  exact ⟨rfl, rfl⟩
theorem rdigits_any (n : Nat) (w : World) (hn : n ≤ 999) : Calls Tryz.prog 62 #[.int .u64 (n : Int)] w fun e w' => e = .returned (.string ⟨(decL n).toArray⟩) ∧ w = w' := by
  by_cases h1 : n < 10
  · have e : decL n = [UInt8.ofNat (48 + n % 10)] := by
      rw [decL, if_pos h1, Nat.mod_eq_of_lt h1]
    rw [e]
    exact rdig_one n w h1
  · have e10 : (n : Int) / 10 = ((n / 10 : Nat) : Int) := by omega
    by_cases h2 : n < 100
    · have e : decL n = [UInt8.ofNat (48 + n / 10)] ++ [UInt8.ofNat (48 + n % 10)] := by
        rw [decL, if_neg h1, if_pos h2]
        rfl
      rw [e]
      refine rdig_more n _ w ⟨by omega, hn⟩ (fun wz => ?_) (by simp)
      rw [e10]
      have := rdig_one (n / 10) wz (by omega)
      rw [Nat.mod_eq_of_lt (show n / 10 < 10 by omega)] at this
      exact this
    · have e : decL n = [UInt8.ofNat (48 + n / 100), UInt8.ofNat (48 + n / 10 % 10)] ++ [UInt8.ofNat (48 + n % 10)] := by
        rw [decL, if_neg h1, if_neg h2]
        rfl
      rw [e]
      refine rdig_more n _ w ⟨by omega, hn⟩ (fun wz => ?_) (by simp)
      rw [e10]
      have e100 : ((n / 10 : Nat) : Int) / 10 = ((n / 100 : Nat) : Int) := by omega
      refine rdig_more (n / 10) [UInt8.ofNat (48 + n / 100)] wz ⟨by omega, by omega⟩ (fun wy => ?_) (by simp)
      rw [e100]
      have := rdig_one (n / 100) wy (by omega)
      rw [Nat.mod_eq_of_lt (show n / 100 < 10 by omega)] at this
      exact this
theorem rdec_any (n : Nat) (w : World) (hn : n ≤ 999) : Calls Tryz.prog 44 #[.int .i64 (n : Int)] w fun e w' => e = .returned (.string ⟨(decL n).toArray⟩) ∧ w = w' := by
  have HD := Lib.hid (fun wz => rdigits_any n wz hn)
  have hz : ¬ (n : Int) < 0 := by omega
  go_enter Tryz.func44, Tryz.ntmps44
  go_wp2_with (go_at_call 62; (with_reducible refine (HD.out _).mono ?_); rintro e w2 ⟨rfl, rfl⟩)
  go_ret
  exact ⟨rfl, rfl⟩
theorem rwords_o (w : World) : Calls Tryz.prog 43 #[] w fun e w' => ∃ g, e = .returned (.slice (some ⟨g, 0, none⟩) 13 13) ∧ w'.heap[g]? = some (.cells wordsV 9 (0, 0)) ∧ Below w.heap.size w w' := by
  go_enter Tryz.func43, Tryz.ntmps43
  go_wp2
  go_ret
  exact ⟨_, rfl, heap_alloc_new w _, (Below.refl _ w).alloc (Nat.le_refl _) _⟩
end Go.Proofs.YtaghecgjmkhpcaaGreatDoor
