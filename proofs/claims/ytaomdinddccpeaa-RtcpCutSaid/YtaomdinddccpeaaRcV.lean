/-
The contracts of rtcp's reference, with what they tell as it is needed.
-/
import Derived.Test.YtaomdinddccpeaaRcS
import Derived.Test.YtaomdinddccpeaaItsFrame
namespace Go.Proofs.Ytaomdinddccpeaa
set_option linter.unusedVariables false
set_option linter.unusedSimpArgs false
open Go Go.RowKit

theorem rgetI_v (A : Option Addr) (n c : Nat) (l : List UInt8) (w : World) (h : Bts w A n c l) (is : List Itm) (Z : Int) (k : Nat) (hZ : Z = (getsE l : Nat)) (hl : getsL l = is) (hk : is.length = k) :
    Calls Try.prog 37 #[.slice A n c] w fun e w' => ∃ A cA xs, e = .returned (.tuple #[.slice A k cA, .int .i64 Z]) ∧ Hid (itm xs = is) ∧ Hid (ItsO w' w.heap.size A k cA xs) ∧ Below w.heap.size w w' := by
  refine (rgetI_any A n c l w h).mono ?_
  rintro e w' ⟨A, k', cA, xs, rfl, hi, ho, hb⟩
  rw [hl] at hi
  have : k' = k := by rw [← ho.len, ← itm_len, hi, hk]
  subst this
  exact ⟨A, cA, xs, by rw [hZ], hi, ho, hb⟩
theorem rputI_v (A : Option Addr) (n c : Nat) (xs : List Sl) (w : World) (h : Its w A n c xs) (hn : n ≤ 140737488351232) (l : List UInt8) (Z : Int) (m : Nat) (hZ : Z = (putsE (itm xs) : Nat)) (hl : putsL (itm xs) = l) (hm : l.length = m) :
    Calls Try.prog 31 #[.slice A n c] w fun e w' => ∃ B c', e = .returned (.tuple #[.slice B m c', .int .i64 Z]) ∧ w'.ownsRow w.heap.size 5 1 (.slice B m c') m (bys l) ∧ Below w.heap.size w w' := by
  refine (rputI_any A n c xs w h hn).mono ?_
  rintro e w' ⟨B, m', c', rfl, hm', ho, hb⟩
  rw [hl] at ho
  have : m' = m := by rw [hm', hl, hm]
  subst this
  exact ⟨B, c', by rw [hZ], ho, hb⟩
theorem rsizeI_v (A : Option Addr) (n c : Nat) (xs : List Sl) (w : World) (h : Its w A n c xs) (hn : n ≤ 140737488351232) (Z : Int) (hZ : Z = (sizG (itm xs) : Nat)) :
    Calls Try.prog 35 #[.slice A n c] w fun e w' => e = .returned (.int .i64 Z) ∧ Below w.heap.size w w' := by
  rw [hZ]
  exact rsizeI_any A n c xs w h hn
theorem puts_cases (l : List Itm) : putsE l = 0 ∨ putsE l = 1 ∨ (putsE l = 5 ∧ 512 < sizG l) := by
  unfold putsE
  split
  · exact .inr (.inl rfl)
  · split
    · rename_i h; exact .inr (.inr ⟨rfl, h⟩)
    · exact .inl rfl
end Go.Proofs.Ytaomdinddccpeaa
