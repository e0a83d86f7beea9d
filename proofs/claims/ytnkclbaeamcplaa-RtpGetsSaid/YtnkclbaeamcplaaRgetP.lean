/-
Padding of bytes, in plain words, byte by byte. No function of the program is spoken of.
-/
import Derived.Test.YtnkclbaeamcplaaRtpG
namespace Go.Proofs.Ytnkclbaeamcplaa
set_option linter.unusedVariables false
set_option linter.unusedSimpArgs false
open Go Go.RowKit

theorem look_fin {l : List UInt8} (h5 : l.length ≤ 512) (h12 : 12 ≤ l.length) (hv : byteN l 0 / 64 = 2) (hf : fbB (byteN l 1) = false) (hfn : frmA l ≤ l.length) :
    (padN l = none → lookE l = 1) ∧ (∀ k, padN l = some k → lookE l = 0 ∧ lookT l = l.length - k) := by
  have he : lookE l = if (padN l).isNone then 1 else 0 := by
    unfold lookE
    rw [if_neg (by omega), if_neg (by omega), if_neg (by omega), hf, if_neg (by simp), if_neg (by omega)]
  refine ⟨fun h => by rw [he, h]; rfl, fun k h => ?_⟩
  have h0 : lookE l = 0 := by rw [he, h]; rfl
  exact ⟨h0, by unfold lookT; rw [if_pos h0, h]; rfl⟩
theorem byteN_drop (l : List UInt8) (a k : Nat) : byteN (l.drop a) k = byteN l (a + k) := by unfold byteN; rw [List.getElem?_drop]
theorem pad_at {l : List UInt8} {fr q : Nat} (hfr : fr < l.length) (hq : byteN l (l.length - 1) = q) : padX (l.drop fr) = q := by
  unfold padX
  rw [byteN_drop, List.length_drop, show fr + (l.length - fr - 1) = l.length - 1 by omega, hq]
theorem padN_no {l : List UInt8} (hb : ¬ byteN l 0 / 32 % 2 = 1) : padN l = some 0 := by
  unfold padN padT; rw [if_pos (by omega)]
theorem padN_empty {l : List UInt8} (hb : byteN l 0 / 32 % 2 = 1) (hf : frmA l = l.length) : padN l = none := by
  unfold padN padT; rw [if_neg (by omega), if_pos (by rw [List.length_drop]; omega)]
theorem padN_bad {l : List UInt8} (hb : byteN l 0 / 32 % 2 = 1) (hf : frmA l < l.length) {q : Nat} (hq : byteN l (l.length - 1) = q) (h : q = 0 ∨ l.length - frmA l < q) : padN l = none := by
  unfold padN padT
  rw [if_neg (by omega), if_neg (by rw [List.length_drop]; omega), pad_at hf hq, if_pos (by rw [List.length_drop]; exact h)]
theorem zeros_all {l : List UInt8} {fr q : Nat} (hfr : fr < l.length) (hq : q ≤ l.length - fr) (hq1 : 1 ≤ q) :
    (((l.drop fr).drop ((l.drop fr).length - q)).take (q - 1)).all (fun y => y == 0) = true ↔ ∀ i, i < q - 1 → byteN l (l.length - q + i) = 0 := by
  rw [List.length_drop, List.drop_drop, show fr + (l.length - fr - q) = l.length - q by omega, List.all_eq_true]
  constructor
  · intro h i hi
    have hb : l.length - q + i < l.length := by omega
    have hm : l[l.length - q + i] ∈ (l.drop (l.length - q)).take (q - 1) := by
      refine List.mem_iff_getElem.2 ⟨i, by rw [List.length_take, List.length_drop]; omega, ?_⟩
      rw [List.getElem_take, List.getElem_drop]
    have := h _ hm
    unfold byteN
    rw [List.getElem?_eq_getElem hb, Option.getD_some]
    have h0 : l[l.length - q + i] = 0 := by simpa using this
    rw [h0]; rfl
  · intro h x hx
    obtain ⟨i, hi, rfl⟩ := List.mem_iff_getElem.1 hx
    rw [List.length_take, List.length_drop] at hi
    have := h i (by omega)
    unfold byteN at this
    rw [List.getElem?_eq_getElem (by omega), Option.getD_some] at this
    rw [List.getElem_take, List.getElem_drop]
    have h0 : l[l.length - q + i] = 0 := UInt8.toNat_inj.1 (by rw [this]; rfl)
    rw [h0]; rfl
theorem padN_zeros {l : List UInt8} (hb : byteN l 0 / 32 % 2 = 1) (hf : frmA l < l.length) {q : Nat} (hq : byteN l (l.length - 1) = q) (h1 : 1 ≤ q) (h2 : q ≤ l.length - frmA l) :
    ((∀ i, i < q - 1 → byteN l (l.length - q + i) = 0) → padN l = some q) ∧ ((∃ i, i < q - 1 ∧ byteN l (l.length - q + i) ≠ 0) → padN l = none) := by
  have hz := zeros_all hf h2 h1
  have e : padN l = if (((l.drop (frmA l)).drop ((l.drop (frmA l)).length - q)).take (q - 1)).all (fun y => y == 0) then some q else none := by
    unfold padN padT
    rw [if_neg (by omega), if_neg (by rw [List.length_drop]; omega), pad_at hf hq, if_neg (by rw [List.length_drop]; omega)]
  refine ⟨fun h => by rw [e, if_pos (hz.2 h)], fun ⟨i, hi, hne⟩ => ?_⟩
  rw [e, if_neg (fun ht => hne (hz.1 ht i hi))]
end Go.Proofs.Ytnkclbaeamcplaa
