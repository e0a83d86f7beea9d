/-
What the document's own GetDesc returns of any bytes.
-/
import Derived.Test.YtgmgjblekejgnaaDesc4
namespace Go.Proofs.Ytgmgjblekejgnaa
set_option linter.unusedVariables false
set_option linter.unusedSimpArgs false
open Go.RowKit

theorem byte_vals : ∀ k : Nat, k < 256 → IntKind.i64.wrap ((k : Int).tmod 4) = ((k % 4 : Nat) : Int) ∧ decide (128 ≤ (k : Int)) = decide (128 ≤ k) ∧ ((IntKind.u8.wrap ((k : Int) / 64)).tmod 2 == 1) = decide (k / 64 % 2 = 1) := by
  have h : (List.range 256).all (fun k => decide (IntKind.i64.wrap ((k : Int).tmod 4) = ((k % 4 : Nat) : Int) ∧ decide (128 ≤ (k : Int)) = decide (128 ≤ k) ∧ ((IntKind.u8.wrap ((k : Int) / 64)).tmod 2 == 1) = decide (k / 64 % 2 = 1))) = true := by kernel_rfl
  intro k hk
  exact of_decide_eq_true (List.all_eq_true.1 h k (List.mem_range.2 hk))
theorem desc0_of : ∀ k : Nat, k < 256 → (desc0 (k % 4) (decide (128 ≤ k)) (decide (k / 64 % 2 = 1)) == UInt8.ofNat k) = decide (k / 4 % 16 = 0) := by
  have h : (List.range 256).all (fun k => (desc0 (k % 4) (decide (128 ≤ k)) (decide (k / 64 % 2 = 1)) == UInt8.ofNat k) == decide (k / 4 % 16 = 0)) = true := by kernel_rfl
  intro k hk
  exact eq_of_beq (List.all_eq_true.1 h k (List.mem_range.2 hk))
theorem dOk_is (l : List UInt8) (h : 4 ≤ l.length) :
    (dP ((l[0].toNat % 4 : Nat) : Int) (decide (128 ≤ l[0].toNat)) (decide (l[0].toNat / 64 % 2 = 1)) (256 * l[2].toNat + l[3].toNat) == l.take 4) = dOk l := by
  have i0 : l[0]?.getD 0 = l[0] := by rw [List.getElem?_eq_getElem (by omega)]; rfl
  have i1 : l[1]?.getD 0 = l[1] := by rw [List.getElem?_eq_getElem (by omega)]; rfl
  have hd := desc0_of l[0].toNat (UInt8.toNat_lt _)
  rw [UInt8.ofNat_toNat] at hd
  have hE : dOk l = decide (¬ (l[0].toNat / 4 % 16 ≠ 0 ∨ l[0].toNat % 4 = 3 ∨ l[1].toNat ≠ 90)) := by
    unfold dOk dE
    rw [if_neg (by omega), i0, i1]
    split <;> simp_all
  rw [hE, four_bytes l h]
  by_cases h3 : l[0].toNat % 4 = 3
  · have hm : mayD ((l[0].toNat % 4 : Nat) : Int) = false := by rw [h3]; rfl
    rw [dP_no hm]
    simp [h3]
  · have hm : mayD ((l[0].toNat % 4 : Nat) : Int) = true := by simp [mayD]; omega
    rw [dP_yes hm, Int.toNat_natCast]
    unfold descL
    rw [enc_two]
    have h1 : (90 : UInt8) = l[1] ↔ l[1].toNat = 90 := by
      rw [← UInt8.toNat_inj]; constructor <;> (intro h; simpa using h.symm)
    have hd2 : desc0 (l[0].toNat % 4) (decide (128 ≤ l[0].toNat)) (decide (l[0].toNat / 64 % 2 = 1)) = l[0] ↔ l[0].toNat / 4 % 16 = 0 := by
      constructor
      · intro he; rw [he] at hd; simpa using hd.symm
      · intro he; rw [he] at hd; simpa using hd
    rw [Bool.eq_iff_iff]
    simp [hd2, h1, h3]
theorem rdget_any (A : Option Addr) (n c : Nat) (l : List UInt8) (w : World) (hn : l.length = n) (hnc : n ≤ c) (hcm : c ≤ maxLen) (hr : Rd w A (bys l)) :
    Calls Try.prog 22 #[.slice A n c] w fun e w' => e = .returned (.tuple #[descV (dL l) (dK l) (dS l) (dF l), .int .i64 (dE l)]) ∧ Below w.heap.size w w' := by
  by_cases h : n < 4
  · have e : dE l = 2 := by unfold dE; rw [if_pos (by omega)]
    have eo : dOk l = false := by unfold dOk; rw [e]; rfl
    refine (rdget_short A n c w h).mono ?_
    rintro e w' ⟨rfl, hb⟩
    exact ⟨by simp [dL, dK, dS, dF, eo, e], hb⟩
  · have hlen : 4 ≤ l.length := by omega
    obtain ⟨ad, rfl, h0⟩ := RdB.at_ hr (k := 0) (by omega)
    obtain ⟨ad', hA, h2⟩ := RdB.at_ hr (k := 2) (by omega)
    injection hA with hA; subst hA
    obtain ⟨ad', hA, h3⟩ := RdB.at_ hr (k := 3) (by omega)
    injection hA with hA; subst hA
    rw [add_zero'] at h0
    have i0 : l[0]?.getD 0 = l[0] := by rw [List.getElem?_eq_getElem (by omega)]; rfl
    obtain ⟨b1, b2, b3⟩ := byte_vals l[0].toNat (UInt8.toNat_lt _)
    have g2 := UInt8.toNat_lt l[2]
    have g3 := UInt8.toNat_lt l[3]
    refine (rdget_long ad n c l l[0] 0 l[2] l[3] w hn hnc hcm hr h0 h2 h3 (by omega) _ _ _ (256 * l[2].toNat + l[3].toNat) b1 b2 b3 (by simp [IntKind.wrap, IntKind.bits, IntKind.signed]; omega) (by omega) (dOk l) (dOk_is l hlen)).mono ?_
    rintro e w' ⟨rfl, hb⟩
    refine ⟨?_, hb⟩
    have hv : dOk l = true → dE l = 0 := by unfold dOk; intro h; exact eq_of_beq h
    have hv1 : dOk l = false → dE l = 1 := by
      unfold dOk dE
      rw [if_neg (by omega)]
      split <;> simp
    cases ho : dOk l
    · rw [hv1 ho]; simp [dL, dK, dS, dF, ho]
    · rw [hv ho]; simp [dL, dK, dS, dF, ho, i0, getN_22 l hlen]
end Go.Proofs.Ytgmgjblekejgnaa
