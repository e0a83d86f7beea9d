/-
What MayPacket and Size of package sluicegateref4 tell.
-/
import Derived.Test.YtnkclbaeamcplaaRtp4
namespace Go.Proofs.Ytnkclbaeamcplaa
set_option linter.unusedVariables false
set_option linter.unusedSimpArgs false
open Go Go.RowKit

theorem mayP_iff (p : Pkt) (cn en : Nat) (hc : p.cs.length = cn) (he : p.ex.length = en) :
    mayP p = true ↔ (0 ≤ p.ty ∧ p.ty ≤ 127) ∧ ¬(p.mr = true ∧ 64 ≤ p.ty ∧ p.ty ≤ 95) ∧ cn ≤ 15 ∧ en % 4 = 0 ∧ (p.hx = true ∨ (en = 0 ∧ p.pf = 0)) ∧ 0 ≤ p.pad ∧ p.pad ≤ 255 := by
  subst hc he
  unfold mayP fbB
  simp only [Bool.and_eq_true, decide_eq_true_eq, Bool.not_eq_true', decide_eq_false_iff_not, List.length_eq_zero_iff]
  have hs : (0 ≤ p.ty ∧ p.ty ≤ 127) → ((¬(192 ≤ secN p ∧ secN p ≤ 223)) ↔ ¬(p.mr = true ∧ 64 ≤ p.ty ∧ p.ty ≤ 95)) := by
    intro h
    unfold secN
    cases p.mr
    · simp; omega
    · simp; omega
  constructor
  · rintro ⟨h1, h2, ⟨h3, h4, h5⟩, h6, h7⟩
    exact ⟨h1, (hs h1).1 h2, h3, h6, h7, h4, h5⟩
  · rintro ⟨h1, h2, h3, h6, h7, h4, h5⟩
    exact ⟨h1, (hs h1).2 h2, ⟨h3, h4, h5⟩, h6, h7⟩
section
variable (p : Pkt) (C : Option Addr) (cn cc : Nat) (E : Option Addr) (en ec : Nat) (L : Option Addr) (ln lc : Nat) (w : World)
set_option maxRecDepth 20000 in
set_option maxHeartbeats 4000000 in
theorem rmayP_any (hc : p.cs.length = cn) (he : p.ex.length = en) (hen : en ≤ 140737488351232) :
    Calls Try.prog 27 #[.agg #[.bool p.mr, .int .i64 p.ty, .int .u16 p.sq, .int .u32 p.tm, .int .u32 p.ss, .slice C cn cc, .bool p.hx, .int .u16 p.pf, .slice E en ec, .slice L ln lc, .int .i64 p.pad]] w fun e w' =>
      e = .returned (.bool (mayP p)) ∧ Below w.heap.size w w' := by
  have HM := mayP_iff p cn en hc he
  clear hc he
  generalize mayP p = b at *
  replace HM := Lib.hid HM
  obtain ⟨mr, ty, sq, tm, ss, cs, hx, pf, ex, pl, pad⟩ := p
  simp only at HM ⊢
  cases mr <;> cases hx
  all_goals
    have HMM := HM
    clear HM
    go_enter Try.func27, Try.ntmps27
    go_wp2
    all_goals
      go_ret
      refine ⟨congrArg Ending.returned (congrArg Value.bool ?_), (Below.refl _ _).alloc (Nat.le_refl _) _⟩
      have HMI := HMM.out
      rw [Bool.eq_iff_iff, HMI]
      go_tidy
      simp_all
      try omega
end
end Go.Proofs.Ytnkclbaeamcplaa
