/-
What May and Size of package rtp tell.
-/
import Derived.Test.YtnkclbaeamcplaaRtp1
namespace Go.Proofs.Ytnkclbaeamcplaa
set_option linter.unusedVariables false
set_option linter.unusedSimpArgs false
open Go Go.RowKit

section
variable (p : Pkt) (C : Option Addr) (cn cc : Nat) (E : Option Addr) (en ec : Nat) (L : Option Addr) (ln lc : Nat) (w : World)
set_option maxRecDepth 20000 in
set_option maxHeartbeats 4000000 in
theorem pmay_any (hc : p.cs.length = cn) (he : p.ex.length = en) :
    Calls Try.prog 26 #[.agg #[.bool p.mr, .int .i64 p.ty, .int .u16 p.sq, .int .u32 p.tm, .int .u32 p.ss, .slice C cn cc, .bool p.hx, .int .u16 p.pf, .slice E en ec, .slice L ln lc, .int .i64 p.pad]] w fun e w' =>
      e = .returned (.bool (mayP p)) ∧ Below w.heap.size w w' := by
  have HM : Hid (mayP p = (decide (0 ≤ p.ty ∧ p.ty ≤ 127) && (!fbB (secN p) && (decide (cn ≤ 15 ∧ 0 ≤ p.pad ∧ p.pad ≤ 255) && decide (en % 4 = 0 ∧ (p.hx = true ∨ (en = 0 ∧ p.pf = 0))))))) := by
    show _ = _
    unfold mayP; subst hc he; simp only [List.length_eq_zero_iff]
  clear hc he
  obtain ⟨mr, ty, sq, tm, ss, cs, hx, pf, ex, pl, pad⟩ := p
  simp only at HM ⊢
  rcases hfb : fbB (secN ⟨mr, ty, sq, tm, ss, cs, hx, pf, ex, pl, pad⟩) with _ | _ <;> cases hx
  all_goals
    have HM' : mayP ⟨mr, ty, sq, tm, ss, cs, _, pf, ex, pl, pad⟩ = _ := HM.out
    rw [hfb] at HM'
    have HMM := Lib.hid HM'
    clear HM HM'
    go_enter Try.func26, Try.ntmps26
    go_wp2_with (first
      | (go_at_call 46; (with_reducible refine (second_any ⟨mr, ty, sq, tm, ss, cs, _, pf, ex, pl, pad⟩ C cn cc E en ec L ln lc _).mono ?_); rintro e w1 ⟨rfl, hb1⟩; obtain ⟨x0, x1, x2, x3, x4, x5, x6, x7, x8, x9, x10⟩ := eleven_cells (blk_below (blk_alloc _ _) hb1); have hb2 := ((Below.refl w.heap.size w).alloc (Nat.le_refl _) _).trans (hb1.mono (by simp)))
      | (go_at_call 50; (with_reducible refine (fb_any _ _).mono ?_); rintro e w2 ⟨rfl, rfl⟩; rw [hfb]))
    all_goals
      go_ret
      refine ⟨congrArg Ending.returned (congrArg Value.bool ?_), (by first | exact hb2 | exact (Below.refl _ _).alloc (Nat.le_refl _) _)⟩
      rw [HMM.out]
      rw [Bool.eq_iff_iff]
      go_tidy
      simp_all
      try omega
end
end Go.Proofs.Ytnkclbaeamcplaa
