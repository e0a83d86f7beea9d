/-
What MayPacket and Size of package sluicegateref4 tell.
What Size of package sluicegateref4 tells.
-/
import Derived.Test.YtknlkmencdlpcaaRtp4
import Derived.Test.YtknlkmencdlpcaaRtpP
namespace Go.Proofs.Ytknlkmencdlpcaa
set_option linter.unusedVariables false
set_option linter.unusedSimpArgs false
open Go Go.RowKit

theorem mayP_iff (p : Pkt) (cn en : Nat) (hc : p.cs.length = cn) (he : p.ex.length = en) :
    mayP p = true ↔ (0 ≤ p.ty ∧ p.ty ≤ 127) ∧ ¬(p.mr = true ∧ 64 ≤ p.ty ∧ p.ty ≤ 95) ∧ cn ≤ 15 ∧ en % 4 = 0 ∧ (p.hx = true ∨ (en = 0 ∧ p.pf = 0)) ∧ 0 ≤ p.pad ∧ p.pad ≤ 255 := by
  subst hc he
  unfold mayP fbB
  simp only [Bool.and_eq_true, decide_eq_true_eq, Bool.not_eq_true', decide_eq_false_iff_not, List.length_eq_zero_iff]
  have hs : (0 ≤ p.ty ∧ p.ty ≤ 127) → ((¬(192 ≤ secN p ∧ secN p ≤ 223)) ↔ ¬(p.mr = true ∧ 64 ≤ p.ty ∧ p.ty ≤ 95)) := by
    intro h
    unfold secN
    cases p.mr
    · simp; omega
    · simp; omega
  constructor
  · rintro ⟨h1, h2, ⟨h3, h4, h5⟩, h6, h7⟩
    exact ⟨h1, (hs h1).1 h2, h3, h6, h7, h4, h5⟩
  · rintro ⟨h1, h2, h3, h6, h7, h4, h5⟩
    exact ⟨h1, (hs h1).2 h2, ⟨h3, h4, h5⟩, h6, h7⟩
section
variable (p : Pkt) (C : Option Addr) (cn cc : Nat) (E : Option Addr) (en ec : Nat) (L : Option Addr) (ln lc : Nat) (w : World)
set_option maxRecDepth 20000 in
set_option maxHeartbeats 4000000 in
theorem rmayP_any (hc : p.cs.length = cn) (he : p.ex.length = en) (hen : en ≤ 140737488351232) :
    Calls Try.prog 85 #[.agg #[.bool p.mr, .int .i64 p.ty, .int .u16 p.sq, .int .u32 p.tm, .int .u32 p.ss, .slice C cn cc, .bool p.hx, .int .u16 p.pf, .slice E en ec, .slice L ln lc, .int .i64 p.pad]] w fun e w' =>
      e = .returned (.bool (mayP p)) ∧ Below w.heap.size w w' := by
  have HM := mayP_iff p cn en hc he
  clear hc he
  generalize mayP p = b at *
  replace HM := Lib.hid HM
  obtain ⟨mr, ty, sq, tm, ss, cs, hx, pf, ex, pl, pad⟩ := p
  simp only at HM ⊢
  cases mr <;> cases hx
  all_goals
    have HMM := HM
    clear HM
    go_enter Try.func85, Try.ntmps85
    go_wp2
    all_goals
      go_ret
      refine ⟨congrArg Ending.returned (congrArg Value.bool ?_), (Below.refl _ _).alloc (Nat.le_refl _) _⟩
      have HMI := HMM.out
      rw [Bool.eq_iff_iff, HMI]
      go_tidy
      simp_all
      try omega
end
end Go.Proofs.Ytknlkmencdlpcaa

namespace Go.Proofs.Ytknlkmencdlpcaa
set_option linter.unusedVariables false
set_option linter.unusedSimpArgs false
open Go Go.RowKit

section
variable (p : Pkt) (C : Option Addr) (cn cc : Nat) (E : Option Addr) (en ec : Nat) (L : Option Addr) (ln lc : Nat) (w : World)
theorem rmayP_v (h : Bool) (hp : p.hx = h) (b : Bool) (hb : mayP p = b) (hc : p.cs.length = cn) (he : p.ex.length = en) (hen : en ≤ 140737488351232) :
    Calls Try.prog 85 #[.agg #[.bool p.mr, .int .i64 p.ty, .int .u16 p.sq, .int .u32 p.tm, .int .u32 p.ss, .slice C cn cc, .bool h, .int .u16 p.pf, .slice E en ec, .slice L ln lc, .int .i64 p.pad]] w fun e w' =>
      e = .returned (.bool b) ∧ Below w.heap.size w w' := by
  subst hb hp
  exact rmayP_any p C cn cc E en ec L ln lc w hc he hen
set_option maxRecDepth 20000 in
set_option maxHeartbeats 4000000 in
theorem rsizeP_h (h : Bool) (hp : p.hx = h) (hc : p.cs.length = cn) (he : p.ex.length = en) (hl : p.pl.length = ln) (b2 : en ≤ 140737488351232) (b3 : ln ≤ 140737488351232) :
    Calls Try.prog 86 #[.agg #[.bool p.mr, .int .i64 p.ty, .int .u16 p.sq, .int .u32 p.tm, .int .u32 p.ss, .slice C cn cc, .bool h, .int .u16 p.pf, .slice E en ec, .slice L ln lc, .int .i64 p.pad]] w fun e w' =>
      e = .returned (.int .i64 (sizeP p : Nat)) ∧ Below w.heap.size w w' := by
  have HC := Lib.hid (And.intro hc he)
  have HX := Lib.hid hp
  cases hm : mayP p
  · have hs : Hid (sizeP p = 0) := by show _ = _; unfold sizeP; rw [hm]; rfl
    have HM := Lib.hid hm
    clear hm hc he hl hp
    go_enter Try.func86, Try.ntmps86
    go_wp2_with (go_at_call 85; (with_reducible refine (rmayP_v p C cn cc E en ec L ln lc _ _ HX.out _ HM.out HC.out.1 HC.out.2 b2).mono ?_); rintro e w1 ⟨rfl, hb1⟩)
    go_ret
    exact ⟨by rw [hs.out]; rfl, ((Below.refl w.heap.size w).alloc (Nat.le_refl _) _).trans (hb1.mono (by simp))⟩
  · obtain ⟨_, _, c15, ⟨pad0, pad1⟩, _⟩ := mayP_parts hm
    have hcn : cn ≤ 15 := by omega
    have hs : Hid (sizeP p = headP p + ln + p.pad.toNat) := by show _ = _; unfold sizeP; rw [hm, hl]; rfl
    have hh : Hid (headP p = 12 + 4 * cn + (if h then 4 + en else 0)) := by show _ = _; unfold headP; rw [hc, he, hp]
    have HM := Lib.hid hm
    clear hm hc he hl c15 hp
    generalize sizeP p = S at *
    generalize headP p = H at *
    cases h
    all_goals
      have hh2 := hh
      have HX2 := HX
      clear hh HX
      go_enter Try.func86, Try.ntmps86
      go_wp2_with (go_at_call 85; (with_reducible refine (rmayP_v p C cn cc E en ec L ln lc _ _ HX2.out _ HM.out HC.out.1 HC.out.2 b2).mono ?_); rintro e w1 ⟨rfl, hb1⟩; have hb2 := ((Below.refl w.heap.size w).alloc (Nat.le_refl _) _).trans (hb1.mono (by simp)); have hit := blk_below (blk_alloc _ _) hb1; obtain ⟨x0, x1, x2, x3, x4, x5, x6, x7, x8, x9, x10⟩ := eleven_cells hit)
      go_ret
      refine ⟨congrArg Ending.returned (congrArg (Value.int .i64) ?_), hb2⟩
      rw [hs.out, hh2.out]
      simp
      omega
theorem rsizeP_any (hc : p.cs.length = cn) (he : p.ex.length = en) (hl : p.pl.length = ln) (b2 : en ≤ 140737488351232) (b3 : ln ≤ 140737488351232) :
    Calls Try.prog 86 #[.agg #[.bool p.mr, .int .i64 p.ty, .int .u16 p.sq, .int .u32 p.tm, .int .u32 p.ss, .slice C cn cc, .bool p.hx, .int .u16 p.pf, .slice E en ec, .slice L ln lc, .int .i64 p.pad]] w fun e w' =>
      e = .returned (.int .i64 (sizeP p : Nat)) ∧ Below w.heap.size w w' := rsizeP_h p C cn cc E en ec L ln lc w p.hx rfl hc he hl b2 b3
end
end Go.Proofs.Ytknlkmencdlpcaa
