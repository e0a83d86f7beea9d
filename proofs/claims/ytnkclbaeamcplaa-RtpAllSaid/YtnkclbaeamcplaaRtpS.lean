/-
What Size of package sluicegateref4 tells.
-/
import Derived.Test.YtnkclbaeamcplaaRtpR
import Derived.Test.YtnkclbaeamcplaaRtpQ
namespace Go.Proofs.Ytnkclbaeamcplaa
set_option linter.unusedVariables false
set_option linter.unusedSimpArgs false
open Go Go.RowKit

section
variable (p : Pkt) (C : Option Addr) (cn cc : Nat) (E : Option Addr) (en ec : Nat) (L : Option Addr) (ln lc : Nat) (w : World)
theorem rmayP_v (h : Bool) (hp : p.hx = h) (b : Bool) (hb : mayP p = b) (hc : p.cs.length = cn) (he : p.ex.length = en) (hen : en ≤ 140737488351232) :
    Calls Try.prog 27 #[.agg #[.bool p.mr, .int .i64 p.ty, .int .u16 p.sq, .int .u32 p.tm, .int .u32 p.ss, .slice C cn cc, .bool h, .int .u16 p.pf, .slice E en ec, .slice L ln lc, .int .i64 p.pad]] w fun e w' =>
      e = .returned (.bool b) ∧ Below w.heap.size w w' := by
  subst hb hp
  exact rmayP_any p C cn cc E en ec L ln lc w hc he hen
set_option maxRecDepth 20000 in
set_option maxHeartbeats 4000000 in
theorem rsizeP_h (h : Bool) (hp : p.hx = h) (hc : p.cs.length = cn) (he : p.ex.length = en) (hl : p.pl.length = ln) (b2 : en ≤ 140737488351232) (b3 : ln ≤ 140737488351232) :
    Calls Try.prog 29 #[.agg #[.bool p.mr, .int .i64 p.ty, .int .u16 p.sq, .int .u32 p.tm, .int .u32 p.ss, .slice C cn cc, .bool h, .int .u16 p.pf, .slice E en ec, .slice L ln lc, .int .i64 p.pad]] w fun e w' =>
      e = .returned (.int .i64 (sizeP p : Nat)) ∧ Below w.heap.size w w' := by
  have HC := Lib.hid (And.intro hc he)
  have HX := Lib.hid hp
  cases hm : mayP p
  · have hs : Hid (sizeP p = 0) := by show _ = _; unfold sizeP; rw [hm]; rfl
    have HM := Lib.hid hm
    clear hm hc he hl hp
    go_enter Try.func29, Try.ntmps29
    go_wp2_with (go_at_call 27; (with_reducible refine (rmayP_v p C cn cc E en ec L ln lc _ _ HX.out _ HM.out HC.out.1 HC.out.2 b2).mono ?_); rintro e w1 ⟨rfl, hb1⟩)
    go_ret
    exact ⟨by rw [hs.out]; rfl, ((Below.refl w.heap.size w).alloc (Nat.le_refl _) _).trans (hb1.mono (by simp))⟩
  · obtain ⟨_, _, c15, ⟨pad0, pad1⟩, _⟩ := mayP_parts hm
    have hcn : cn ≤ 15 := by omega
    have hs : Hid (sizeP p = headP p + ln + p.pad.toNat) := by show _ = _; unfold sizeP; rw [hm, hl]; rfl
    have hh : Hid (headP p = 12 + 4 * cn + (if h then 4 + en else 0)) := by show _ = _; unfold headP; rw [hc, he, hp]
    have HM := Lib.hid hm
    clear hm hc he hl c15 hp
    generalize sizeP p = S at *
    generalize headP p = H at *
    cases h
    all_goals
      have hh2 := hh
      have HX2 := HX
      clear hh HX
      go_enter Try.func29, Try.ntmps29
      go_wp2_with (go_at_call 27; (with_reducible refine (rmayP_v p C cn cc E en ec L ln lc _ _ HX2.out _ HM.out HC.out.1 HC.out.2 b2).mono ?_); rintro e w1 ⟨rfl, hb1⟩; have hb2 := ((Below.refl w.heap.size w).alloc (Nat.le_refl _) _).trans (hb1.mono (by simp)); have hit := blk_below (blk_alloc _ _) hb1; obtain ⟨x0, x1, x2, x3, x4, x5, x6, x7, x8, x9, x10⟩ := eleven_cells hit)
      go_ret
      refine ⟨congrArg Ending.returned (congrArg (Value.int .i64) ?_), hb2⟩
      rw [hs.out, hh2.out]
      simp
      omega
theorem rsizeP_any (hc : p.cs.length = cn) (he : p.ex.length = en) (hl : p.pl.length = ln) (b2 : en ≤ 140737488351232) (b3 : ln ≤ 140737488351232) :
    Calls Try.prog 29 #[.agg #[.bool p.mr, .int .i64 p.ty, .int .u16 p.sq, .int .u32 p.tm, .int .u32 p.ss, .slice C cn cc, .bool p.hx, .int .u16 p.pf, .slice E en ec, .slice L ln lc, .int .i64 p.pad]] w fun e w' =>
      e = .returned (.int .i64 (sizeP p : Nat)) ∧ Below w.heap.size w w' := rsizeP_h p C cn cc E en ec L ln lc w p.hx rfl hc he hl b2 b3
end
end Go.Proofs.Ytnkclbaeamcplaa
