/-
What the reference tells of packets in memory.
-/
import Derived.Test.YtaomdinddccpeaaPkt
import Derived.Test.YtaomdinddccpeaaRtpU
namespace Go.Proofs.Ytaomdinddccpeaa
set_option linter.unusedVariables false
set_option linter.unusedSimpArgs false
open Go Go.RowKit

section
variable (p : Pkt) (C : Option Addr) (cn cc : Nat) (E : Option Addr) (en ec : Nat) (L : Option Addr) (ln lc : Nat) (w : World)
theorem rmayP_row (b : Bool) (hb : mayP p = b) (h : PRow w p C cn cc E en ec L ln lc) (hen : en ≤ 140737488351232) :
    Calls Try.prog 46 #[.agg #[.bool p.mr, .int .i64 p.ty, .int .u16 p.sq, .int .u32 p.tm, .int .u32 p.ss, .slice C cn cc, .bool p.hx, .int .u16 p.pf, .slice E en ec, .slice L ln lc, .int .i64 p.pad]] w fun e w' => e = .returned (.bool b) ∧ Below w.heap.size w w' := by
  subst hb; exact rmayP_any p C cn cc E en ec L ln lc w h.hcn h.hen hen
theorem rsizeP_row (S : Nat) (hS : sizeP p = S) (h : PRow w p C cn cc E en ec L ln lc) (b2 : en ≤ 140737488351232) (b3 : ln ≤ 140737488351232) :
    Calls Try.prog 47 #[.agg #[.bool p.mr, .int .i64 p.ty, .int .u16 p.sq, .int .u32 p.tm, .int .u32 p.ss, .slice C cn cc, .bool p.hx, .int .u16 p.pf, .slice E en ec, .slice L ln lc, .int .i64 p.pad]] w fun e w' => e = .returned (.int .i64 (S : Int)) ∧ Below w.heap.size w w' := by
  subst hS; exact rsizeP_any p C cn cc E en ec L ln lc w h.hcn h.hen h.hln b2 b3
set_option maxRecDepth 20000 in
set_option maxHeartbeats 1000000 in
theorem rpput_no (hz : errP p ≠ 0) (h : PRow w p C cn cc E en ec L ln lc) (b2 : en ≤ 140737488351232) (b3 : ln ≤ 140737488351232) :
    Calls Try.prog 26 #[.agg #[.bool p.mr, .int .i64 p.ty, .int .u16 p.sq, .int .u32 p.tm, .int .u32 p.ss, .slice C cn cc, .bool p.hx, .int .u16 p.pf, .slice E en ec, .slice L ln lc, .int .i64 p.pad]] w fun e w' =>
      e = .returned (.tuple #[.slice none 0 0, .int .i64 (errP p : Nat)]) ∧ Below w.heap.size w w' := by
  have HP := Lib.hid h
  clear h
  rcases err_cases p with ⟨h0, _⟩ | ⟨h1, hm⟩ | ⟨h5, hm, hs⟩
  · exact absurd h0 hz
  · have HM := Lib.hid hm
    have HE := Lib.hid h1
    clear hz h1 hm
    go_enter Try.func26, Try.ntmps26
    go_wp2_with (go_at_call 46; (with_reducible refine (rmayP_row p C cn cc E en ec L ln lc _ false HM.out (HP.out.below ((Below.refl _ _).alloc (Nat.le_refl _) _)) b2).mono ?_); rintro e w1 ⟨rfl, hb1⟩)
    go_ret2
    exact ⟨by rw [HE.out]; rfl, ((Below.refl w.heap.size w).alloc (Nat.le_refl _) _).trans (hb1.mono (by simp))⟩
  · have HM := Lib.hid hm
    have HE := Lib.hid h5
    have hs2 : decide ((512 : Int) < ((sizeP p : Nat) : Int)) = true := by simp; omega
    clear hz h5 hm hs
    go_enter Try.func26, Try.ntmps26
    go_wp2_with (first
      | (go_at_call 46; (with_reducible refine (rmayP_row p C cn cc E en ec L ln lc _ true HM.out (HP.out.below ((Below.refl _ _).alloc (Nat.le_refl _) _)) b2).mono ?_); rintro e w1 ⟨rfl, hb1⟩; have hb2 := ((Below.refl w.heap.size w).alloc (Nat.le_refl _) _).trans (hb1.mono (by simp)); have hit := blk_below (blk_alloc _ _) hb1; obtain ⟨x0, x1, x2, x3, x4, x5, x6, x7, x8, x9, x10⟩ := eleven_cells hit)
      | (go_at_call 47; (with_reducible refine (rsizeP_row p C cn cc E en ec L ln lc _ _ rfl (HP.out.below hb2) b2 b3).mono ?_); rintro e w2 ⟨rfl, hb3⟩))
    go_ret2
    exact ⟨by rw [HE.out]; rfl, hb2.trans (hb3.mono hb2.size)⟩
/-- Put of package sluicegateref4: the packet's bytes, or what is wrong. -/
theorem rpput_row (ok : p.Ok) (Z : Int) (hZ : Z = (errP p : Nat)) (l : List UInt8) (hl : outP p = l) (k : Nat) (hk : l.length = k) (h : PRow w p C cn cc E en ec L ln lc) (b2 : en ≤ 140737488351232) (b3 : ln ≤ 140737488351232) :
    Calls Try.prog 26 #[.agg #[.bool p.mr, .int .i64 p.ty, .int .u16 p.sq, .int .u32 p.tm, .int .u32 p.ss, .slice C cn cc, .bool p.hx, .int .u16 p.pf, .slice E en ec, .slice L ln lc, .int .i64 p.pad]] w fun e w' =>
      ∃ B c', e = .returned (.tuple #[.slice B k c', .int .i64 Z]) ∧ w'.ownsRow w.heap.size 5 1 (.slice B k c') k (bys l) ∧ Below w.heap.size w w' := by
  subst hZ hl hk
  by_cases hz : errP p = 0
  · obtain ⟨hm, _⟩ := err_may hz
    obtain ⟨m1, _, _, m4, _⟩ := mayP_parts hm
    obtain ⟨P, hP⟩ : ∃ P : Nat, p.pad = P := ⟨p.pad.toNat, by omega⟩
    obtain ⟨T, hT⟩ : ∃ T : Nat, p.ty = T := ⟨p.ty.toNat, by omega⟩
    have key := rpput_yes p C cn cc E en ec L ln lc w p.hx p.mr P T rfl rfl hP hT h.rc h.re h.rl ok b2 b3 hz
    rw [← hP, ← hT] at key
    refine key.mono ?_
    rintro e w' ⟨B, c', rfl, ho, hb⟩
    rw [outP_yes hz, sizeP_len hm, hz]
    exact ⟨B, c', rfl, ho, hb⟩
  · refine (rpput_no p C cn cc E en ec L ln lc w hz h b2 b3).mono ?_
    rintro e w' ⟨rfl, hb⟩
    rw [outP_nil hz]
    exact ⟨none, 0, rfl, World.ownsRow_nil _ _ _ _, hb⟩
end

theorem below_next {w w1 w2 : World} (h : Below w.heap.size w w1) (h2 : Below w1.heap.size w1 w2) : Below w.heap.size w w2 := h.trans (h2.mono h.size)
end Go.Proofs.Ytaomdinddccpeaa
