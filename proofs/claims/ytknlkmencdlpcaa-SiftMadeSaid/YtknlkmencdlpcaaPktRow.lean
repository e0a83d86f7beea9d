/-
SamePacket of two packets of the same contents is true.
Two packets in memory compared; Get of package rtp, as rows.
-/
import Derived.Test.YtknlkmencdlpcaaRepN
import Derived.Test.YtknlkmencdlpcaaSameItm
import Derived.Test.YtknlkmencdlpcaaRtp9
import Derived.Test.YtknlkmencdlpcaaFrame
import Derived.Test.YtknlkmencdlpcaaRtpA
import Derived.Test.YtknlkmencdlpcaaRtp5
import Derived.Test.YtknlkmencdlpcaaPkt
namespace Go.Proofs.Ytknlkmencdlpcaa
set_option linter.unusedVariables false
set_option linter.unusedSimpArgs false
open Go Go.RowKit

set_option maxRecDepth 20000 in
set_option maxHeartbeats 4000000 in
theorem samePkt_any (p : Pkt) (C : Option Addr) (cn cc : Nat) (E : Option Addr) (en ec : Nat) (L : Option Addr) (ln lc : Nat) (C' : Option Addr) (cc' : Nat) (E' : Option Addr) (ec' : Nat) (L' : Option Addr) (lc' : Nat) (w : World)
    (rc : Row w C cn cc 1 4 (u32s p.cs)) (re : Row w E en ec 1 1 (bys p.ex)) (rl : Row w L ln lc 1 1 (bys p.pl)) (rc' : Row w C' cn cc' 1 4 (u32s p.cs)) (re' : Row w E' en ec' 1 1 (bys p.ex)) (rl' : Row w L' ln lc' 1 1 (bys p.pl)) :
    Calls Try.prog 71 #[.agg #[.bool p.mr, .int .i64 p.ty, .int .u16 p.sq, .int .u32 p.tm, .int .u32 p.ss, .slice C cn cc, .bool p.hx, .int .u16 p.pf, .slice E en ec, .slice L ln lc, .int .i64 p.pad], .agg #[.bool p.mr, .int .i64 p.ty, .int .u16 p.sq, .int .u32 p.tm, .int .u32 p.ss, .slice C' cn cc', .bool p.hx, .int .u16 p.pf, .slice E' en ec', .slice L' ln lc', .int .i64 p.pad]] w fun e w' =>
      e = .returned (.bool true) ∧ Below w.heap.size w w' := by
  have HCL : Hid (p.cs.length = cn) := by have := rc.len; rw [u32s_length] at this; show _ = _; omega
  have hel : p.ex.length = en := by have := re.len; rw [bys_length] at this; omega
  have hll : p.pl.length = ln := by have := rl.len; rw [bys_length] at this; omega
  have HEL := Lib.hid hel
  have HLL := Lib.hid hll
  clear hel hll
  have m1 := rc.nc
  have m4 := rc.cm
  unfold maxLen at m4
  have HW0 := Lib.hid (And.intro rc (And.intro re (And.intro rl (And.intro rc' (And.intro re' rl')))))
  clear rc re rl rc' re' rl'
  go_enter Try.func71, Try.ntmps71
  go_wp2
  have hB : Below w.heap.size w ((w.alloc (.cells #[.bool p.mr, .int .i64 p.ty, .int .u16 p.sq, .int .u32 p.tm, .int .u32 p.ss, .slice C cn cc, .bool p.hx, .int .u16 p.pf, .slice E en ec, .slice L ln lc, .int .i64 p.pad] 39)).alloc (.cells #[.bool p.mr, .int .i64 p.ty, .int .u16 p.sq, .int .u32 p.tm, .int .u32 p.ss, .slice C' cn cc', .bool p.hx, .int .u16 p.pf, .slice E' en ec', .slice L' ln lc', .int .i64 p.pad] 39)) :=
    ((Below.refl _ _).alloc (Nat.le_refl _) _).alloc (by simp) _
  have hi1 : ((w.alloc (.cells #[.bool p.mr, .int .i64 p.ty, .int .u16 p.sq, .int .u32 p.tm, .int .u32 p.ss, .slice C cn cc, .bool p.hx, .int .u16 p.pf, .slice E en ec, .slice L ln lc, .int .i64 p.pad] 39)).alloc (.cells #[.bool p.mr, .int .i64 p.ty, .int .u16 p.sq, .int .u32 p.tm, .int .u32 p.ss, .slice C' cn cc', .bool p.hx, .int .u16 p.pf, .slice E' en ec', .slice L' ln lc', .int .i64 p.pad] 39)).heap[w.heap.size]? = _ :=
    blk_below (blk_alloc w _) ((Below.refl _ _).alloc (Nat.le_refl _) _)
  have hi2 := blk_alloc (w.alloc (.cells #[.bool p.mr, .int .i64 p.ty, .int .u16 p.sq, .int .u32 p.tm, .int .u32 p.ss, .slice C cn cc, .bool p.hx, .int .u16 p.pf, .slice E en ec, .slice L ln lc, .int .i64 p.pad] 39)) (.cells #[.bool p.mr, .int .i64 p.ty, .int .u16 p.sq, .int .u32 p.tm, .int .u32 p.ss, .slice C' cn cc', .bool p.hx, .int .u16 p.pf, .slice E' en ec', .slice L' ln lc', .int .i64 p.pad] 39)
  rw [show (w.alloc (.cells #[.bool p.mr, .int .i64 p.ty, .int .u16 p.sq, .int .u32 p.tm, .int .u32 p.ss, .slice C cn cc, .bool p.hx, .int .u16 p.pf, .slice E en ec, .slice L ln lc, .int .i64 p.pad] 39)).heap.size = w.heap.size + 1 by simp] at hi2
  generalize ((w.alloc (.cells #[.bool p.mr, .int .i64 p.ty, .int .u16 p.sq, .int .u32 p.tm, .int .u32 p.ss, .slice C cn cc, .bool p.hx, .int .u16 p.pf, .slice E en ec, .slice L ln lc, .int .i64 p.pad] 39)).alloc (.cells #[.bool p.mr, .int .i64 p.ty, .int .u16 p.sq, .int .u32 p.tm, .int .u32 p.ss, .slice C' cn cc', .bool p.hx, .int .u16 p.pf, .slice E' en ec', .slice L' ln lc', .int .i64 p.pad] 39)) = W at *
  have HI1 := Lib.hid hi1
  have HI2 := Lib.hid hi2
  have HC1 := Lib.hid (HW0.out.1.below hB)
  have HE1 := Lib.hid (HW0.out.2.1.below hB)
  have HL1 := Lib.hid (HW0.out.2.2.1.below hB)
  have HC2 := Lib.hid (HW0.out.2.2.2.1.below hB)
  have HE2 := Lib.hid (HW0.out.2.2.2.2.1.below hB)
  have HL2 := Lib.hid (HW0.out.2.2.2.2.2.below hB)
  clear HW0 hi1 hi2
  have hbw := Below.refl W.heap.size W
  go_loopw [16] (fun ix wr => ∃ k : Nat, ix = .int .i64 k ∧ k ≤ cn ∧ Below W.heap.size W wr) (fun ix _ => cn - (intOf ix).toNat)
  case atStart => exact ⟨0, rfl, Nat.zero_le _, hbw⟩
  case round =>
    obtain ⟨k, rfl, hkn, hbr⟩ := hrel
    clear hbw
    have j1 : ∀ j, (wr.drewN j).heap[w.heap.size]? = _ := fun j => blk_below HI1.out (below_drewN hbr j)
    have j2 : ∀ j, (wr.drewN j).heap[w.heap.size + 1]? = _ := fun j => blk_below HI2.out (below_drewN hbr j)
    have s5 := fun j => (eleven_cells (j1 j)).2.2.2.2.2.1
    have t5 := fun j => (eleven_cells (j2 j)).2.2.2.2.2.1
    clear j1 j2
    by_cases hlt : k < cn
    · have hk : k < p.cs.length := by rw [HCL.out]; exact hlt
      obtain ⟨ad, rfl, a0⟩ := rd_u32 (HC1.out.rd.below hbr) hk
      obtain ⟨ae, rfl, e0⟩ := rd_u32 (HC2.out.rd.below hbr) hk
      replace a0 : ∀ j, (wr.drewN j).cell? _ = _ := fun j => a0
      replace e0 : ∀ j, (wr.drewN j).cell? _ = _ := fun j => e0
      go_wp2
      go_quiet (fail)
      go_wp2
      exact ⟨⟨k + 1, rfl, by omega, below_drewN hbr _⟩, by simp [intOf]; omega⟩
    · obtain ⟨s0, s1, s2, s3, s4, s5', s6, s7, s8, s9, s10⟩ := eleven_cells (blk_below HI1.out hbr)
      obtain ⟨t0, t1, t2, t3, t4, t5', t6, t7, t8, t9, t10⟩ := eleven_cells (blk_below HI2.out hbr)
      clear s5 t5
      have v1 : (convert 22 9 (.slice E en ec)).run Try.prog wr = .ok (.string ⟨p.ex.toArray⟩) wr := cv_rd HEL.out (HE1.out.rd.below hbr)
      have v2 : (convert 22 9 (.slice E' en ec')).run Try.prog wr = .ok (.string ⟨p.ex.toArray⟩) wr := cv_rd HEL.out (HE2.out.rd.below hbr)
      have v3 : (convert 22 9 (.slice L ln lc)).run Try.prog wr = .ok (.string ⟨p.pl.toArray⟩) wr := cv_rd HLL.out (HL1.out.rd.below hbr)
      have v4 : (convert 22 9 (.slice L' ln lc')).run Try.prog wr = .ok (.string ⟨p.pl.toArray⟩) wr := cv_rd HLL.out (HL2.out.rd.below hbr)
      go_wp2
      go_ret
      exact ⟨rfl, hB.trans (hbr.mono hB.size)⟩
end Go.Proofs.Ytknlkmencdlpcaa

namespace Go.Proofs.Ytknlkmencdlpcaa
set_option linter.unusedVariables false
set_option linter.unusedSimpArgs false
open Go Go.RowKit

theorem samePkt_row (p q : Pkt) (hq : q = p) (C : Option Addr) (cn cc : Nat) (E : Option Addr) (en ec : Nat) (L : Option Addr) (ln lc : Nat) (C' : Option Addr) (cn' cc' : Nat) (E' : Option Addr) (en' ec' : Nat) (L' : Option Addr) (ln' lc' : Nat) (w : World)
    (h : PRow w p C cn cc E en ec L ln lc) (h' : PRow w q C' cn' cc' E' en' ec' L' ln' lc') :
    Calls Try.prog 71 #[.agg #[.bool p.mr, .int .i64 p.ty, .int .u16 p.sq, .int .u32 p.tm, .int .u32 p.ss, .slice C cn cc, .bool p.hx, .int .u16 p.pf, .slice E en ec, .slice L ln lc, .int .i64 p.pad], .agg #[.bool q.mr, .int .i64 q.ty, .int .u16 q.sq, .int .u32 q.tm, .int .u32 q.ss, .slice C' cn' cc', .bool q.hx, .int .u16 q.pf, .slice E' en' ec', .slice L' ln' lc', .int .i64 q.pad]] w fun e w' =>
      e = .returned (.bool true) ∧ Below w.heap.size w w' := by
  subst hq
  obtain rfl : cn' = cn := h'.hcn.symm.trans h.hcn
  obtain rfl : en' = en := h'.hen.symm.trans h.hen
  obtain rfl : ln' = ln := h'.hln.symm.trans h.hln
  exact samePkt_any q C cn' cc E en' ec L ln' lc C' cc' E' ec' L' lc' w h.rc h.re h.rl h'.rc h'.re h'.rl
/-- Get: what the bytes are, as rows. -/
theorem pget_row (l : List UInt8) (q : Pkt) (Z : Int) (hq : getP l = q) (hZ : Z = (lookE l : Nat)) (A : Option Addr) (n c : Nat) (w : World) (h : Bts w A n c l) :
    Calls Try.prog 72 #[.slice A n c] w fun e w' => ∃ C cn cc E en ec L ln lc, e = .returned (.tuple #[.agg #[.bool q.mr, .int .i64 q.ty, .int .u16 q.sq, .int .u32 q.tm, .int .u32 q.ss, .slice C cn cc, .bool q.hx, .int .u16 q.pf, .slice E en ec, .slice L ln lc, .int .i64 q.pad], .int .i64 Z]) ∧
      Hid (PRow w' q C cn cc E en ec L ln lc) ∧ Below w.heap.size w w' := by
  subst hq hZ
  refine (pget_any A n c l w h).mono ?_
  rintro e w' ⟨C, cn, cc, E, en, ec, L, ln, lc, rfl, h1, h2, h3, h4⟩
  exact ⟨C, cn, cc, E, en, ec, L, ln, lc, rfl, ⟨own_row32 h1, own_row8 h2, own_row8 h3⟩, h4⟩
end Go.Proofs.Ytknlkmencdlpcaa
