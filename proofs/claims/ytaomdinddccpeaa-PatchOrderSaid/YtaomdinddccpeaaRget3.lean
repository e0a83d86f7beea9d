/-
What Get of package sluicegateref4 tells of any bytes.
-/
import Derived.Test.YtaomdinddccpeaaRget2
namespace Go.Proofs.Ytaomdinddccpeaa
set_option linter.unusedVariables false
set_option linter.unusedSimpArgs false
open Go Go.RowKit

/-- Get of package sluicegateref4: what the bytes are. -/
theorem rget_all (A : Option Addr) (n c : Nat) (l : List UInt8) (w : World) (h : Bts w A n c l) :
    Calls Try.prog 22 #[.slice A n c] w fun e w' => RGpost l w e w' := by
  by_cases h5 : 512 < l.length
  · exact rget_5 A n c l w h h5
  by_cases h12 : l.length < 12
  · exact rget_2 A n c l w h h12
  by_cases hv : byteN l 0 / 64 = 2
  · cases hf : fbB (byteN l 1)
    · exact rget_main A n c l w h (by omega) (by omega) hv hf
    · exact rget_4 A n c l w h (by omega) (by omega) hv hf
  · exact rget_1 A n c l w h (by omega) (by omega) hv
theorem rget_row (l : List UInt8) (q : Pkt) (F T Z : Int) (hq : getP l = q) (hF : F = (lookF l : Nat)) (hT : T = (lookT l : Nat)) (hZ : Z = (lookE l : Nat)) (A : Option Addr) (n c : Nat) (w : World) (h : Bts w A n c l) :
    Calls Try.prog 22 #[.slice A n c] w fun e w' => ∃ C cn cc E en ec L ln lc, e = .returned (.tuple #[.agg #[.bool q.mr, .int .i64 q.ty, .int .u16 q.sq, .int .u32 q.tm, .int .u32 q.ss, .slice C cn cc, .bool q.hx, .int .u16 q.pf, .slice E en ec, .slice L ln lc, .int .i64 q.pad], .int .i64 F, .int .i64 T, .int .i64 Z]) ∧
      Hid (PRow w' q C cn cc E en ec L ln lc) ∧ Below w.heap.size w w' := by
  subst hq hF hT hZ
  refine (rget_all A n c l w h).mono ?_
  rintro e w' ⟨C, cn, cc, E, en, ec, L, ln, lc, rfl, h1, h2⟩
  exact ⟨C, cn, cc, E, en, ec, L, ln, lc, rfl, hid_of h1.out.row, h2⟩
/-- The same, with the packet's rows of its own. -/
theorem rget_own (l : List UInt8) (q : Pkt) (F T Z : Int) (hq : getP l = q) (hF : F = (lookF l : Nat)) (hT : T = (lookT l : Nat)) (hZ : Z = (lookE l : Nat)) (A : Option Addr) (n c : Nat) (w : World) (h : Bts w A n c l) :
    Calls Try.prog 22 #[.slice A n c] w fun e w' => ∃ C cn cc E en ec L ln lc, e = .returned (.tuple #[.agg #[.bool q.mr, .int .i64 q.ty, .int .u16 q.sq, .int .u32 q.tm, .int .u32 q.ss, .slice C cn cc, .bool q.hx, .int .u16 q.pf, .slice E en ec, .slice L ln lc, .int .i64 q.pad], .int .i64 F, .int .i64 T, .int .i64 Z]) ∧
      Hid (POwn w' w.heap.size q C cn cc E en ec L ln lc) ∧ Below w.heap.size w w' := by
  subst hq hF hT hZ
  exact rget_all A n c l w h
end Go.Proofs.Ytaomdinddccpeaa
