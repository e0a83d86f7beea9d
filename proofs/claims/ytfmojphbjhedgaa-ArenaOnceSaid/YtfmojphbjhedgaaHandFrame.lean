/-
A handle as an argument of a statement: opened and shut.
-/
import Derived.Test.YtfmojphbjhedgaaLaw11
import Derived.Test.YtfmojphbjhedgaaFrame
import Derived.Lib.SmallJoins
namespace Go.Proofs.Ytfmojphbjhedgaa
set_option linter.unusedVariables false
set_option linter.unusedSimpArgs false
open Go.ChangeShapes Go.WideShapes Go.ChangeAt Go.RowKit

section
variable {H : Type} {enc : TypeId × Value → H} {w : World} {base : Nat} {spare : Nat → Bool} {held : Bool}
theorem open_handle {r : Reach} {b0 : Nat} {v : Value} {d : DataW H} {p : List MemPlace} (hv : Value.okWide Try.prog w r b0 31 v) (h : DataW.Trod enc Try.prog w base spare held 31 v d p) :
    ∃ (i g : Int), v = .agg #[.int .i64 i, .int .u32 g] ∧ d = .agg [.lit (.int .i64 i), .lit (.int .u32 g)] ∧ p = [] ∧ (Lit.int .i64 i).wf = true ∧ (Lit.int .u32 g).wf = true := by
  obtain ⟨v0, v1, y0, y1, m, rfl, rfl, rfl, hy0, hy1⟩ := Joins.open_agg2 Try.underlying31 (by kernel_rfl) (by kernel_rfl) hv h
  obtain ⟨L, e0, rfl, w0⟩ := DataW.trod_int Try.underlying3 hy0
  obtain ⟨f, e3, rfl, w3⟩ := DataW.trod_int Try.underlying29 hy1
  simp at e0 e3
  subst e0 e3
  exact ⟨L, f, rfl, rfl, rfl, w0, w3⟩
theorem shut_handle {i g : Int} (w0 : (Lit.int .i64 i).wf = true) (w3 : (Lit.int .u32 g).wf = true) :
    DataW.Trod enc Try.prog w base spare held 31 (.agg #[.int .i64 i, .int .u32 g]) (.agg [.lit (.int .i64 i), .lit (.int .u32 g)]) [] :=
  Joins.shut_agg2 (y0 := (.lit (.int .i64 i), [])) (y1 := (.lit (.int .u32 g), [])) Try.underlying31 (by kernel_rfl) (by kernel_rfl)
    ⟨1, trod_int_mk 0 Try.underlying3 w0⟩ ⟨1, trod_int_mk 0 Try.underlying29 w3⟩
end
end Go.Proofs.Ytfmojphbjhedgaa
