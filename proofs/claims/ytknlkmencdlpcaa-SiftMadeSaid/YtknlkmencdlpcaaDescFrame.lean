/-
A descriptor as an argument of a statement: opened and shut.
-/
import Derived.Test.YtknlkmencdlpcaaDesc
import Derived.Test.YtknlkmencdlpcaaFrame
import Derived.Lib.SmallJoins
namespace Go.Proofs.Ytknlkmencdlpcaa
set_option linter.unusedVariables false
set_option linter.unusedSimpArgs false
set_option maxRecDepth 20000
open Go.ChangeShapes Go.WideShapes Go.ChangeAt Go.RowKit

section
variable {H : Type} {enc : TypeId × Value → H} {w : World} {base : Nat} {spare : Nat → Bool} {held : Bool}
theorem open_desc {r : Reach} {b0 : Nat} {v : Value} {d : DataW H} {p : List MemPlace} (hv : Value.okWide Try.prog w r b0 109 v) (h : DataW.Trod enc Try.prog w base spare held 109 v d p) :
    ∃ (L : Int) (k s : Bool) (f : Int), v = .agg #[.int .i64 L, .bool k, .bool s, .int .u16 f] ∧ d = .agg [.lit (.int .i64 L), .lit (.bool k), .lit (.bool s), .lit (.int .u16 f)] ∧ p = [] ∧ (Lit.int .i64 L).wf = true ∧ (Lit.int .u16 f).wf = true := by
  obtain ⟨v0, v1, v2, v3, y0, y1, y2, y3, m, rfl, rfl, rfl, hy0, hy1, hy2, hy3⟩ := Joins.open_agg4 Try.underlying109 (by kernel_rfl) (by kernel_rfl) hv h
  obtain ⟨L, e0, rfl, w0⟩ := DataW.trod_int Try.underlying3 hy0
  obtain ⟨k, e1, rfl⟩ := DataW.trod_bool Try.underlying4 hy1
  obtain ⟨s, e2, rfl⟩ := DataW.trod_bool Try.underlying4 hy2
  obtain ⟨f, e3, rfl, w3⟩ := DataW.trod_int Try.underlying23 hy3
  simp at e0 e1 e2 e3
  subst e0 e1 e2 e3
  exact ⟨L, k, s, f, rfl, rfl, rfl, w0, w3⟩
theorem shut_desc {L : Int} {k s : Bool} {f : Int} (w0 : (Lit.int .i64 L).wf = true) (w3 : (Lit.int .u16 f).wf = true) :
    DataW.Trod enc Try.prog w base spare held 109 (.agg #[.int .i64 L, .bool k, .bool s, .int .u16 f]) (.agg [.lit (.int .i64 L), .lit (.bool k), .lit (.bool s), .lit (.int .u16 f)]) [] :=
  Joins.shut_agg4 (y0 := (.lit (.int .i64 L), [])) (y1 := (.lit (.bool k), [])) (y2 := (.lit (.bool s), [])) (y3 := (.lit (.int .u16 f), [])) Try.underlying109 (by kernel_rfl) (by kernel_rfl)
    ⟨1, trod_int_mk 0 Try.underlying3 w0⟩ ⟨1, by unfold DataW.trod; simp [Try.underlying4]⟩ ⟨1, by unfold DataW.trod; simp [Try.underlying4]⟩ ⟨1, trod_int_mk 0 Try.underlying23 w3⟩
end
end Go.Proofs.Ytknlkmencdlpcaa
