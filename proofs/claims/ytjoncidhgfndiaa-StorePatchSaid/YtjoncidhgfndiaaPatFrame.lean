/-
A patch as an argument of a statement: opened and shut.
-/
import Derived.Test.YtjoncidhgfndiaaFrame
import Derived.Test.YtjoncidhgfndiaaRef1
import Derived.Lib.SmallJoins
namespace Go.Proofs.Ytjoncidhgfndiaa
set_option linter.unusedVariables false
set_option linter.unusedSimpArgs false
set_option maxRecDepth 20000
open Go.ChangeShapes Go.WideShapes Go.ChangeAt Go.RowKit

section
variable {H : Type} {enc : TypeId × Value → H} {w : World} {base : Nat} {spare : Nat → Bool} {held : Bool}
theorem open_patch {r : Reach} {b0 : Nat} {v : Value} {d : DataW H} {p : List MemPlace} (hv : Value.okWide Try.prog w r b0 38 v) (h : DataW.Trod enc Try.prog w base spare held 38 v d p) :
    ∃ (s t r f : Int), v = .agg #[.int .u16 s, .int .u32 t, .int .u32 r, .int .u16 f] ∧ d = .agg [.lit (.int .u16 s), .lit (.int .u32 t), .lit (.int .u32 r), .lit (.int .u16 f)] ∧ p = [] ∧ (Lit.int .u16 s).wf = true ∧ (Lit.int .u32 t).wf = true ∧ (Lit.int .u32 r).wf = true ∧ (Lit.int .u16 f).wf = true := by
  obtain ⟨v0, v1, v2, v3, y0, y1, y2, y3, m, rfl, rfl, rfl, hy0, hy1, hy2, hy3⟩ := Joins.open_agg4 Try.underlying38 (by kernel_rfl) (by kernel_rfl) hv h
  obtain ⟨s, e0, rfl, w0⟩ := DataW.trod_int Try.underlying36 hy0
  obtain ⟨t, e1, rfl, w1⟩ := DataW.trod_int Try.underlying26 hy1
  obtain ⟨r, e2, rfl, w2⟩ := DataW.trod_int Try.underlying26 hy2
  obtain ⟨f, e3, rfl, w3⟩ := DataW.trod_int Try.underlying36 hy3
  simp at e0 e1 e2 e3
  subst e0 e1 e2 e3
  exact ⟨s, t, r, f, rfl, rfl, rfl, w0, w1, w2, w3⟩
theorem shut_patch {s t r f : Int} (w0 : (Lit.int .u16 s).wf = true) (w1 : (Lit.int .u32 t).wf = true) (w2 : (Lit.int .u32 r).wf = true) (w3 : (Lit.int .u16 f).wf = true) :
    DataW.Trod enc Try.prog w base spare held 38 (.agg #[.int .u16 s, .int .u32 t, .int .u32 r, .int .u16 f]) (.agg [.lit (.int .u16 s), .lit (.int .u32 t), .lit (.int .u32 r), .lit (.int .u16 f)]) [] :=
  Joins.shut_agg4 (y0 := (.lit (.int .u16 s), [])) (y1 := (.lit (.int .u32 t), [])) (y2 := (.lit (.int .u32 r), [])) (y3 := (.lit (.int .u16 f), [])) Try.underlying38 (by kernel_rfl) (by kernel_rfl)
    ⟨1, trod_int_mk 0 Try.underlying36 w0⟩ ⟨1, trod_int_mk 0 Try.underlying26 w1⟩ ⟨1, trod_int_mk 0 Try.underlying26 w2⟩ ⟨1, trod_int_mk 0 Try.underlying36 w3⟩
end
end Go.Proofs.Ytjoncidhgfndiaa
