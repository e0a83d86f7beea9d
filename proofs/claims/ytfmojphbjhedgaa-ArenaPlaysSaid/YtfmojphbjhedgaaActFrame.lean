/-
A row of calls as an argument of a statement: opened.
-/
import Derived.Test.YtfmojphbjhedgaaArP
import Derived.Test.YtfmojphbjhedgaaFrame
import Derived.Deep.Slices
namespace Go.Proofs.Ytfmojphbjhedgaa
set_option linter.unusedVariables false
set_option linter.unusedSimpArgs false
open Go.ChangeShapes Go.WideShapes Go.ChangeAt Go.RowKit Go.Deep

section
variable {H : Type} {enc : TypeId × Value → H} {W : World} {base : Nat} {spare : Nat → Bool} {held : Bool}
theorem open_acts {fuel : Nat} {a : Option Addr} {len cap : Nat} {d : DataW H} {p : List MemPlace} (hf : DataW.trod enc Try.prog W base spare held fuel 22 [.slice a len cap] = some (d, p)) : Acts W a len := by
  rcases open_slice Try.underlying22 hf with ⟨hcs, hx⟩ | ⟨x, l, c, m, n, D, Pl, hcs, _, hl, hm, hmm, hx, hi⟩
  · simp at hcs
    obtain ⟨rfl, rfl, rfl⟩ := hcs
    intro k hk
    omega
  · simp at hcs
    obtain ⟨rfl, rfl, rfl⟩ := hcs
    intro k hk
    obtain ⟨cs', h1, h2⟩ := hi k (by rw [hmm]; split <;> omega)
    have hC : Try.prog.cellsOf 34 = 4 := by kernel_rfl
    rw [hC] at h1
    obtain ⟨_, hlen, hat⟩ := World.cells?_some h1
    match cs', hlen with
    | [v0, v1, v2, v3], _ =>
      obtain ⟨xs, n', _, _, _, hxl, hfl⟩ := DataW.trod_struct Try.underlying34 h2
      have c1 : Try.prog.cellsOf 3 = 1 := by kernel_rfl
      have c2 : Try.prog.cellsOf 31 = 2 := by kernel_rfl
      have c3 : Try.prog.cellsOf 29 = 1 := by kernel_rfl
      have f0 := hfl 0 _ rfl
      have f1 := hfl 1 _ rfl
      have f2 := hfl 2 _ rfl
      simp only [List.getElem_toArray, List.getElem_cons_zero, List.getElem_cons_succ, c1, c2] at f0 f1 f2
      match xs, hxl with
      | [y0, y1, y2], _ =>
        obtain ⟨K, e0, _, w0⟩ := DataW.trod_int Try.underlying3 f0
        obtain ⟨N, e1, _, w1⟩ := DataW.trod_int Try.underlying3 f1
        obtain ⟨zs, n2, _, _, _, hzl, hgl⟩ := DataW.trod_struct Try.underlying31 f2
        have g0 := hgl 0 _ rfl
        have g1 := hgl 1 _ rfl
        simp only [List.getElem_toArray, List.getElem_cons_zero, List.getElem_cons_succ, c1, c3] at g0 g1
        match zs, hzl with
        | [z0, z1], _ =>
          obtain ⟨s, e2, _, w2⟩ := DataW.trod_int Try.underlying3 g0
          obtain ⟨g, e3, _, w3⟩ := DataW.trod_int Try.underlying29 g1
          simp at e0 e1 e2 e3
          subst e0 e1 e2 e3
          have b := bounds_i64 w1
          refine ⟨x, K, N, s, g, rfl, ?_, ?_, ?_, ?_, b.1, b.2⟩
          · have := hat 0 (by omega); rw [add_zero'] at this; simpa using this
          · have := hat 1 (by omega); rw [← Go.Proofs.Ytfmojphbjhedgaa.add_add]; simpa using this
          · have := hat 2 (by omega); rw [← Go.Proofs.Ytfmojphbjhedgaa.add_add]; simpa using this
          · have := hat 3 (by omega); rw [← Go.Proofs.Ytfmojphbjhedgaa.add_add]; simpa using this
end
end Go.Proofs.Ytfmojphbjhedgaa
