/-
A row of calls of law 12 as an argument of a statement: opened.
-/
import Derived.Test.YtnkgkiiagifnmaaStP
import Derived.Test.YtnkgkiiagifnmaaFrame
import Derived.Deep.Slices
namespace Go.Proofs.Ytnkgkiiagifnmaa
set_option linter.unusedVariables false
set_option linter.unusedSimpArgs false
open Go Go.ChangeShapes Go.WideShapes Go.ChangeAt Go.RowKit Go.Deep

section
variable {H : Type} {enc : TypeId × Value → H} {W : World} {base : Nat} {spare : Nat → Bool} {held : Bool}
theorem natU16 {x : Int} (h : (Lit.int .u16 x).wf = true) : ∃ m : Nat, x = m ∧ m < 65536 := ⟨x.toNat, by have := bounds_u16 h; omega, by have := bounds_u16 h; omega⟩
theorem natU32 {x : Int} (h : (Lit.int .u32 x).wf = true) : ∃ m : Nat, x = m ∧ m < 4294967296 := ⟨x.toNat, by have := bounds_u32 h; omega, by have := bounds_u32 h; omega⟩
theorem open_acts12 {fuel : Nat} {a : Option Addr} {len cap : Nat} {d : DataW H} {p : List MemPlace} (hf : DataW.trod enc Try.prog W base spare held fuel 75 [.slice a len cap] = some (d, p)) : Acts12 W a len := by
  rcases open_slice Try.underlying75 hf with ⟨hcs, hx⟩ | ⟨x, l, c, m, n, D, Pl, hcs, _, hl, hm, hmm, hx, hi⟩
  · simp at hcs
    obtain ⟨rfl, rfl, rfl⟩ := hcs
    intro k hk
    omega
  · simp at hcs
    obtain ⟨rfl, rfl, rfl⟩ := hcs
    intro k hk
    obtain ⟨cs', h1, h2⟩ := hi k (by rw [hmm]; split <;> omega)
    have hC : Try.prog.cellsOf 81 = 9 := by kernel_rfl
    rw [hC] at h1
    obtain ⟨_, hlen, hat⟩ := World.cells?_some h1
    match cs', hlen with
    | [v0, v1, v2, v3, v4, v5, v6, v7, v8], _ =>
      obtain ⟨xs, n', _, _, _, hxl, hfl⟩ := DataW.trod_struct Try.underlying81 h2
      have c1 : Try.prog.cellsOf 3 = 1 := by kernel_rfl
      have c2 : Try.prog.cellsOf 65 = 2 := by kernel_rfl
      have c3 : Try.prog.cellsOf 24 = 1 := by kernel_rfl
      have c4 : Try.prog.cellsOf 26 = 4 := by kernel_rfl
      have c5 : Try.prog.cellsOf 23 = 1 := by kernel_rfl
      have c6 : Try.prog.cellsOf 22 = 1 := by kernel_rfl
      have f0 := hfl 0 _ rfl
      have f1 := hfl 1 _ rfl
      have f2 := hfl 2 _ rfl
      have f3 := hfl 3 _ rfl
      have f4 := hfl 4 _ rfl
      simp only [List.getElem_toArray, List.getElem_cons_zero, List.getElem_cons_succ, c1, c2, c4, c6] at f0 f1 f2 f3 f4
      match xs, hxl with
      | [y0, y1, y2, y3, y4], _ =>
        obtain ⟨K, e0, _, w0⟩ := DataW.trod_int Try.underlying3 f0
        obtain ⟨N, e1, _, w1⟩ := DataW.trod_int Try.underlying3 f1
        obtain ⟨zs, n2, _, _, _, hzl, hgl⟩ := DataW.trod_struct Try.underlying65 f2
        have g0 := hgl 0 _ rfl
        have g1 := hgl 1 _ rfl
        simp only [List.getElem_toArray, List.getElem_cons_zero, List.getElem_cons_succ, c1, c3] at g0 g1
        obtain ⟨ps, n3, _, _, _, hpl, hql⟩ := DataW.trod_struct Try.underlying26 f3
        have q0 := hql 0 _ rfl
        have q1 := hql 1 _ rfl
        have q2 := hql 2 _ rfl
        have q3 := hql 3 _ rfl
        simp only [List.getElem_toArray, List.getElem_cons_zero, List.getElem_cons_succ, c5, c3] at q0 q1 q2 q3
        obtain ⟨A, an, ac, rfl⟩ : ∃ A an ac, v8 = Value.slice A an ac := by
          rcases open_slice Try.underlying22 f4 with ⟨hcs, _⟩ | ⟨a, l, c, m, n, D, Pl, hcs, _⟩ <;> (simp at hcs; exact ⟨_, _, _, hcs⟩)
        match zs, hzl, ps, hpl with
        | [z0, z1], _, [p0, p1, p2, p3], _ =>
          obtain ⟨s, e2, _, w2⟩ := DataW.trod_int Try.underlying3 g0
          obtain ⟨g, e3, _, w3⟩ := DataW.trod_int Try.underlying24 g1
          obtain ⟨sq, e4, _, w4⟩ := DataW.trod_int Try.underlying23 q0
          obtain ⟨tm, e5, _, w5⟩ := DataW.trod_int Try.underlying24 q1
          obtain ⟨ss, e6, _, w6⟩ := DataW.trod_int Try.underlying24 q2
          obtain ⟨ff, e7, _, w7⟩ := DataW.trod_int Try.underlying23 q3
          obtain ⟨l, hl1, hl2, hl3, hl4, hl5, _⟩ := open_byte_slice Try.underlying22 Try.underlying5 (by kernel_rfl) (a := A) (len := an) (cap := ac) f4
          simp at e0 e1 e2 e3 e4 e5 e6 e7
          subst e0 e1 e2 e3 e4 e5 e6 e7
          have b := bounds_i64 w1
          obtain ⟨sq, rfl, b4⟩ := natU16 w4
          obtain ⟨tm, rfl, b5⟩ := natU32 w5
          obtain ⟨ss, rfl, b6⟩ := natU32 w6
          obtain ⟨ff, rfl, b7⟩ := natU16 w7
          refine ⟨x, K, N, s, g, sq, tm, ss, ff, A, an, ac, l, rfl, ⟨?_, ?_, ?_, ?_, ?_, ?_, ?_, ?_, ?_, ⟨hl1, hl2, hl3, hl5⟩, hl4, b, ⟨b4, b5, b6, b7⟩⟩⟩
          · have := hat 0 (by omega); rw [add_zero'] at this; simpa using this
          · have := hat 1 (by omega); rw [← Go.Proofs.Ytnkgkiiagifnmaa.add_add]; simpa using this
          · have := hat 2 (by omega); rw [← Go.Proofs.Ytnkgkiiagifnmaa.add_add]; simpa using this
          · have := hat 3 (by omega); rw [← Go.Proofs.Ytnkgkiiagifnmaa.add_add]; simpa using this
          · have := hat 4 (by omega); rw [← Go.Proofs.Ytnkgkiiagifnmaa.add_add]; simpa using this
          · have := hat 5 (by omega); rw [← Go.Proofs.Ytnkgkiiagifnmaa.add_add]; simpa using this
          · have := hat 6 (by omega); rw [← Go.Proofs.Ytnkgkiiagifnmaa.add_add]; simpa using this
          · have := hat 7 (by omega); rw [← Go.Proofs.Ytnkgkiiagifnmaa.add_add]; simpa using this
          · have := hat 8 (by omega); rw [← Go.Proofs.Ytnkgkiiagifnmaa.add_add]; simpa using this
end
end Go.Proofs.Ytnkgkiiagifnmaa
