/-
A slice of items as an argument of a statement: opened.
-/
import Derived.Test.YtknlkmencdlpcaaItmFrame
import Derived.Test.YtknlkmencdlpcaaRc1
namespace Go.Proofs.Ytknlkmencdlpcaa
set_option linter.unusedVariables false
set_option linter.unusedSimpArgs false
set_option maxRecDepth 20000
open Go Go.ChangeShapes Go.WideShapes Go.ChangeAt Go.RowKit Go.Deep

section
variable {H : Type} {enc : TypeId × Value → H} {P : Program} {w : World} {base : Nat} {spare : Nat → Bool} {held : Bool}
theorem slice_len {t e : TypeId} {fuel : Nat} {a : Option Addr} {len cap : Nat} {d : DataW H} {p : List MemPlace} (ht : P.underlying t = some (.slice e)) (h : DataW.trod enc P w base spare held fuel t [.slice a len cap] = some (d, p)) :
    len = 0 ∨ ∃ es sp, d = .slice es sp ∧ es.length = len := by
  rcases open_slice ht h with ⟨hcs, hx⟩ | ⟨x, l, c, m, n, D, Pl, hcs, hb, hl, hm, hmm, hx, hi⟩
  · simp at hcs
    exact .inl hcs.2.1
  · simp at hcs
    obtain ⟨rfl, rfl, rfl⟩ := hcs
    exact .inr ⟨_, _, (Prod.mk.inj hx).1, by simp⟩
end
section
variable {H : Type} {enc : TypeId × Value → H} {w : World} {base : Nat} {spare : Nat → Bool} {held : Bool}
theorem open_items {fuel : Nat} {a : Option Addr} {len cap : Nat} {x : DataW H × List MemPlace} (h : DataW.trod enc Try.prog w base spare held fuel 48 [.slice a len cap] = some x) :
    ∃ xs : List Sl, Its w a len cap xs := by
  obtain ⟨h1, h2, h3, h4⟩ := open_row (C := 10) Try.underlying48 Try.underlying54 (by kernel_rfl) (by kernel_rfl) rfl h
  obtain ⟨xs, hl, hb⟩ := list_of_all (p := fun i (b : Sl) => SlR w b ∧ ∃ ad, a = some ad ∧ ∀ j v, (slV b)[j]? = some v → w.cell? (ad.add (i * 10 + j)) = some v) (n := len) fun i hi => by
    obtain ⟨ad, n, rfl, hf⟩ := h4 i hi
    obtain ⟨v0, y0, c0, f0⟩ := hf 0 _ rfl
    obtain ⟨v1, y1, c1, f1⟩ := hf 1 _ rfl
    obtain ⟨v2, y2, c2, f2⟩ := hf 2 _ rfl
    obtain ⟨v3, y3, c3, f3⟩ := hf 3 _ rfl
    obtain ⟨v4, y4, c4, f4⟩ := hf 4 _ rfl
    obtain ⟨v5, y5, c5, f5⟩ := hf 5 _ rfl
    obtain ⟨v6, y6, c6, f6⟩ := hf 6 _ rfl
    obtain ⟨v7, y7, c7, f7⟩ := hf 7 _ rfl
    obtain ⟨v8, y8, c8, f8⟩ := hf 8 _ rfl
    obtain ⟨v9, y9, c9, f9⟩ := hf 9 _ rfl
    obtain ⟨x0, e0, _, w0⟩ := DataW.trod_int Try.underlying3 f0
    obtain ⟨x1, e1, _, w1⟩ := DataW.trod_int Try.underlying24 f1
    obtain ⟨x2, e2, _, w2⟩ := DataW.trod_int Try.underlying50 f2
    obtain ⟨x3, e3, _, w3⟩ := DataW.trod_int Try.underlying24 f3
    obtain ⟨x4, e4, _, w4⟩ := DataW.trod_int Try.underlying24 f4
    obtain ⟨x5, e5, _, w5⟩ := DataW.trod_int Try.underlying24 f5
    obtain ⟨x8, e8, _, w8⟩ := DataW.trod_int Try.underlying24 f8
    simp only [List.cons.injEq, and_true] at e0 e1 e2 e3 e4 e5 e8
    subst e0 e1 e2 e3 e4 e5 e8
    obtain ⟨z1, rfl, b1⟩ := nat_u32 w1
    obtain ⟨z2, rfl, b2⟩ := nat_u64 w2
    obtain ⟨z3, rfl, b3⟩ := nat_u32 w3
    obtain ⟨z4, rfl, b4⟩ := nat_u32 w4
    obtain ⟨z5, rfl, b5⟩ := nat_u32 w5
    obtain ⟨z8, rfl, b8⟩ := nat_u32 w8
    obtain ⟨A, an, ac, rfl⟩ : ∃ A an ac, v6 = .slice A an ac := by
      rcases open_slice Try.underlying51 f6 with ⟨hcs, _⟩ | ⟨a, l, c, m, n, D, Pl, hcs, _⟩
      · simp at hcs; exact ⟨_, _, _, hcs⟩
      · simp at hcs; exact ⟨_, _, _, hcs⟩
    obtain ⟨G, gn, gc, rfl⟩ : ∃ A an ac, v7 = .slice A an ac := by
      rcases open_slice Try.underlying37 f7 with ⟨hcs, _⟩ | ⟨a, l, c, m, n, D, Pl, hcs, _⟩
      · simp at hcs; exact ⟨_, _, _, hcs⟩
      · simp at hcs; exact ⟨_, _, _, hcs⟩
    obtain ⟨Q, pn, pc, rfl⟩ : ∃ A an ac, v9 = .slice A an ac := by
      rcases open_slice Try.underlying52 f9 with ⟨hcs, _⟩ | ⟨a, l, c, m, n, D, Pl, hcs, _⟩
      · simp at hcs; exact ⟨_, _, _, hcs⟩
      · simp at hcs; exact ⟨_, _, _, hcs⟩
    obtain ⟨bl, hbl, obl⟩ := open_blocks f6
    obtain ⟨go, hgo, ogo⟩ := open_u32s f7
    obtain ⟨pr, hpr, opr⟩ := open_pairs f9
    have bk := bounds_i64 w0
    refine ⟨⟨⟨x0, z1, z2, z3, z4, z5, bl, go, z8, pr⟩, A, an, ac, G, gn, gc, Q, pn, pc⟩, ⟨hbl, hgo, hpr, ⟨bk, b1, b2, b3, b4, b5, obl, ogo, b8, opr⟩⟩, ad, rfl, fun j v hv => ?_⟩
    have hj : j < 10 := by have := (List.getElem?_eq_some_iff.1 hv).1; simpa [slV] using this
    have : j = 0 ∨ j = 1 ∨ j = 2 ∨ j = 3 ∨ j = 4 ∨ j = 5 ∨ j = 6 ∨ j = 7 ∨ j = 8 ∨ j = 9 := by omega
    rcases this with rfl | rfl | rfl | rfl | rfl | rfl | rfl | rfl | rfl | rfl
    · rw [c0]; exact hv
    · rw [c1]; exact hv
    · rw [c2]; exact hv
    · rw [c3]; exact hv
    · rw [c4]; exact hv
    · rw [c5]; exact hv
    · rw [c6]; exact hv
    · rw [c7]; exact hv
    · rw [c8]; exact hv
    · rw [c9]; exact hv
  refine ⟨xs, ⟨hl, h1, h2, fun p u hu => ?_, fun b hbb => ?_⟩⟩
  · have hp : p < xs.length * 10 := by have := (List.getElem?_eq_some_iff.1 hu).1; rwa [rowI_length] at this
    have hk : p / 10 < xs.length := by omega
    obtain ⟨_, ad, rfl, hc⟩ := hb (p / 10) hk
    have e : p = p / 10 * 10 + p % 10 := by omega
    have hu' : (rowI xs)[p / 10 * 10 + p % 10]? = some u := by rw [← e]; exact hu
    rw [rowI_at xs (p / 10) (p % 10) hk (by omega)] at hu'
    have := hc (p % 10) u hu'
    rw [← e] at this
    exact ⟨ad, rfl, this⟩
  · obtain ⟨i, hi, rfl⟩ := List.getElem_of_mem hbb
    exact (hb i hi).1
end
end Go.Proofs.Ytknlkmencdlpcaa
