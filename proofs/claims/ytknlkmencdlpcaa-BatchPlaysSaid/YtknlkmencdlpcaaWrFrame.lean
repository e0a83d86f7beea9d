/-
A write as an argument of a statement: opened; rows of calls of law 24; rows of rows of bytes.
-/
import Derived.Test.YtknlkmencdlpcaaBt1
import Derived.Test.YtknlkmencdlpcaaItmFrame
namespace Go.Proofs.Ytknlkmencdlpcaa
set_option linter.unusedVariables false
set_option linter.unusedSimpArgs false
set_option maxRecDepth 20000
open Go Go.ChangeShapes Go.WideShapes Go.ChangeAt Go.RowKit Go.Deep

section
variable {H : Type} {enc : TypeId × Value → H} {w : World} {base : Nat} {spare : Nat → Bool} {held : Bool}
/-- A write's cells. -/
theorem open_wr {fuel : Nat} {v0 v1 v2 v3 v4 v5 v6 v7 v8 v9 : Value} {d : DataW H} {p : List MemPlace} (hf : DataW.trod enc Try.prog w base spare held fuel 92 [v0, v1, v2, v3, v4, v5, v6, v7, v8, v9] = some (d, p))
    (hw : ∀ n ∈ d.weights Try.prog 92, n ≤ reachBytes) : ∃ x : Wr, [v0, v1, v2, v3, v4, v5, v6, v7, v8, v9] = wrV x ∧ x.z.ok w ∧ x.pOk ∧ (-9223372036854775808 ≤ x.k ∧ x.k ≤ 9223372036854775807) := by
  obtain ⟨xs, n, _, hx, _, hlen, hg⟩ := DataW.trod_struct Try.underlying92 hf
  have f0 := hg 0 _ rfl
  have f1 := hg 1 _ rfl
  have f2 := hg 2 _ rfl
  have f3 := hg 3 _ rfl
  have f4 := hg 4 _ rfl
  have f5 := hg 5 _ rfl
  have k1 : Try.prog.cellsOf 3 = 1 := by kernel_rfl
  have k2 : Try.prog.cellsOf 69 = 2 := by kernel_rfl
  have k3 : Try.prog.cellsOf 26 = 4 := by kernel_rfl
  have k4 : Try.prog.cellsOf 22 = 1 := by kernel_rfl
  have k5 : Try.prog.cellsOf 24 = 1 := by kernel_rfl
  have k6 : Try.prog.cellsOf 23 = 1 := by kernel_rfl
  simp only [List.getElem_toArray, List.getElem_cons_zero, List.getElem_cons_succ, k1, k2, k3, k4, Value.cells, List.drop_succ_cons, List.drop_zero, List.take_succ_cons, List.take_zero] at f0 f1 f2 f3 f4 f5
  match xs, hlen with
  | [y0, y1, y2, y3, y4, y5], _ =>
    obtain ⟨x0, e0, _, w0⟩ := DataW.trod_int Try.underlying3 f0
    obtain ⟨x1, e1, _, w1⟩ := DataW.trod_int Try.underlying3 f1
    obtain ⟨x2, e2, _, w2⟩ := DataW.trod_int Try.underlying3 f2
    obtain ⟨zs, n2, _, _, _, hzl, hgl⟩ := DataW.trod_struct Try.underlying69 f3
    have g0 := hgl 0 _ rfl
    have g1 := hgl 1 _ rfl
    simp only [List.getElem_toArray, List.getElem_cons_zero, List.getElem_cons_succ, k1, k5, List.drop_succ_cons, List.drop_zero, List.take_succ_cons, List.take_zero] at g0 g1
    obtain ⟨ps, n3, _, _, _, hpl, hql⟩ := DataW.trod_struct Try.underlying26 f4
    have q0 := hql 0 _ rfl
    have q1 := hql 1 _ rfl
    have q2 := hql 2 _ rfl
    have q3 := hql 3 _ rfl
    simp only [List.getElem_toArray, List.getElem_cons_zero, List.getElem_cons_succ, k5, k6, List.drop_succ_cons, List.drop_zero, List.take_succ_cons, List.take_zero] at q0 q1 q2 q3
    obtain ⟨A, an, ac, rfl⟩ : ∃ A an ac, v9 = .slice A an ac := by
      rcases open_slice Try.underlying22 f5 with ⟨hcs, _⟩ | ⟨a, l, c, m, n, D, Pl, hcs, _⟩ <;> (simp at hcs; exact ⟨_, _, _, hcs⟩)
    match zs, hzl, ps, hpl with
    | [z0, z1], _, [p0, p1, p2, p3], _ =>
      obtain ⟨s, e3, _, w3⟩ := DataW.trod_int Try.underlying3 g0
      obtain ⟨g, e4, _, w4⟩ := DataW.trod_int Try.underlying24 g1
      obtain ⟨sq, e5, _, w5⟩ := DataW.trod_int Try.underlying23 q0
      obtain ⟨tm, e6, _, w6⟩ := DataW.trod_int Try.underlying24 q1
      obtain ⟨ss, e7, _, w7⟩ := DataW.trod_int Try.underlying24 q2
      obtain ⟨ff, e8, _, w8⟩ := DataW.trod_int Try.underlying23 q3
      obtain ⟨l, h1, h2, h3, h4, h5, h6⟩ := open_byte_slice Try.underlying22 Try.underlying5 (by kernel_rfl) (a := A) (len := an) (cap := ac) f5
      simp only [List.cons.injEq, and_true] at e0 e1 e2 e3 e4 e5 e6 e7 e8
      subst e0 e1 e2 e3 e4 e5 e6 e7 e8
      obtain ⟨sq, rfl, b5⟩ := nat_u16 w5
      obtain ⟨tm, rfl, b6⟩ := nat_u32 w6
      obtain ⟨ss, rfl, b7⟩ := nat_u32 w7
      obtain ⟨ff, rfl, b8⟩ := nat_u16 w8
      obtain ⟨rfl, _⟩ := Prod.mk.inj hx
      rw [weights_agg Try.underlying92] at hw
      have hn : an ≤ 140737488351232 := reach_part hw (j := 5) rfl rfl h6
      exact ⟨⟨x0, x1, x2, s, g, sq, tm, ss, ff, ⟨A, an, ac, l⟩⟩, rfl, ⟨⟨h1, h2, h3, h5⟩, h4, hn⟩, ⟨b5, b6, b7, b8⟩, bounds_i64 w0⟩
/-- A write, opened. -/
theorem open_write {r : Reach} {b0 : Nat} {v : Value} {d : DataW H} {p : List MemPlace} (hv : Value.okWide Try.prog w r b0 92 v) (h : DataW.Trod enc Try.prog w base spare held 92 v d p)
    (hw : ∀ n ∈ d.weights Try.prog 92, n ≤ reachBytes) : ∃ x : Wr, v = wrA x ∧ x.z.ok w ∧ x.pOk ∧ (-9223372036854775808 ≤ x.k ∧ x.k ≤ 9223372036854775807) := by
  obtain ⟨cs, rfl, hsz⟩ := okWide_struct Try.underlying92 hv
  have hC : Try.prog.cellsOf 92 = 10 := by kernel_rfl
  rw [hC] at hsz
  obtain ⟨l⟩ := cs
  match l, hsz with
  | [v0, v1, v2, v3, v4, v5, v6, v7, v8, v9], _ =>
    obtain ⟨fuel, hf⟩ := h
    obtain ⟨x, hx, h1⟩ := open_wr (by simpa [Value.cells] using hf) hw
    refine ⟨x, ?_, h1⟩
    rw [hx]; rfl
/-- One call of a row of law 24: its cells. -/
structure Ac24 (w : World) (ad : Addr) (k : Nat) (K x : Int) (y : Wr) : Prop where
  c0 : w.cell? (ad.add (k * 12)) = some (.int .i64 K)
  c1 : w.cell? (ad.add (k * 12 + (0 + 1))) = some (.int .i64 x)
  cw : ∀ j v, (wrV y)[j]? = some v → w.cell? (ad.add (k * 12 + ((1 + j) + 1))) = some v
  ok : y.z.ok w
  po : y.pOk
  bk : -9223372036854775808 ≤ y.k ∧ y.k ≤ 9223372036854775807
def Acts24 (w : World) (X : Option Addr) (m : Nat) : Prop := ∀ k, k < m → ∃ (ad : Addr) (K x : Int) (y : Wr), X = some ad ∧ Ac24 w ad k K x y
theorem Ac24.below {w w' : World} {ad : Addr} {k : Nat} {K x : Int} {y : Wr} (h : Ac24 w ad k K x y) (hb : Below w.heap.size w w') : Ac24 w' ad k K x y :=
  ⟨below_cell hb h.c0, below_cell hb h.c1, fun j v hj => below_cell hb (h.cw j v hj), h.ok.below hb, h.po, h.bk⟩
theorem weights_all {t : TypeId} {l : List (DataW H)} {d : DataW H} (hd : d ∈ l) : ∀ n ∈ d.weights Try.prog t, n ∈ DataW.weightsAll Try.prog t l := by
  intro n hn
  induction l with
  | nil => cases hd
  | cons x l ih =>
    rw [DataW.weightsAll]
    rcases List.mem_cons.1 hd with rfl | hd
    · exact List.mem_append_left _ hn
    · exact List.mem_append_right _ (ih hd)
theorem open_acts24 {fuel : Nat} {a : Option Addr} {len cap : Nat} {d : DataW H} {p : List MemPlace} (hf : DataW.trod enc Try.prog w base spare held fuel 87 [.slice a len cap] = some (d, p))
    (hw : ∀ n ∈ d.weights Try.prog 87, n ≤ reachBytes) : Acts24 w a len := by
  rcases open_slice Try.underlying87 hf with ⟨hcs, hx⟩ | ⟨x, l, c, m, n, D, Pl, hcs, _, hl, hm, hmm, hx, hi⟩
  · simp at hcs
    obtain ⟨rfl, rfl, rfl⟩ := hcs
    intro k hk
    omega
  · simp at hcs
    obtain ⟨rfl, rfl, rfl⟩ := hcs
    intro k hk
    have hw' : ∀ n ∈ (D k).weights Try.prog 94, n ≤ reachBytes := fun n hn => by
      refine hw n ?_
      obtain ⟨rfl, _⟩ := Prod.mk.inj hx
      simp only [DataW.weights, Try.underlying87]
      exact List.mem_cons_of_mem _ (List.mem_append_left _ (weights_all (List.mem_map.2 ⟨k, List.mem_range.2 hk, rfl⟩) n hn))
    obtain ⟨cs', h1, h2⟩ := hi k (by rw [hmm]; split <;> omega)
    have hC : Try.prog.cellsOf 94 = 12 := by kernel_rfl
    rw [hC] at h1
    obtain ⟨_, hlen, hat⟩ := World.cells?_some h1
    match cs', hlen with
    | [v0, v1, u0, u1, u2, u3, u4, u5, u6, u7, u8, u9], _ =>
      obtain ⟨xs, n', _, hxs, _, hxl, hfl⟩ := DataW.trod_struct Try.underlying94 h2
      have c1 : Try.prog.cellsOf 3 = 1 := by kernel_rfl
      have c2 : Try.prog.cellsOf 92 = 10 := by kernel_rfl
      have f0 := hfl 0 _ rfl
      have f1 := hfl 1 _ rfl
      have f2 := hfl 2 _ rfl
      simp only [List.getElem_toArray, List.getElem_cons_zero, List.getElem_cons_succ, c1, c2, List.drop_succ_cons, List.drop_zero, List.take_succ_cons, List.take_zero] at f0 f1 f2
      match xs, hxl with
      | [y0, y1, y2], _ =>
        obtain ⟨K, e0, _, w0⟩ := DataW.trod_int Try.underlying3 f0
        obtain ⟨N, e1, _, w1⟩ := DataW.trod_int Try.underlying3 f1
        simp only [List.cons.injEq, and_true] at e0 e1
        subst e0 e1
        have e2 : D k = .agg ([y0, y1, y2].map (·.1)) := by
          first | exact (Prod.mk.inj hxs).1 | exact hxs
        rw [e2, weights_agg Try.underlying94] at hw'
        obtain ⟨y, hy, ho, hp, hb⟩ := open_wr f2 (fun n hn => hw' n (DataW.weights_mem_each (j := 2) rfl rfl n hn))
        refine ⟨x, K, N, y, rfl, ⟨?_, ?_, fun j v hj => ?_, ho, hp, hb⟩⟩
        · have := hat 0 (by omega); rw [add_zero'] at this; simpa using this
        · have := hat 1 (by omega); rw [← Go.Proofs.Ytknlkmencdlpcaa.add_add]; simpa using this
        · rw [← hy] at hj
          have hj' : j < 10 := by have := (List.getElem?_eq_some_iff.1 hj).1; simpa using this
          have := hat (1 + j + 1) (by omega)
          rw [← Go.Proofs.Ytknlkmencdlpcaa.add_add]
          rw [this, show 1 + j + 1 = j + 2 by omega, List.getElem?_cons_succ, List.getElem?_cons_succ, hj]
/-- Rows of bytes. -/
def Pks (w : World) (X : Option Addr) (m : Nat) : Prop := ∀ k, k < m → ∃ (ad : Addr) (z : Bz), X = some ad ∧ w.cell? (ad.add k) = some (.slice z.A z.n z.c) ∧ Bts w z.A z.n z.c z.l ∧ (z.A = none → z.n = 0 ∧ z.c = 0)
theorem open_pks {fuel : Nat} {a : Option Addr} {len cap : Nat} {d : DataW H} {p : List MemPlace} (hf : DataW.trod enc Try.prog w base spare held fuel 83 [.slice a len cap] = some (d, p)) : Pks w a len := by
  rcases open_slice Try.underlying83 hf with ⟨hcs, hx⟩ | ⟨x, l, c, m, n, D, Pl, hcs, _, hl, hm, hmm, hx, hi⟩
  · simp at hcs
    obtain ⟨rfl, rfl, rfl⟩ := hcs
    intro k hk
    omega
  · simp at hcs
    obtain ⟨rfl, rfl, rfl⟩ := hcs
    intro k hk
    obtain ⟨cs', h1, h2⟩ := hi k (by rw [hmm]; split <;> omega)
    have hC : Try.prog.cellsOf 22 = 1 := by kernel_rfl
    rw [hC] at h1
    obtain ⟨_, hlen, hat⟩ := World.cells?_some h1
    match cs', hlen with
    | [v0], _ =>
      obtain ⟨A, an, ac, rfl⟩ : ∃ A an ac, v0 = Value.slice A an ac := by
        rcases open_slice Try.underlying22 h2 with ⟨hcs, _⟩ | ⟨a, l, c, m, n, D, Pl, hcs, _⟩ <;> (simp at hcs; exact ⟨_, _, _, hcs⟩)
      obtain ⟨bl, h1, h2, h3, h4, h5, _⟩ := open_byte_slice Try.underlying22 Try.underlying5 (by kernel_rfl) h2
      refine ⟨x, ⟨A, an, ac, bl⟩, rfl, ?_, ⟨h1, h2, h3, h5⟩, h4⟩
      have := hat 0 (by omega)
      rw [add_zero', Nat.mul_one] at this
      simpa using this
end
end Go.Proofs.Ytknlkmencdlpcaa
