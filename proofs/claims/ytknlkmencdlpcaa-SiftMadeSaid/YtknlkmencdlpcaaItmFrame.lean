/-
An item as an argument of a statement: opened.
A packet as an argument of a statement: opened.
-/
import Derived.Test.YtknlkmencdlpcaaRepN
import Derived.Test.YtknlkmencdlpcaaField2
import Derived.Test.YtknlkmencdlpcaaFrame
import Derived.Deep.Slices
import Derived.Deep.Fields
import Derived.ChangeSame
namespace Go.Proofs.Ytknlkmencdlpcaa
set_option linter.unusedVariables false
set_option linter.unusedSimpArgs false
set_option maxRecDepth 20000
open Go Go.ChangeShapes Go.WideShapes Go.ChangeAt Go.RowKit Go.Deep

theorem list_of_all {α : Type} {n : Nat} {p : Nat → α → Prop} (h : ∀ i, i < n → ∃ b, p i b) : ∃ l : List α, l.length = n ∧ ∀ (i : Nat) (hi : i < l.length), p i l[i] := by
  induction n with
  | zero => exact ⟨[], rfl, fun i hi => by simp at hi⟩
  | succ n ih =>
    obtain ⟨l, hl, hp⟩ := ih fun i hi => h i (by omega)
    obtain ⟨b, hb⟩ := h n (by omega)
    refine ⟨l ++ [b], by simp [hl], fun i hi => ?_⟩
    by_cases hin : i < l.length
    · rw [List.getElem_append_left hin]; exact hp i hin
    · have : i = n := by simp at hi; omega
      subst this
      rw [List.getElem_append_right (by omega)]
      simpa [hl] using hb
section
variable {H : Type} {enc : TypeId × Value → H} {P : Program} {w : World} {base : Nat} {spare : Nat → Bool} {held : Bool}
/-- A slice of structs of one-cell fields: the cells, and how each is read. -/
theorem open_row {t e : TypeId} {fs : Array Field} {fuel C : Nat} {a : Option Addr} {len cap : Nat} {x : DataW H × List MemPlace} (ht : P.underlying t = some (.slice e)) (he : P.underlying e = some (.struct fs))
    (hone : oneCellFields P fs = true) (hC : P.cellsOf e = C) (hfs : fs.size = C) (h : DataW.trod enc P w base spare held fuel t [.slice a len cap] = some x) :
    len ≤ cap ∧ cap ≤ maxLen ∧ (a = none → len = 0 ∧ cap = 0) ∧
      ∀ i, i < len → ∃ ad n, a = some ad ∧ ∀ (j : Nat) (f : Field), fs[j]? = some f → ∃ (v : Value) (y : DataW H × List MemPlace), w.cell? (ad.add (i * C + j)) = some v ∧ DataW.trod enc P w base spare held n f.type [v] = some y := by
  rcases open_slice ht h with ⟨hcs, hx⟩ | ⟨x, l, c, m, n, D, Pl, hcs, hb, hl, hm, hmm, hx, hi⟩
  · simp at hcs
    obtain ⟨rfl, rfl, rfl⟩ := hcs
    exact ⟨Nat.le_refl _, Nat.zero_le _, fun _ => ⟨rfl, rfl⟩, fun i hi => by omega⟩
  · simp at hcs
    obtain ⟨rfl, rfl, rfl⟩ := hcs
    refine ⟨hl, hm, (fun h => by cases h), fun i hil => ?_⟩
    obtain ⟨cs', hc, ht'⟩ := hi i (by rw [hmm]; split <;> omega)
    rw [hC] at hc
    obtain ⟨ys, n', hn', hy, hlen, hyl, hf⟩ := DataW.trod_struct he ht'
    obtain ⟨_, hcl, hat⟩ := World.cells?_some hc
    refine ⟨x, n', rfl, fun j f hj => ?_⟩
    obtain ⟨ho, hk⟩ := hone_of hone j f hj
    have hjl : j < fs.size := (Array.getElem?_eq_some_iff.1 hj).1
    have hcell := hat j (by omega)
    have h1 := hf j f hj
    rw [ho, hk] at h1
    have hone' : (cs'.drop j).take 1 = [cs'[j]'(by omega)] := by
      rw [List.drop_eq_getElem_cons (by omega)]
      rfl
    rw [hone'] at h1
    have hys : ys[j]? = some (ys[j]'(by omega)) := List.getElem?_eq_getElem (by omega)
    refine ⟨cs'[j]'(by omega), _, ?_, h1.trans hys⟩
    rw [← Go.Deep.add_add, hcell]
    exact List.getElem?_eq_getElem (by omega)
end
section
variable {H : Type} {enc : TypeId × Value → H} {w : World} {base : Nat} {spare : Nat → Bool} {held : Bool}
theorem nat_u32 {x : Int} (h : (Lit.int .u32 x).wf = true) : ∃ y : Nat, x = y ∧ y < 4294967296 := by
  have := bounds_u32 h
  exact ⟨x.toNat, by omega, by omega⟩
theorem nat_u64 {x : Int} (h : (Lit.int .u64 x).wf = true) : ∃ y : Nat, x = y ∧ y < 18446744073709551616 := by
  have := bounds_u64 h
  exact ⟨x.toNat, by omega, by omega⟩
theorem nat_u16 {x : Int} (h : (Lit.int .u16 x).wf = true) : ∃ y : Nat, x = y ∧ y < 65536 := by
  have := bounds_u16 h
  exact ⟨x.toNat, by omega, by omega⟩
theorem nat_u8 {x : Int} (h : (Lit.int .u8 x).wf = true) : ∃ y : Nat, x = y ∧ y < 256 := by
  have := bounds_u8 h
  exact ⟨x.toNat, by omega, by omega⟩
theorem open_blocks {fuel : Nat} {a : Option Addr} {len cap : Nat} {x : DataW H × List MemPlace} (h : DataW.trod enc Try.prog w base spare held fuel 51 [.slice a len cap] = some x) :
    ∃ bl : List Blk, Row w a len cap 7 28 (rowK bl) ∧ ∀ b ∈ bl, b.Ok := by
  obtain ⟨h1, h2, h3, h4⟩ := open_row (C := 7) Try.underlying51 Try.underlying141 (by kernel_rfl) (by kernel_rfl) rfl h
  obtain ⟨bl, hl, hb⟩ := list_of_all (p := fun i (b : Blk) => b.Ok ∧ ∃ ad, a = some ad ∧ ∀ j v, (blkV b)[j]? = some v → w.cell? (ad.add (i * 7 + j)) = some v) (n := len) fun i hi => by
    obtain ⟨ad, n, rfl, hf⟩ := h4 i hi
    obtain ⟨v0, y0, c0, t0⟩ := hf 0 _ rfl
    obtain ⟨v1, y1, c1, t1⟩ := hf 1 _ rfl
    obtain ⟨v2, y2, c2, t2⟩ := hf 2 _ rfl
    obtain ⟨v3, y3, c3, t3⟩ := hf 3 _ rfl
    obtain ⟨v4, y4, c4, t4⟩ := hf 4 _ rfl
    obtain ⟨v5, y5, c5, t5⟩ := hf 5 _ rfl
    obtain ⟨v6, y6, c6, t6⟩ := hf 6 _ rfl
    obtain ⟨x0, e0, _, w0⟩ := DataW.trod_int Try.underlying24 t0
    obtain ⟨x1, e1, _, w1⟩ := DataW.trod_int Try.underlying5 t1
    obtain ⟨x2, e2, _, w2⟩ := DataW.trod_int Try.underlying24 t2
    obtain ⟨x3, e3, _, w3⟩ := DataW.trod_int Try.underlying24 t3
    obtain ⟨x4, e4, _, w4⟩ := DataW.trod_int Try.underlying24 t4
    obtain ⟨x5, e5, _, w5⟩ := DataW.trod_int Try.underlying24 t5
    obtain ⟨x6, e6, _, w6⟩ := DataW.trod_int Try.underlying24 t6
    simp only [List.cons.injEq, and_true] at e0 e1 e2 e3 e4 e5 e6
    subst e0 e1 e2 e3 e4 e5 e6
    obtain ⟨z0, rfl, b0⟩ := nat_u32 w0
    obtain ⟨z1, rfl, b1⟩ := nat_u8 w1
    obtain ⟨z2, rfl, b2⟩ := nat_u32 w2
    obtain ⟨z3, rfl, b3⟩ := nat_u32 w3
    obtain ⟨z4, rfl, b4⟩ := nat_u32 w4
    obtain ⟨z5, rfl, b5⟩ := nat_u32 w5
    obtain ⟨z6, rfl, b6⟩ := nat_u32 w6
    refine ⟨⟨z0, z1, z2, z3, z4, z5, z6⟩, ⟨b0, b1, b2, b3, b4, b5, b6⟩, ad, rfl, fun j v hv => ?_⟩
    have hj : j < 7 := by have := (List.getElem?_eq_some_iff.1 hv).1; simpa [blkV] using this
    have : j = 0 ∨ j = 1 ∨ j = 2 ∨ j = 3 ∨ j = 4 ∨ j = 5 ∨ j = 6 := by omega
    rcases this with rfl | rfl | rfl | rfl | rfl | rfl | rfl
    · rw [c0]; exact hv
    · rw [c1]; exact hv
    · rw [c2]; exact hv
    · rw [c3]; exact hv
    · rw [c4]; exact hv
    · rw [c5]; exact hv
    · rw [c6]; exact hv
  refine ⟨bl, ⟨by rw [rowK_length, hl], h1, h2, h3, fun p u hu => ?_⟩, fun b hbb => ?_⟩
  · have hp : p < bl.length * 7 := by have := (List.getElem?_eq_some_iff.1 hu).1; rwa [rowK_length] at this
    have hk : p / 7 < bl.length := by omega
    obtain ⟨_, ad, rfl, hc⟩ := hb (p / 7) hk
    have e : p = p / 7 * 7 + p % 7 := by omega
    have hu' : (rowK bl)[p / 7 * 7 + p % 7]? = some u := by rw [← e]; exact hu
    rw [rowK_at bl (p / 7) (p % 7) hk (by omega)] at hu'
    have := hc (p % 7) u hu'
    rw [← e] at this
    exact ⟨ad, rfl, this⟩
  · obtain ⟨i, hi, rfl⟩ := List.getElem_of_mem hbb
    exact (hb i hi).1
theorem rowP_at (l : List (Nat × Nat)) (k j : Nat) (h : k < l.length) (hj : j < 2) : (rowP l)[k * 2 + j]? = (prV l[k])[j]? := by
  have hd : ∀ (l : List (Nat × Nat)) k, (rowP l).drop (k * 2) = rowP (l.drop k) := by
    intro l
    induction l with
    | nil => intro k; simp [rowP]
    | cons b l ih =>
      intro k
      rcases k with _ | k
      · simp
      · rw [List.drop_succ_cons, ← ih k, rowP, List.flatMap_cons, ← rowP, show (k + 1) * 2 = (prV b).length + k * 2 by simp [prV]; omega, List.drop_append]
        simp
  rw [← List.getElem?_drop, hd, List.drop_eq_getElem_cons h, rowP, List.flatMap_cons, List.getElem?_append_left (by simp [prV]; exact hj)]
theorem open_pairs {fuel : Nat} {a : Option Addr} {len cap : Nat} {x : DataW H × List MemPlace} (h : DataW.trod enc Try.prog w base spare held fuel 52 [.slice a len cap] = some x) :
    ∃ l : List (Nat × Nat), Row w a len cap 2 4 (rowP l) ∧ ∀ p ∈ l, p.1 < 65536 ∧ p.2 < 65536 := by
  obtain ⟨h1, h2, h3, h4⟩ := open_row (C := 2) Try.underlying52 Try.underlying181 (by kernel_rfl) (by kernel_rfl) rfl h
  obtain ⟨bl, hl, hb⟩ := list_of_all (p := fun i (b : Nat × Nat) => (b.1 < 65536 ∧ b.2 < 65536) ∧ ∃ ad, a = some ad ∧ ∀ j v, (prV b)[j]? = some v → w.cell? (ad.add (i * 2 + j)) = some v) (n := len) fun i hi => by
    obtain ⟨ad, n, rfl, hf⟩ := h4 i hi
    obtain ⟨v0, y0, c0, t0⟩ := hf 0 _ rfl
    obtain ⟨v1, y1, c1, t1⟩ := hf 1 _ rfl
    obtain ⟨x0, e0, _, w0⟩ := DataW.trod_int Try.underlying23 t0
    obtain ⟨x1, e1, _, w1⟩ := DataW.trod_int Try.underlying23 t1
    simp only [List.cons.injEq, and_true] at e0 e1
    subst e0 e1
    obtain ⟨z0, rfl, b0⟩ := nat_u16 w0
    obtain ⟨z1, rfl, b1⟩ := nat_u16 w1
    refine ⟨⟨z0, z1⟩, ⟨b0, b1⟩, ad, rfl, fun j v hv => ?_⟩
    have hj : j < 2 := by have := (List.getElem?_eq_some_iff.1 hv).1; simpa [prV] using this
    have : j = 0 ∨ j = 1 := by omega
    rcases this with rfl | rfl
    · rw [c0]; exact hv
    · rw [c1]; exact hv
  refine ⟨bl, ⟨by rw [rowP_length, hl], h1, h2, h3, fun p u hu => ?_⟩, fun b hbb => ?_⟩
  · have hp : p < bl.length * 2 := by have := (List.getElem?_eq_some_iff.1 hu).1; rwa [rowP_length] at this
    have hk : p / 2 < bl.length := by omega
    obtain ⟨_, ad, rfl, hc⟩ := hb (p / 2) hk
    have e : p = p / 2 * 2 + p % 2 := by omega
    have hu' : (rowP bl)[p / 2 * 2 + p % 2]? = some u := by rw [← e]; exact hu
    rw [rowP_at bl (p / 2) (p % 2) hk (by omega)] at hu'
    have := hc (p % 2) u hu'
    rw [← e] at this
    exact ⟨ad, rfl, this⟩
  · obtain ⟨i, hi, rfl⟩ := List.getElem_of_mem hbb
    exact (hb i hi).1
theorem open_u32s {fuel : Nat} {a : Option Addr} {len cap : Nat} {x : DataW H × List MemPlace} (h : DataW.trod enc Try.prog w base spare held fuel 37 [.slice a len cap] = some x) :
    ∃ l : List Nat, Row w a len cap 1 4 (u32s l) ∧ ∀ y ∈ l, y < 4294967296 := by
  obtain ⟨zs, h1, h2, h3, h4, h5, h6, _⟩ := open_int_slice Try.underlying37 Try.underlying24 (by kernel_rfl) h
  have e : ivs .u32 zs = u32s (zs.map Int.toNat) := by
    unfold ivs u32s
    rw [List.map_map]
    refine List.map_congr_left fun n hn => ?_
    have hb := bounds_u32 (h6 n hn)
    simp only [Function.comp]
    congr 1
    omega
  rw [e] at h5
  refine ⟨zs.map Int.toNat, ⟨by simp [u32s, h1], h2, h3, h4, h5⟩, fun y hy => ?_⟩
  obtain ⟨n, hn, rfl⟩ := List.mem_map.1 hy
  have hb := bounds_u32 (h6 n hn)
  omega
/-- An item, opened. -/
theorem open_item {r : Reach} {b0 : Nat} {v : Value} {d : DataW H} {p : List MemPlace} (hv : Value.okWide Try.prog w r b0 54 v) (h : DataW.Trod enc Try.prog w base spare held 54 v d p) :
    ∃ (i : Itm) (A : Option Addr) (n c : Nat) (G : Option Addr) (gn gc : Nat) (Q : Option Addr) (pn pc : Nat),
      v = .agg #[.int .i64 i.k, .int .u32 i.s, .int .u64 i.ntp, .int .u32 i.tm, .int .u32 i.pk, .int .u32 i.oc, .slice A n c, .slice G gn gc, .int .u32 i.me, .slice Q pn pc] ∧
      Row w A n c 7 28 (rowK i.bl) ∧ Row w G gn gc 1 4 (u32s i.go) ∧ Row w Q pn pc 2 4 (rowP i.pr) ∧ i.Ok := by
  obtain ⟨cs, rfl, hsz⟩ := okWide_struct Try.underlying54 hv
  have hC : Try.prog.cellsOf 54 = 10 := by kernel_rfl
  rw [hC] at hsz
  obtain ⟨l⟩ := cs
  match l, hsz with
  | [v0, v1, v2, v3, v4, v5, v6, v7, v8, v9], _ =>
    obtain ⟨fuel, hf⟩ := h
    obtain ⟨xs, n, _, hx, _, hlen, hg⟩ := DataW.trod_struct Try.underlying54 hf
    have f0 := hg 0 _ rfl
    have f1 := hg 1 _ rfl
    have f2 := hg 2 _ rfl
    have f3 := hg 3 _ rfl
    have f4 := hg 4 _ rfl
    have f5 := hg 5 _ rfl
    have f6 := hg 6 _ rfl
    have f7 := hg 7 _ rfl
    have f8 := hg 8 _ rfl
    have f9 := hg 9 _ rfl
    have k1 : Try.prog.cellsOf 3 = 1 := by kernel_rfl
    have k2 : Try.prog.cellsOf 24 = 1 := by kernel_rfl
    have k3 : Try.prog.cellsOf 50 = 1 := by kernel_rfl
    have k4 : Try.prog.cellsOf 51 = 1 := by kernel_rfl
    have k5 : Try.prog.cellsOf 37 = 1 := by kernel_rfl
    have k6 : Try.prog.cellsOf 52 = 1 := by kernel_rfl
    simp only [List.getElem_toArray, List.getElem_cons_zero, List.getElem_cons_succ, k1, k2, k3, k4, k5, k6, Value.cells, List.drop_succ_cons, List.drop_zero, List.take_succ_cons, List.take_zero] at f0 f1 f2 f3 f4 f5 f6 f7 f8 f9
    match xs, hlen with
    | [y0, y1, y2, y3, y4, y5, y6, y7, y8, y9], _ =>
      obtain ⟨x0, e0, _, w0⟩ := DataW.trod_int Try.underlying3 f0
      obtain ⟨x1, e1, _, w1⟩ := DataW.trod_int Try.underlying24 f1
      obtain ⟨x2, e2, _, w2⟩ := DataW.trod_int Try.underlying50 f2
      obtain ⟨x3, e3, _, w3⟩ := DataW.trod_int Try.underlying24 f3
      obtain ⟨x4, e4, _, w4⟩ := DataW.trod_int Try.underlying24 f4
      obtain ⟨x5, e5, _, w5⟩ := DataW.trod_int Try.underlying24 f5
      obtain ⟨x8, e8, _, w8⟩ := DataW.trod_int Try.underlying24 f8
      simp only [List.cons.injEq, and_true] at e0 e1 e2 e3 e4 e5 e8
      subst e0 e1 e2 e3 e4 e5 e8
      obtain ⟨z1, rfl, b1⟩ := nat_u32 w1
      obtain ⟨z2, rfl, b2⟩ := nat_u64 w2
      obtain ⟨z3, rfl, b3⟩ := nat_u32 w3
      obtain ⟨z4, rfl, b4⟩ := nat_u32 w4
      obtain ⟨z5, rfl, b5⟩ := nat_u32 w5
      obtain ⟨z8, rfl, b8⟩ := nat_u32 w8
      obtain ⟨A, an, ac, rfl⟩ : ∃ A an ac, v6 = .slice A an ac := by
        rcases open_slice Try.underlying51 f6 with ⟨hcs, _⟩ | ⟨a, l, c, m, n, D, Pl, hcs, _⟩
        · simp at hcs; exact ⟨_, _, _, hcs⟩
        · simp at hcs; exact ⟨_, _, _, hcs⟩
      obtain ⟨G, gn, gc, rfl⟩ : ∃ A an ac, v7 = .slice A an ac := by
        rcases open_slice Try.underlying37 f7 with ⟨hcs, _⟩ | ⟨a, l, c, m, n, D, Pl, hcs, _⟩
        · simp at hcs; exact ⟨_, _, _, hcs⟩
        · simp at hcs; exact ⟨_, _, _, hcs⟩
      obtain ⟨Q, pn, pc, rfl⟩ : ∃ A an ac, v9 = .slice A an ac := by
        rcases open_slice Try.underlying52 f9 with ⟨hcs, _⟩ | ⟨a, l, c, m, n, D, Pl, hcs, _⟩
        · simp at hcs; exact ⟨_, _, _, hcs⟩
        · simp at hcs; exact ⟨_, _, _, hcs⟩
      obtain ⟨bl, hbl, obl⟩ := open_blocks f6
      obtain ⟨go, hgo, ogo⟩ := open_u32s f7
      obtain ⟨pr, hpr, opr⟩ := open_pairs f9
      have bk := bounds_i64 w0
      exact ⟨⟨x0, z1, z2, z3, z4, z5, bl, go, z8, pr⟩, A, an, ac, G, gn, gc, Q, pn, pc, rfl, hbl, hgo, hpr, ⟨bk, b1, b2, b3, b4, b5, obl, ogo, b8, opr⟩⟩
end
end Go.Proofs.Ytknlkmencdlpcaa

namespace Go.Proofs.Ytknlkmencdlpcaa
set_option linter.unusedVariables false
set_option linter.unusedSimpArgs false
set_option maxRecDepth 20000
open Go Go.ChangeShapes Go.WideShapes Go.ChangeAt Go.RowKit Go.Deep

section
variable {H : Type} {enc : TypeId × Value → H} {w : World} {base : Nat} {spare : Nat → Bool} {held : Bool}
theorem open_bytes {fuel : Nat} {a : Option Addr} {len cap : Nat} {d : DataW H} {p : List MemPlace} (h : DataW.trod enc Try.prog w base spare held fuel 22 [.slice a len cap] = some (d, p)) :
    ∃ l : List UInt8, Row w a len cap 1 1 (bys l) ∧ (len = 0 ∨ ∃ es sp, d = .slice es sp ∧ es.length = len) := by
  obtain ⟨l, h1, h2, h3, h4, h5, h6⟩ := open_byte_slice Try.underlying22 Try.underlying5 (by kernel_rfl) h
  exact ⟨l, ⟨by rw [bys_length, h1, Nat.mul_one], h2, h3, h4, h5⟩, h6⟩
theorem reach_part {ts : List TypeId} {ds : List (DataW H)} (hw : ∀ n ∈ DataW.weightsEach Try.prog ts ds, n ≤ reachBytes) {j : Nat} {d : DataW H} {len : Nat} (ht : ts[j]? = some 22) (hd : ds[j]? = some d) (hl : len = 0 ∨ ∃ es sp, d = .slice es sp ∧ es.length = len) : len ≤ 140737488351232 := by
  rcases hl with rfl | ⟨es, sp, rfl, rfl⟩
  · omega
  · have := hw _ (DataW.weights_mem_each ht hd ((es.length + sp.length) * Try.prog.bytesOf 5) (by simp [DataW.weights, Try.underlying22]))
    have hb : Try.prog.bytesOf 5 = 1 := by kernel_rfl
    rw [hb] at this
    have e2 : reachBytes = 140737488351232 := rfl
    omega
theorem weights_agg {t : TypeId} {fs : Array Field} {parts : List (DataW H)} (hu : Try.prog.underlying t = some (.struct fs)) : DataW.weights Try.prog t (.agg parts) = DataW.weightsEach Try.prog (fs.toList.map (·.type)) parts := by
  simp [DataW.weights, hu]
/-- A packet, opened. -/
theorem open_packet {r : Reach} {b0 : Nat} {v : Value} {d : DataW H} {p : List MemPlace} (hv : Value.okWide Try.prog w r b0 39 v) (h : DataW.Trod enc Try.prog w base spare held 39 v d p)
    (hw : ∀ n ∈ d.weights Try.prog 39, n ≤ reachBytes) :
    ∃ (p : Pkt) (C : Option Addr) (cn cc : Nat) (E : Option Addr) (en ec : Nat) (L : Option Addr) (ln lc : Nat),
      v = .agg #[.bool p.mr, .int .i64 p.ty, .int .u16 p.sq, .int .u32 p.tm, .int .u32 p.ss, .slice C cn cc, .bool p.hx, .int .u16 p.pf, .slice E en ec, .slice L ln lc, .int .i64 p.pad] ∧
      Row w C cn cc 1 4 (u32s p.cs) ∧ Row w E en ec 1 1 (bys p.ex) ∧ Row w L ln lc 1 1 (bys p.pl) ∧ p.Ok ∧ en ≤ 140737488351232 ∧ ln ≤ 140737488351232 := by
  obtain ⟨cs, rfl, hsz⟩ := okWide_struct Try.underlying39 hv
  have hC : Try.prog.cellsOf 39 = 11 := by kernel_rfl
  rw [hC] at hsz
  obtain ⟨l⟩ := cs
  match l, hsz with
  | [v0, v1, v2, v3, v4, v5, v6, v7, v8, v9, v10], _ =>
    obtain ⟨fuel, hf⟩ := h
    obtain ⟨xs, n, _, hx, _, hlen, hg⟩ := DataW.trod_struct Try.underlying39 hf
    have f0 := hg 0 _ rfl
    have f1 := hg 1 _ rfl
    have f2 := hg 2 _ rfl
    have f3 := hg 3 _ rfl
    have f4 := hg 4 _ rfl
    have f5 := hg 5 _ rfl
    have f6 := hg 6 _ rfl
    have f7 := hg 7 _ rfl
    have f8 := hg 8 _ rfl
    have f9 := hg 9 _ rfl
    have f10 := hg 10 _ rfl
    have k0 : Try.prog.cellsOf 4 = 1 := by kernel_rfl
    have k1 : Try.prog.cellsOf 3 = 1 := by kernel_rfl
    have k2 : Try.prog.cellsOf 24 = 1 := by kernel_rfl
    have k3 : Try.prog.cellsOf 23 = 1 := by kernel_rfl
    have k4 : Try.prog.cellsOf 22 = 1 := by kernel_rfl
    have k5 : Try.prog.cellsOf 37 = 1 := by kernel_rfl
    simp only [List.getElem_toArray, List.getElem_cons_zero, List.getElem_cons_succ, k0, k1, k2, k3, k4, k5, Value.cells, List.drop_succ_cons, List.drop_zero, List.take_succ_cons, List.take_zero] at f0 f1 f2 f3 f4 f5 f6 f7 f8 f9 f10
    match xs, hlen with
    | [y0, y1, y2, y3, y4, y5, y6, y7, y8, y9, y10], _ =>
      obtain ⟨x0, e0, _⟩ := DataW.trod_bool Try.underlying4 f0
      obtain ⟨x1, e1, _, w1⟩ := DataW.trod_int Try.underlying3 f1
      obtain ⟨x2, e2, _, w2⟩ := DataW.trod_int Try.underlying23 f2
      obtain ⟨x3, e3, _, w3⟩ := DataW.trod_int Try.underlying24 f3
      obtain ⟨x4, e4, _, w4⟩ := DataW.trod_int Try.underlying24 f4
      obtain ⟨x6, e6, _⟩ := DataW.trod_bool Try.underlying4 f6
      obtain ⟨x7, e7, _, w7⟩ := DataW.trod_int Try.underlying23 f7
      obtain ⟨x10, e10, _, w10⟩ := DataW.trod_int Try.underlying3 f10
      simp only [List.cons.injEq, and_true] at e0 e1 e2 e3 e4 e6 e7 e10
      subst e0 e1 e2 e3 e4 e6 e7 e10
      obtain ⟨z2, rfl, b2⟩ := nat_u16 w2
      obtain ⟨z3, rfl, b3⟩ := nat_u32 w3
      obtain ⟨z4, rfl, b4⟩ := nat_u32 w4
      obtain ⟨z7, rfl, b7⟩ := nat_u16 w7
      obtain ⟨C, cn, cc, rfl⟩ : ∃ A an ac, v5 = .slice A an ac := by
        rcases open_slice Try.underlying37 f5 with ⟨hcs, _⟩ | ⟨a, l, c, m, n, D, Pl, hcs, _⟩
        · simp at hcs; exact ⟨_, _, _, hcs⟩
        · simp at hcs; exact ⟨_, _, _, hcs⟩
      obtain ⟨E, en, ec, rfl⟩ : ∃ A an ac, v8 = .slice A an ac := by
        rcases open_slice Try.underlying22 f8 with ⟨hcs, _⟩ | ⟨a, l, c, m, n, D, Pl, hcs, _⟩
        · simp at hcs; exact ⟨_, _, _, hcs⟩
        · simp at hcs; exact ⟨_, _, _, hcs⟩
      obtain ⟨L, ln, lc, rfl⟩ : ∃ A an ac, v9 = .slice A an ac := by
        rcases open_slice Try.underlying22 f9 with ⟨hcs, _⟩ | ⟨a, l, c, m, n, D, Pl, hcs, _⟩
        · simp at hcs; exact ⟨_, _, _, hcs⟩
        · simp at hcs; exact ⟨_, _, _, hcs⟩
      obtain ⟨cs, hcs, ocs⟩ := open_u32s f5
      obtain ⟨ex, hex, oex⟩ := open_bytes f8
      obtain ⟨pl, hpl, opl⟩ := open_bytes f9
      have bk1 := bounds_i64 w1
      have bk10 := bounds_i64 w10
      injection hx with hd hp
      rw [hd, weights_agg Try.underlying39] at hw
      exact ⟨⟨x0, x1, z2, z3, z4, cs, x6, z7, ex, pl, x10⟩, C, cn, cc, E, en, ec, L, ln, lc, rfl, hcs, hex, hpl, ⟨bk1, b2, b3, b4, ocs, b7, bk10⟩, reach_part hw (j := 8) rfl rfl oex, reach_part hw (j := 9) rfl rfl opl⟩
end
end Go.Proofs.Ytknlkmencdlpcaa
