/-
Operations as arguments of a statement: opened, and how long their names may be. What the listed variables hold.
-/
import Derived.Test.YtaghecgjmkhpcaaGreatDoorTxE
import Derived.Test.YtaghecgjmkhpcaaGreatDoorFrame
import Derived.Test.YtaghecgjmkhpcaaGreatDoorRows
import Derived.Deep.Slices
import Derived.Deep.Fields
import Derived.ChangeSame
import Derived.Lib.LaidU8T
import Derived.Lib.LaidTab
import Derived.PinnedBridge
import Derived.Stop.LaidErr
import Derived.Deep.DeepHandedRow
import Derived.Lay
import Derived.MakeChecks
namespace Go.Proofs.YtaghecgjmkhpcaaGreatDoor
set_option linter.unusedVariables false
set_option linter.unusedSimpArgs false
set_option maxRecDepth 20000
open Go Go.ChangeShapes Go.WideShapes Go.ChangeAt Go.RowKit Go.Deep

theorem list_of_all {α : Type} {n : Nat} {p : Nat → α → Prop} (h : ∀ i, i < n → ∃ b, p i b) : ∃ l : List α, l.length = n ∧ ∀ (i : Nat) (hi : i < l.length), p i l[i] := by
  induction n with
  | zero => exact ⟨[], rfl, fun i hi => by simp at hi⟩
  | succ n ih =>
    obtain ⟨l, hl, hp⟩ := ih fun i hi => h i (by omega)
    obtain ⟨b, hb⟩ := h n (by omega)
    refine ⟨l ++ [b], by simp [hl], fun i hi => ?_⟩
    by_cases hin : i < l.length
    · rw [List.getElem_append_left hin]; exact hp i hin
    · have : i = n := by simp at hi; omega
      subst this
      rw [List.getElem_append_right (by omega)]
      simpa [hl] using hb
section
variable {H : Type} {enc : TypeId × Value → H} {P : Program} {w : World} {base : Nat} {spare : Nat → Bool} {held : Bool}
theorem open_row {t e : TypeId} {fs : Array Field} {fuel C : Nat} {a : Option Addr} {len cap : Nat} {x : DataW H × List MemPlace} (ht : P.underlying t = some (.slice e)) (he : P.underlying e = some (.struct fs))
    (hone : oneCellFields P fs = true) (hC : P.cellsOf e = C) (hfs : fs.size = C) (h : DataW.trod enc P w base spare held fuel t [.slice a len cap] = some x) :
    len ≤ cap ∧ cap ≤ maxLen ∧ (a = none → len = 0 ∧ cap = 0) ∧
      ∀ i, i < len → ∃ ad n, a = some ad ∧ ∀ (j : Nat) (f : Field), fs[j]? = some f → ∃ (v : Value) (y : DataW H × List MemPlace), w.cell? (ad.add (i * C + j)) = some v ∧ DataW.trod enc P w base spare held n f.type [v] = some y := by
  rcases open_slice ht h with ⟨hcs, hx⟩ | ⟨x, l, c, m, n, D, Pl, hcs, hb, hl, hm, hmm, hx, hi⟩
  · simp at hcs
    obtain ⟨rfl, rfl, rfl⟩ := hcs
    exact ⟨Nat.le_refl _, Nat.zero_le _, fun _ => ⟨rfl, rfl⟩, fun i hi => by omega⟩
  · simp at hcs
    obtain ⟨rfl, rfl, rfl⟩ := hcs
    refine ⟨hl, hm, (fun h => by cases h), fun i hil => ?_⟩
    obtain ⟨cs', hc, ht'⟩ := hi i (by rw [hmm]; split <;> omega)
    rw [hC] at hc
    obtain ⟨ys, n', hn', hy, hlen, hyl, hf⟩ := DataW.trod_struct he ht'
    obtain ⟨_, hcl, hat⟩ := World.cells?_some hc
    refine ⟨x, n', rfl, fun j f hj => ?_⟩
    obtain ⟨ho, hk⟩ := hone_of hone j f hj
    have hjl : j < fs.size := (Array.getElem?_eq_some_iff.1 hj).1
    have hcell := hat j (by omega)
    have h1 := hf j f hj
    rw [ho, hk] at h1
    have hone' : (cs'.drop j).take 1 = [cs'[j]'(by omega)] := by
      rw [List.drop_eq_getElem_cons (by omega)]
      rfl
    rw [hone'] at h1
    have hys : ys[j]? = some (ys[j]'(by omega)) := List.getElem?_eq_getElem (by omega)
    refine ⟨cs'[j]'(by omega), _, ?_, h1.trans hys⟩
    rw [← Go.Deep.add_add, hcell]
    exact List.getElem?_eq_getElem (by omega)
theorem slice_len {t e : TypeId} {fuel : Nat} {a : Option Addr} {len cap : Nat} {d : DataW H} {p : List MemPlace} (ht : P.underlying t = some (.slice e)) (h : DataW.trod enc P w base spare held fuel t [.slice a len cap] = some (d, p)) :
    len = 0 ∨ ∃ es sp, d = .slice es sp ∧ es.length = len := by
  rcases open_slice ht h with ⟨hcs, hx⟩ | ⟨x, l, c, m, n, D, Pl, hcs, hb, hl, hm, hmm, hx, hi⟩
  · simp at hcs
    exact .inl hcs.2.1
  · simp at hcs
    obtain ⟨rfl, rfl, rfl⟩ := hcs
    exact .inr ⟨_, _, (Prod.mk.inj hx).1, by simp⟩
end
section
variable {H : Type} {enc : TypeId × Value → H} {w : World} {base : Nat} {spare : Nat → Bool} {held : Bool}
theorem nat_u32 {x : Int} (h : (Lit.int .u32 x).wf = true) : ∃ y : Nat, x = y ∧ y < 4294967296 := by
  have := bounds_u32 h
  exact ⟨x.toNat, by omega, by omega⟩
theorem open_u32s {fuel : Nat} {a : Option Addr} {len cap : Nat} {x : DataW H × List MemPlace} (h : DataW.trod enc Tryz.prog w base spare held fuel 24 [.slice a len cap] = some x) :
    ∃ l : List Nat, Row w a len cap 1 4 (u32s l) ∧ ∀ y ∈ l, y < 4294967296 := by
  obtain ⟨zs, h1, h2, h3, h4, h5, h6, _⟩ := open_int_slice Tryz.underlying24 Tryz.underlying36 (by kernel_rfl) h
  have e : ivs .u32 zs = u32s (zs.map Int.toNat) := by
    unfold ivs u32s
    rw [List.map_map]
    refine List.map_congr_left fun n hn => ?_
    have hb := bounds_u32 (h6 n hn)
    simp only [Function.comp]
    congr 1
    omega
  rw [e] at h5
  refine ⟨zs.map Int.toNat, ⟨by simp [u32s, h1], h2, h3, h4, h5⟩, fun y hy => ?_⟩
  obtain ⟨n, hn, rfl⟩ := List.mem_map.1 hy
  have hb := bounds_u32 (h6 n hn)
  omega
theorem weights_agg {t : TypeId} {fs : Array Field} {parts : List (DataW H)} (hu : Tryz.prog.underlying t = some (.struct fs)) : DataW.weights Tryz.prog t (.agg parts) = DataW.weightsEach Tryz.prog (fs.toList.map (·.type)) parts := by
  simp [DataW.weights, hu]
theorem reach_partB {ts : List TypeId} {ds : List (DataW H)} (hw : ∀ n ∈ DataW.weightsEach Tryz.prog ts ds, n ≤ reachBytes) {j : Nat} {d : DataW H} {len b : Nat} {t e : TypeId} (ht : ts[j]? = some t) (hd : ds[j]? = some d) (hu : Tryz.prog.underlying t = some (.slice e)) (hb : Tryz.prog.bytesOf e = b) (hl : len = 0 ∨ ∃ es sp, d = .slice es sp ∧ es.length = len) : len * b ≤ 140737488351232 := by
  rcases hl with rfl | ⟨es, sp, rfl, rfl⟩
  · omega
  · have := hw _ (DataW.weights_mem_each ht hd ((es.length + sp.length) * Tryz.prog.bytesOf e) (by simp [DataW.weights, hu]))
    rw [hb] at this
    have e1 : es.length * b ≤ (es.length + sp.length) * b := Nat.mul_le_mul_right _ (by omega)
    have e2 : reachBytes = 140737488351232 := rfl
    omega
theorem weights_allS {t : TypeId} {l : List (DataW H)} {d : DataW H} (hd : d ∈ l) : ∀ n ∈ d.weights Tryz.prog t, n ∈ DataW.weightsAll Tryz.prog t l := by
  intro n hn
  induction l with
  | nil => cases hd
  | cons x l ih =>
    rw [DataW.weightsAll]
    rcases List.mem_cons.1 hd with rfl | hd
    · exact List.mem_append_left _ hn
    · exact List.mem_append_right _ (ih hd)
theorem open_bytesR {fuel : Nat} {a : Option Addr} {len cap : Nat} {x : DataW H × List MemPlace} (h : DataW.trod enc Tryz.prog w base spare held fuel 25 [.slice a len cap] = some x) :
    ∃ l : List UInt8, Row w a len cap 1 1 (bys l) := by
  obtain ⟨l, h1, h2, h3, h4, h5, _⟩ := open_byte_slice Tryz.underlying25 Tryz.underlying5 (by kernel_rfl) h
  exact ⟨l, ⟨by rw [bys_length, h1, Nat.mul_one], h2, h3, h4, h5⟩⟩
/-- An operation of a row without its name's bound. -/
structure SpQ (w : World) (x : Sp) : Prop where
  (ra : Row w x.A x.an x.ac 1 4 (u32s x.o.ss)) (rb : Row w x.B x.bn x.bc 1 1 (bys x.o.bs)) (ok : ssOk x.o)
theorem open_opsQ {fuel : Nat} {a : Option Addr} {len cap : Nat} {d : DataW H} {pl : List MemPlace} (h : DataW.trod enc Tryz.prog w base spare held fuel 22 [.slice a len cap] = some (d, pl)) :
    ∃ xs : List Sp, (xs.length = len ∧ len ≤ cap ∧ cap ≤ maxLen ∧ (a = none → len = 0 ∧ cap = 0)) ∧ Rd w a (rowO xs) ∧ ∀ x ∈ xs, SpQ w x := by
  obtain ⟨h1, h2, h3, h4⟩ := open_row (C := 7) Tryz.underlying22 Tryz.underlying27 (by kernel_rfl) (by kernel_rfl) rfl h
  obtain ⟨xs, hl, hb⟩ := list_of_all (p := fun i (b : Sp) => SpQ w b ∧ ∃ ad, a = some ad ∧ ∀ j v, (spC b)[j]? = some v → w.cell? (ad.add (i * 7 + j)) = some v) (n := len) fun i hi => by
    obtain ⟨ad, n, rfl, hf⟩ := h4 i hi
    obtain ⟨v0, y0, c0, f0⟩ := hf 0 _ rfl
    obtain ⟨v1, y1, c1, f1⟩ := hf 1 _ rfl
    obtain ⟨v2, y2, c2, f2⟩ := hf 2 _ rfl
    obtain ⟨v3, y3, c3, f3⟩ := hf 3 _ rfl
    obtain ⟨v4, y4, c4, f4⟩ := hf 4 _ rfl
    obtain ⟨v5, y5, c5, f5⟩ := hf 5 _ rfl
    obtain ⟨v6, y6, c6, f6⟩ := hf 6 _ rfl
    obtain ⟨x0, e0, _, w0⟩ := DataW.trod_int Tryz.underlying3 f0
    obtain ⟨x1, e1, _, w1⟩ := DataW.trod_int Tryz.underlying3 f1
    obtain ⟨x2, e2, _, w2⟩ := DataW.trod_int Tryz.underlying3 f2
    obtain ⟨x3, e3, _, w3⟩ := DataW.trod_int Tryz.underlying3 f3
    obtain ⟨x4, e4, _, w4⟩ := DataW.trod_string Tryz.underlying9 f4
    simp only [List.cons.injEq, and_true] at e0 e1 e2 e3 e4
    subst e0 e1 e2 e3 e4
    obtain ⟨A, an, ac, rfl⟩ : ∃ A an ac, v5 = .slice A an ac := by
      rcases open_slice Tryz.underlying24 f5 with ⟨hcs, _⟩ | ⟨a, l, c, m, n, D, Pl, hcs, _⟩
      · simp at hcs; exact ⟨_, _, _, hcs⟩
      · simp at hcs; exact ⟨_, _, _, hcs⟩
    obtain ⟨B, bn, bc, rfl⟩ : ∃ A an ac, v6 = .slice A an ac := by
      rcases open_slice Tryz.underlying25 f6 with ⟨hcs, _⟩ | ⟨a, l, c, m, n, D, Pl, hcs, _⟩
      · simp at hcs; exact ⟨_, _, _, hcs⟩
      · simp at hcs; exact ⟨_, _, _, hcs⟩
    obtain ⟨ss, hss, oss⟩ := open_u32s f5
    obtain ⟨bs, hbs⟩ := open_bytesR f6
    refine ⟨⟨⟨x0, x1, x2, x3, x4.data.toList, ss, bs⟩, A, an, ac, B, bn, bc⟩, ⟨hss, hbs, oss⟩, ad, rfl, fun j v hv => ?_⟩
    have hj : j < 7 := by have := (List.getElem?_eq_some_iff.1 hv).1; simpa [spC] using this
    have : j = 0 ∨ j = 1 ∨ j = 2 ∨ j = 3 ∨ j = 4 ∨ j = 5 ∨ j = 6 := by omega
    rcases this with rfl | rfl | rfl | rfl | rfl | rfl | rfl
    · rw [c0]; exact hv
    · rw [c1]; exact hv
    · rw [c2]; exact hv
    · rw [c3]; exact hv
    · rw [c4]; exact hv
    · rw [c5]; exact hv
    · rw [c6]; exact hv
  refine ⟨xs, ⟨hl, h1, h2, h3⟩, fun p u hu => ?_, fun b hbb => ?_⟩
  · have hp : p < xs.length * 7 := by have := (List.getElem?_eq_some_iff.1 hu).1; rwa [rowO_length] at this
    have hk : p / 7 < xs.length := by omega
    obtain ⟨_, ad, rfl, hc⟩ := hb (p / 7) hk
    have e : p = p / 7 * 7 + p % 7 := by omega
    have hu' : (rowO xs)[p / 7 * 7 + p % 7]? = some u := by rw [← e]; exact hu
    rw [rowO_at xs (p / 7) (p % 7) hk (by omega)] at hu'
    have := hc (p % 7) u hu'
    rw [← e] at this
    exact ⟨ad, rfl, this⟩
  · obtain ⟨i, hi, rfl⟩ := List.getElem_of_mem hbb
    exact (hb i hi).1
theorem ops_name {fuel : Nat} {a : Option Addr} {len cap : Nat} {d : DataW H} {p : List MemPlace} (hf : DataW.trod enc Tryz.prog w base spare held fuel 22 [.slice a len cap] = some (d, p))
    (hw : ∀ n ∈ d.weights Tryz.prog 22, n ≤ reachBytes) {xs : List Sp} (hl : xs.length = len) (hr : Rd w a (rowO xs)) : ∀ x ∈ xs, x.o.nm.length ≤ 140737488351232 := by
  rcases open_slice Tryz.underlying22 hf with ⟨hcs, hx⟩ | ⟨x, l, c, m, n, D, Pl, hcs, _, hll, hm, hmm, hx, hi⟩
  · simp at hcs
    obtain ⟨rfl, rfl, rfl⟩ := hcs
    intro y hy
    have h2 := List.length_pos_of_mem hy
    omega
  · simp at hcs
    obtain ⟨rfl, rfl, rfl⟩ := hcs
    intro y hy
    obtain ⟨k, hk, rfl⟩ := List.getElem_of_mem hy
    have hkl : k < len := by omega
    have hw' : ∀ n ∈ (D k).weights Tryz.prog 27, n ≤ reachBytes := fun n hn => by
      refine hw n ?_
      obtain ⟨rfl, _⟩ := Prod.mk.inj hx
      simp only [DataW.weights, Tryz.underlying22]
      exact List.mem_cons_of_mem _ (List.mem_append_left _ (weights_allS (List.mem_map.2 ⟨k, List.mem_range.2 hkl, rfl⟩) n hn))
    obtain ⟨cs', h1, h2⟩ := hi k (by rw [hmm]; split <;> omega)
    have hC : Tryz.prog.cellsOf 27 = 7 := by kernel_rfl
    rw [hC] at h1
    obtain ⟨_, hlen, hat⟩ := World.cells?_some h1
    obtain ⟨ad, had, _, _, _, _, e4, _, _⟩ := rd_sp hr hk
    injection had with had
    subst had
    match cs', hlen with
    | [v0, v1, v2, v3, v4, v5, v6], _ =>
      have g4 : v4 = .string ⟨xs[k].o.nm.toArray⟩ := by
        have h := hat 4 (by omega)
        have h' : w.cell? ((x.add (k * 7)).add 4) = some (.string ⟨xs[k].o.nm.toArray⟩) := e4
        rw [h'] at h
        simpa using h.symm
      subst g4
      obtain ⟨ys, n', _, hxs, _, hxl, hfl⟩ := DataW.trod_struct Tryz.underlying27 h2
      have c1 : Tryz.prog.cellsOf 9 = 1 := by kernel_rfl
      have f4 := hfl 4 _ rfl
      simp only [List.getElem_toArray, List.getElem_cons_zero, List.getElem_cons_succ, c1, List.drop_succ_cons, List.drop_zero, List.take_succ_cons, List.take_zero] at f4
      match ys, hxl with
      | [y0, y1, y2, y3, y4, y5, y6], _ =>
        have e2 : D k = .agg ([y0, y1, y2, y3, y4, y5, y6].map (·.1)) := by
          first | exact (Prod.mk.inj hxs).1 | exact hxs
        rw [e2, weights_agg Tryz.underlying27] at hw'
        obtain ⟨s, hs, hy4, _⟩ := DataW.trod_string Tryz.underlying9 f4
        simp only [List.cons.injEq, and_true, Value.string.injEq] at hs
        have h4 : y4.1 = .lit (.string s.data.toList) := by
          rw [hy4]
        have := hw' _ (DataW.weights_mem_each (j := 4) (t := 9) (d := .lit (.string s.data.toList)) rfl (by simp [h4]) s.data.toList.length (by simp [DataW.weights]))
        rw [← hs] at this
        exact this
theorem open_ops {fuel : Nat} {a : Option Addr} {len cap : Nat} {d : DataW H} {pl : List MemPlace} (h : DataW.trod enc Tryz.prog w base spare held fuel 22 [.slice a len cap] = some (d, pl)) (hw : ∀ n ∈ d.weights Tryz.prog 22, n ≤ reachBytes) :
    ∃ xs : List Sp, Ops w a len cap xs ∧ (a = none → len = 0 ∧ cap = 0) := by
  obtain ⟨xs, ⟨h1, h2, h3, h4⟩, h5, h6⟩ := open_opsQ h
  have h7 := ops_name h hw h1 h5
  exact ⟨xs, ⟨h1, h2, h3, h5, fun x hx => ⟨(h6 x hx).ra, (h6 x hx).rb, (h6 x hx).ok, h7 x hx⟩⟩, h4⟩
end

def laidL : List (String × DataW Unit) := [("math/bits.deBruijn32tab", Rows.laid_math_bits_deBruijn32tab), ("math/bits.deBruijn64tab", Rows.laid_math_bits_deBruijn64tab), ("internal/strconv.uint64pow10", Rows.laid_internal_strconv_uint64pow10), ("unicode/utf8.acceptRanges", Rows.laid_unicode_utf8_acceptRanges), ("strconv.ErrRange", Rows.laid_strconv_ErrRange), ("strconv.ErrSyntax", Rows.laid_strconv_ErrSyntax), ("unicode/utf8.first", Rows.laid_unicode_utf8_first)]
def renU : Go.Shelf.Ren := ⟨fun n => n, fun | 5 => 5 | 119 => 73 | 138 => 75 | 139 => 76 | n => n, fun | 3 => 0 | 4 => 1 | n => n⟩
theorem typesU : Go.Proofs.U8Types Tryz.prog renU := ⟨Tryz.underlying5, Tryz.underlying73, Tryz.underlying75, Tryz.underlying76⟩
theorem extraU : Go.Proofs.U8Extra Tryz.prog renU := ⟨by kernel_rfl, by kernel_rfl, by kernel_rfl, by kernel_rfl, by kernel_rfl, by kernel_rfl, by kernel_rfl⟩
/-- A variable of type int holds some number. -/
theorem int_of_shape {P : Program} {w : World} {g : Nat} {t : TypeId} {zero : Array Value} (h : w.ShapedOpen P) (hg : g < P.globals.size) (h0 : ((begin P (fun _ _ => 0) default).world.heap[g]?).bind Obj.row? = some (zero, t)) (hz : zero.size = 1)
    (hb : P.buildable t = true) (hc : P.cellTypes P.depth t = some [t]) (hu : P.underlying t = some (.int .i64)) : ∃ m, w.cell? ⟨g, 0, none⟩ = some (.int .i64 m) := by
  obtain ⟨cs, hh, hs, hr⟩ := h.1 g zero t hg h0
  obtain ⟨ts, hts, _, hall⟩ := hr hb
  rw [hc] at hts
  cases hts
  have h1 : 0 < cs.size := by omega
  obtain ⟨u, hu', hok⟩ := hall 0 cs[0] (by simp [h1])
  have e : u = t := by simpa using hu'.symm
  subst e
  have hcell : w.cell? ⟨g, 0, none⟩ = some cs[0] := by simp [World.cell?, hh, h1]
  rw [hcell]
  unfold Cell.ok at hok
  rw [hu] at hok
  cases hv : cs[0] <;> rw [hv] at hok <;> first | exact ⟨_, rfl⟩ | (simp at hok; done) | (simp at hok; obtain ⟨rfl, _⟩ := hok; exact ⟨_, rfl⟩) | (simp at hok; subst hok; exact ⟨_, rfl⟩)
theorem err_cell {W : World} {n nm : String} {d : DataW Unit} {g : Nat} (h : Lib.VarReads Tryz.prog W n (.iface nm d)) (hg : Tryz.prog.globalNamed n = some g) (ht : (Tryz.prog.globals[g]?).map (·.type) = some 44) : ∃ ev, W.cell? ⟨g, 0, none⟩ = some ev ∧ (ev = .nilIface ∨ ∃ te pe, ev = .iface te pe) := by
  obtain ⟨g', t', cs, fuel, p, hg', ht', hv, hd⟩ := h
  obtain rfl := Option.some.inj (hg.symm.trans hg')
  obtain rfl := Option.some.inj (ht.symm.trans ht')
  obtain ⟨f1, u, v, hcs, _⟩ := iface_of_trod Tryz.underlying44 hd
  have h0 := World.var?_cell hg hv 0
  have e : cs[0]? = some (.iface u v) := by
    rw [← Array.getElem?_toList, hcs]
    rfl
  exact ⟨_, h0.trans e, .inr ⟨u, v, rfl⟩⟩
theorem laid_of {W : World} (h0 : laidMetH Tryz.prog laidL W) (hsh : W.ShapedOpen Tryz.prog) : LaidT W := by
  have hL := h0
  rw [MakeChecks.laidMetH_plain _ _ _ (by kernel_rfl)] at hL
  refine ⟨?_, ?_, ?_, ?_, ?_⟩
  · exact Lib.tabIs_of_head (g := 2) (t := 107) (e := 65) (n := 20) (by kernel_rfl) (by kernel_rfl) Tryz.underlying107 Tryz.underlying65 (by kernel_rfl) (by kernel_rfl) hL.tail.tail
  · have h3 := Lib.laidMet.reads hL (n := "unicode/utf8.first") (d := Rows.laid_unicode_utf8_first) (by simp [laidL])
    rw [show Rows.laid_unicode_utf8_first = Lib.firstData from Pinned.utf8First_eq] at h3
    exact Go.Proofs.utf8Tabs_of_readsT typesU extraU h3 (Lib.laidMet.reads hL (n := "unicode/utf8.acceptRanges") (d := Rows.laid_unicode_utf8_acceptRanges) (by simp [laidL]))
  · exact int_of_shape hsh (of_decide_eq_true (by kernel_rfl)) (show _ = some (#[.int .i64 0], 3) by kernel_rfl) rfl (by kernel_rfl) (by kernel_rfl) Tryz.underlying3
  · exact err_cell (Lib.laidMet.reads hL (n := "strconv.ErrSyntax") (d := Rows.laid_strconv_ErrSyntax) (by simp [laidL])) (by kernel_rfl) (by kernel_rfl)
  · exact err_cell (Lib.laidMet.reads hL (n := "strconv.ErrRange") (d := Rows.laid_strconv_ErrRange) (by simp [laidL])) (by kernel_rfl) (by kernel_rfl)
end Go.Proofs.YtaghecgjmkhpcaaGreatDoor
