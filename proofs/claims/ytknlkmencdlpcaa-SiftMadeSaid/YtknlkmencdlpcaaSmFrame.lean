/-
A packet and a slice of items as arguments: how long their slices may be.
-/
import Derived.Test.YtknlkmencdlpcaaItsFrame
import Derived.Test.YtknlkmencdlpcaaSf7
namespace Go.Proofs.Ytknlkmencdlpcaa
set_option linter.unusedVariables false
set_option linter.unusedSimpArgs false
set_option maxRecDepth 20000
open Go Go.ChangeShapes Go.WideShapes Go.ChangeAt Go.RowKit Go.Deep

section
variable {H : Type} {enc : TypeId × Value → H} {w : World} {base : Nat} {spare : Nat → Bool} {held : Bool}
theorem reach_partB {ts : List TypeId} {ds : List (DataW H)} (hw : ∀ n ∈ DataW.weightsEach Try.prog ts ds, n ≤ reachBytes) {j : Nat} {d : DataW H} {len b : Nat} {t e : TypeId} (ht : ts[j]? = some t) (hd : ds[j]? = some d) (hu : Try.prog.underlying t = some (.slice e)) (hb : Try.prog.bytesOf e = b) (hl : len = 0 ∨ ∃ es sp, d = .slice es sp ∧ es.length = len) : len * b ≤ 140737488351232 := by
  rcases hl with rfl | ⟨es, sp, rfl, rfl⟩
  · omega
  · have := hw _ (DataW.weights_mem_each ht hd ((es.length + sp.length) * Try.prog.bytesOf e) (by simp [DataW.weights, hu]))
    rw [hb] at this
    have e1 : es.length * b ≤ (es.length + sp.length) * b := Nat.mul_le_mul_right _ (by omega)
    have e2 : reachBytes = 140737488351232 := rfl
    omega
theorem weights_allS {t : TypeId} {l : List (DataW H)} {d : DataW H} (hd : d ∈ l) : ∀ n ∈ d.weights Try.prog t, n ∈ DataW.weightsAll Try.prog t l := by
  intro n hn
  induction l with
  | nil => cases hd
  | cons x l ih =>
    rw [DataW.weightsAll]
    rcases List.mem_cons.1 hd with rfl | hd
    · exact List.mem_append_left _ hn
    · exact List.mem_append_right _ (ih hd)
theorem packet_cn {a0 a1 a2 a3 a4 a6 a7 a8 a9 a10 : Value} {C : Option Addr} {cn cc : Nat} {d : DataW H} {p : List MemPlace} (h : DataW.Trod enc Try.prog w base spare held 39 (.agg #[a0, a1, a2, a3, a4, .slice C cn cc, a6, a7, a8, a9, a10]) d p)
    (hw : ∀ n ∈ d.weights Try.prog 39, n ≤ reachBytes) : cn * 4 ≤ 140737488351232 := by
  obtain ⟨fuel, hf⟩ := h
  obtain ⟨xs, n, _, hx, _, hlen, hg⟩ := DataW.trod_struct Try.underlying39 hf
  have f5 := hg 5 _ rfl
  have k5 : Try.prog.cellsOf 37 = 1 := by kernel_rfl
  simp only [List.getElem_toArray, List.getElem_cons_zero, List.getElem_cons_succ, k5, Value.cells, List.drop_succ_cons, List.drop_zero, List.take_succ_cons, List.take_zero] at f5
  match xs, hlen with
  | [y0, y1, y2, y3, y4, y5, y6, y7, y8, y9, y10], _ =>
    injection hx with hd hp
    rw [hd, weights_agg Try.underlying39] at hw
    exact reach_partB hw (j := 5) rfl rfl Try.underlying37 (by kernel_rfl) (slice_len Try.underlying37 f5)
theorem items_nil {fuel : Nat} {a : Option Addr} {len cap : Nat} {d : DataW H} {p : List MemPlace} (hf : DataW.trod enc Try.prog w base spare held fuel 48 [.slice a len cap] = some (d, p)) : a = none → len = 0 ∧ cap = 0 := by
  rcases open_slice Try.underlying48 hf with ⟨hcs, hx⟩ | ⟨x, l, c, m, n, D, Pl, hcs, _, hl, hm, hmm, hx, hi⟩
  · simp at hcs
    exact fun _ => hcs.2
  · simp at hcs
    intro h
    rw [hcs.1] at h
    cases h
theorem its_reach {fuel : Nat} {a : Option Addr} {len cap : Nat} {d : DataW H} {p : List MemPlace} (hf : DataW.trod enc Try.prog w base spare held fuel 48 [.slice a len cap] = some (d, p))
    (hw : ∀ n ∈ d.weights Try.prog 48, n ≤ reachBytes) {xs : List Sl} (hI : Its w a len cap xs) : ∀ x ∈ xs, SlB x := by
  rcases open_slice Try.underlying48 hf with ⟨hcs, hx⟩ | ⟨x, l, c, m, n, D, Pl, hcs, _, hl, hm, hmm, hx, hi⟩
  · simp at hcs
    obtain ⟨rfl, rfl, rfl⟩ := hcs
    intro y hy
    have := hI.len
    have h2 := List.length_pos_of_mem hy
    omega
  · simp at hcs
    obtain ⟨rfl, rfl, rfl⟩ := hcs
    intro y hy
    obtain ⟨k, hk, rfl⟩ := List.getElem_of_mem hy
    have hkl : k < len := by rw [← hI.len]; exact hk
    have hw' : ∀ n ∈ (D k).weights Try.prog 54, n ≤ reachBytes := fun n hn => by
      refine hw n ?_
      obtain ⟨rfl, _⟩ := Prod.mk.inj hx
      simp only [DataW.weights, Try.underlying48]
      exact List.mem_cons_of_mem _ (List.mem_append_left _ (weights_allS (List.mem_map.2 ⟨k, List.mem_range.2 hkl, rfl⟩) n hn))
    obtain ⟨cs', h1, h2⟩ := hi k (by rw [hmm]; split <;> omega)
    have hC : Try.prog.cellsOf 54 = 10 := by kernel_rfl
    rw [hC] at h1
    obtain ⟨_, hlen, hat⟩ := World.cells?_some h1
    obtain ⟨ad, had, _, _, _, _, _, _, e6, e7, _, e9⟩ := rd_sl hI.rd hk
    injection had with had
    subst had
    match cs', hlen with
    | [v0, v1, v2, v3, v4, v5, v6, v7, v8, v9], _ =>
      have g6 : v6 = .slice xs[k].A xs[k].n xs[k].c := by
        have h := hat 6 (by omega)
        have h' : w.cell? ((x.add (k * 10)).add 6) = some (.slice xs[k].A xs[k].n xs[k].c) := e6
        rw [h'] at h
        simpa using h.symm
      have g7 : v7 = .slice xs[k].G xs[k].gn xs[k].gc := by
        have h := hat 7 (by omega)
        have h' : w.cell? ((x.add (k * 10)).add 7) = some (.slice xs[k].G xs[k].gn xs[k].gc) := e7
        rw [h'] at h
        simpa using h.symm
      have g9 : v9 = .slice xs[k].P xs[k].pn xs[k].pc := by
        have h := hat 9 (by omega)
        have h' : w.cell? ((x.add (k * 10)).add 9) = some (.slice xs[k].P xs[k].pn xs[k].pc) := e9
        rw [h'] at h
        simpa using h.symm
      subst g6 g7 g9
      obtain ⟨ys, n', _, hxs, _, hxl, hfl⟩ := DataW.trod_struct Try.underlying54 h2
      have c1 : Try.prog.cellsOf 51 = 1 := by kernel_rfl
      have c2 : Try.prog.cellsOf 37 = 1 := by kernel_rfl
      have c3 : Try.prog.cellsOf 52 = 1 := by kernel_rfl
      have f6 := hfl 6 _ rfl
      have f7 := hfl 7 _ rfl
      have f9 := hfl 9 _ rfl
      simp only [List.getElem_toArray, List.getElem_cons_zero, List.getElem_cons_succ, c1, c2, c3, List.drop_succ_cons, List.drop_zero, List.take_succ_cons, List.take_zero] at f6 f7 f9
      match ys, hxl with
      | [y0, y1, y2, y3, y4, y5, y6, y7, y8, y9], _ =>
        have e2 : D k = .agg ([y0, y1, y2, y3, y4, y5, y6, y7, y8, y9].map (·.1)) := by
          first | exact (Prod.mk.inj hxs).1 | exact hxs
        rw [e2, weights_agg Try.underlying54] at hw'
        have b6 := reach_partB hw' (j := 6) rfl rfl Try.underlying51 (b := 28) (by kernel_rfl) (slice_len Try.underlying51 f6)
        have b7 := reach_partB hw' (j := 7) rfl rfl Try.underlying37 (b := 4) (by kernel_rfl) (slice_len Try.underlying37 f7)
        have b9 := reach_partB hw' (j := 9) rfl rfl Try.underlying52 (b := 4) (by kernel_rfl) (slice_len Try.underlying52 f9)
        exact ⟨by omega, by omega, by omega⟩
end
end Go.Proofs.Ytknlkmencdlpcaa
