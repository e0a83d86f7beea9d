/-
A packet as an argument of a statement: opened.
-/
import Derived.Test.YtnkclbaeamcplaaRtpN
import Derived.Test.YtnkclbaeamcplaaItmFrame
namespace Go.Proofs.Ytnkclbaeamcplaa
set_option linter.unusedVariables false
set_option linter.unusedSimpArgs false
open Go Go.ChangeShapes Go.WideShapes Go.ChangeAt Go.RowKit Go.Deep

section
variable {H : Type} {enc : TypeId × Value → H} {w : World} {base : Nat} {spare : Nat → Bool} {held : Bool}
theorem open_bytes {fuel : Nat} {a : Option Addr} {len cap : Nat} {d : DataW H} {p : List MemPlace} (h : DataW.trod enc Try.prog w base spare held fuel 30 [.slice a len cap] = some (d, p)) :
    ∃ l : List UInt8, Row w a len cap 1 1 (bys l) ∧ (len = 0 ∨ ∃ es sp, d = .slice es sp ∧ es.length = len) := by
  obtain ⟨l, h1, h2, h3, h4, h5, h6⟩ := open_byte_slice Try.underlying30 Try.underlying5 (by kernel_rfl) h
  exact ⟨l, ⟨by rw [bys_length, h1, Nat.mul_one], h2, h3, h4, h5⟩, h6⟩
theorem reach_part {ts : List TypeId} {ds : List (DataW H)} (hw : ∀ n ∈ DataW.weightsEach Try.prog ts ds, n ≤ reachBytes) {j : Nat} {d : DataW H} {len : Nat} (ht : ts[j]? = some 30) (hd : ds[j]? = some d) (hl : len = 0 ∨ ∃ es sp, d = .slice es sp ∧ es.length = len) : len ≤ 140737488351232 := by
  rcases hl with rfl | ⟨es, sp, rfl, rfl⟩
  · omega
  · have := hw _ (DataW.weights_mem_each ht hd ((es.length + sp.length) * Try.prog.bytesOf 5) (by simp [DataW.weights, Try.underlying30]))
    have hb : Try.prog.bytesOf 5 = 1 := by kernel_rfl
    rw [hb] at this
    have e2 : reachBytes = 140737488351232 := rfl
    omega
theorem weights_agg {t : TypeId} {fs : Array Field} {parts : List (DataW H)} (hu : Try.prog.underlying t = some (.struct fs)) : DataW.weights Try.prog t (.agg parts) = DataW.weightsEach Try.prog (fs.toList.map (·.type)) parts := by
  simp [DataW.weights, hu]
/-- A packet, opened. -/
theorem open_packet {r : Reach} {b0 : Nat} {v : Value} {d : DataW H} {p : List MemPlace} (hv : Value.okWide Try.prog w r b0 44 v) (h : DataW.Trod enc Try.prog w base spare held 44 v d p)
    (hw : ∀ n ∈ d.weights Try.prog 44, n ≤ reachBytes) :
    ∃ (p : Pkt) (C : Option Addr) (cn cc : Nat) (E : Option Addr) (en ec : Nat) (L : Option Addr) (ln lc : Nat),
      v = .agg #[.bool p.mr, .int .i64 p.ty, .int .u16 p.sq, .int .u32 p.tm, .int .u32 p.ss, .slice C cn cc, .bool p.hx, .int .u16 p.pf, .slice E en ec, .slice L ln lc, .int .i64 p.pad] ∧
      Row w C cn cc 1 4 (u32s p.cs) ∧ Row w E en ec 1 1 (bys p.ex) ∧ Row w L ln lc 1 1 (bys p.pl) ∧ p.Ok ∧ en ≤ 140737488351232 ∧ ln ≤ 140737488351232 := by
  obtain ⟨cs, rfl, hsz⟩ := okWide_struct Try.underlying44 hv
  have hC : Try.prog.cellsOf 44 = 11 := by kernel_rfl
  rw [hC] at hsz
  obtain ⟨l⟩ := cs
  match l, hsz with
  | [v0, v1, v2, v3, v4, v5, v6, v7, v8, v9, v10], _ =>
    obtain ⟨fuel, hf⟩ := h
    obtain ⟨xs, n, _, hx, _, hlen, hg⟩ := DataW.trod_struct Try.underlying44 hf
    have f0 := hg 0 _ rfl
    have f1 := hg 1 _ rfl
    have f2 := hg 2 _ rfl
    have f3 := hg 3 _ rfl
    have f4 := hg 4 _ rfl
    have f5 := hg 5 _ rfl
    have f6 := hg 6 _ rfl
    have f7 := hg 7 _ rfl
    have f8 := hg 8 _ rfl
    have f9 := hg 9 _ rfl
    have f10 := hg 10 _ rfl
    have k0 : Try.prog.cellsOf 4 = 1 := by kernel_rfl
    have k1 : Try.prog.cellsOf 3 = 1 := by kernel_rfl
    have k2 : Try.prog.cellsOf 22 = 1 := by kernel_rfl
    have k3 : Try.prog.cellsOf 42 = 1 := by kernel_rfl
    have k4 : Try.prog.cellsOf 30 = 1 := by kernel_rfl
    have k5 : Try.prog.cellsOf 25 = 1 := by kernel_rfl
    simp only [List.getElem_toArray, List.getElem_cons_zero, List.getElem_cons_succ, k0, k1, k2, k3, k4, k5, Value.cells, List.drop_succ_cons, List.drop_zero, List.take_succ_cons, List.take_zero] at f0 f1 f2 f3 f4 f5 f6 f7 f8 f9 f10
    match xs, hlen with
    | [y0, y1, y2, y3, y4, y5, y6, y7, y8, y9, y10], _ =>
      obtain ⟨x0, e0, _⟩ := DataW.trod_bool Try.underlying4 f0
      obtain ⟨x1, e1, _, w1⟩ := DataW.trod_int Try.underlying3 f1
      obtain ⟨x2, e2, _, w2⟩ := DataW.trod_int Try.underlying42 f2
      obtain ⟨x3, e3, _, w3⟩ := DataW.trod_int Try.underlying22 f3
      obtain ⟨x4, e4, _, w4⟩ := DataW.trod_int Try.underlying22 f4
      obtain ⟨x6, e6, _⟩ := DataW.trod_bool Try.underlying4 f6
      obtain ⟨x7, e7, _, w7⟩ := DataW.trod_int Try.underlying42 f7
      obtain ⟨x10, e10, _, w10⟩ := DataW.trod_int Try.underlying3 f10
      simp only [List.cons.injEq, and_true] at e0 e1 e2 e3 e4 e6 e7 e10
      subst e0 e1 e2 e3 e4 e6 e7 e10
      obtain ⟨z2, rfl, b2⟩ := nat_u16 w2
      obtain ⟨z3, rfl, b3⟩ := nat_u32 w3
      obtain ⟨z4, rfl, b4⟩ := nat_u32 w4
      obtain ⟨z7, rfl, b7⟩ := nat_u16 w7
      obtain ⟨C, cn, cc, rfl⟩ : ∃ A an ac, v5 = .slice A an ac := by
        rcases open_slice Try.underlying25 f5 with ⟨hcs, _⟩ | ⟨a, l, c, m, n, D, Pl, hcs, _⟩
        · simp at hcs; exact ⟨_, _, _, hcs⟩
        · simp at hcs; exact ⟨_, _, _, hcs⟩
      obtain ⟨E, en, ec, rfl⟩ : ∃ A an ac, v8 = .slice A an ac := by
        rcases open_slice Try.underlying30 f8 with ⟨hcs, _⟩ | ⟨a, l, c, m, n, D, Pl, hcs, _⟩
        · simp at hcs; exact ⟨_, _, _, hcs⟩
        · simp at hcs; exact ⟨_, _, _, hcs⟩
      obtain ⟨L, ln, lc, rfl⟩ : ∃ A an ac, v9 = .slice A an ac := by
        rcases open_slice Try.underlying30 f9 with ⟨hcs, _⟩ | ⟨a, l, c, m, n, D, Pl, hcs, _⟩
        · simp at hcs; exact ⟨_, _, _, hcs⟩
        · simp at hcs; exact ⟨_, _, _, hcs⟩
      obtain ⟨cs, hcs, ocs⟩ := open_u32s f5
      obtain ⟨ex, hex, oex⟩ := open_bytes f8
      obtain ⟨pl, hpl, opl⟩ := open_bytes f9
      have bk1 := bounds_i64 w1
      have bk10 := bounds_i64 w10
      injection hx with hd hp
      rw [hd, weights_agg Try.underlying44] at hw
      exact ⟨⟨x0, x1, z2, z3, z4, cs, x6, z7, ex, pl, x10⟩, C, cn, cc, E, en, ec, L, ln, lc, rfl, hcs, hex, hpl, ⟨bk1, b2, b3, b4, ocs, b7, bk10⟩, reach_part hw (j := 8) rfl rfl oex, reach_part hw (j := 9) rfl rfl opl⟩
end
end Go.Proofs.Ytnkclbaeamcplaa
