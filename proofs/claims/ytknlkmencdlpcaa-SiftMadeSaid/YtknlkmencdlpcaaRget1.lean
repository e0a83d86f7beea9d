/-
What Get of package sluicegateref4 keeps between its steps; its errors ahead of the numbers.
What Get of package sluicegateref4 tells, behind its first errors.
What Get of package sluicegateref4 tells of any bytes.
-/
import Derived.Test.YtknlkmencdlpcaaRef1
import Derived.Test.YtknlkmencdlpcaaPkt
import Derived.Test.YtknlkmencdlpcaaCells
import Derived.Test.YtknlkmencdlpcaaRtpP
import Derived.Deep.CutBlock
import Derived.Test.YtknlkmencdlpcaaReg
namespace Go.Proofs.Ytknlkmencdlpcaa
set_option linter.unusedVariables false
set_option linter.unusedSimpArgs false
open Go Go.RowKit

theorem rread_v (X : Option Addr) (n c : Nat) (l : List UInt8) (Z S : Int) (w : World) (h : Bts w X n c l) (h1 : Z ≤ 9223372036854775807) (h2 : S ≤ 9223372036854775807) (x : Nat) (hx : getN l Z S = x) :
    Calls Try.prog 83 #[.slice X n c, .int .i64 Z, .int .i64 S] w fun e w' => e = .returned (.int .u64 x) ∧ w' = w := by
  subst hx
  have HB := Lib.hid h
  clear h
  go_enter Try.func83, Try.ntmps83
  go_wp2_with (go_at_call 126; (with_reducible refine (rget_any X n c l Z S w HB.out.len HB.out.nc HB.out.cm HB.out.rd h1 h2).mono ?_); rintro e w1 ⟨rfl, rfl⟩)
  go_ret
  exact ⟨rfl, rfl⟩
/-- A packet's three rows, each of its own. -/
structure POwn (w : World) (base : Nat) (p : Pkt) (C : Option Addr) (cn cc : Nat) (E : Option Addr) (en ec : Nat) (L : Option Addr) (ln lc : Nat) : Prop where
  (oc : w.ownsRow base 24 1 (.slice C cn cc) cn (u32s p.cs)) (oe : w.ownsRow base 5 1 (.slice E en ec) en (bys p.ex)) (ol : w.ownsRow base 5 1 (.slice L ln lc) ln (bys p.pl))
theorem POwn.row {w : World} {base : Nat} {p : Pkt} {C : Option Addr} {cn cc : Nat} {E : Option Addr} {en ec : Nat} {L : Option Addr} {ln lc : Nat} (h : POwn w base p C cn cc E en ec L ln lc) : PRow w p C cn cc E en ec L ln lc := ⟨own_row32 h.oc, own_row8 h.oe, own_row8 h.ol⟩
theorem pown_zero (w : World) (base : Nat) : POwn w base zeroP none 0 0 none 0 0 none 0 0 := ⟨World.ownsRow_nil _ _ _ _, World.ownsRow_nil _ _ _ _, World.ownsRow_nil _ _ _ _⟩
/-- What Get tells. -/
def RGpost (l : List UInt8) (w : World) (e : Ending) (w' : World) : Prop := ∃ C cn cc E en ec L ln lc, e = .returned (.tuple #[.agg #[.bool (getP l).mr, .int .i64 (getP l).ty, .int .u16 (getP l).sq, .int .u32 (getP l).tm, .int .u32 (getP l).ss, .slice C cn cc, .bool (getP l).hx, .int .u16 (getP l).pf, .slice E en ec, .slice L ln lc, .int .i64 (getP l).pad], .int .i64 (lookF l : Nat), .int .i64 (lookT l : Nat), .int .i64 (lookE l : Nat)]) ∧
  Hid (POwn w' w.heap.size (getP l) C cn cc E en ec L ln lc) ∧ Below w.heap.size w w'
theorem rg_err {l : List UInt8} {w w' : World} (Z : Int) (hZ : Z = (lookE l : Nat)) (hne : lookE l ≠ 0) (hb : Below w.heap.size w w') : RGpost l w (.returned (.tuple #[.agg #[.bool false, .int .i64 0, .int .u16 0, .int .u32 0, .int .u32 0, .slice none 0 0, .bool false, .int .u16 0, .slice none 0 0, .slice none 0 0, .int .i64 0], .int .i64 0, .int .i64 0, .int .i64 Z])) w' := by
  subst hZ
  refine ⟨none, 0, 0, none, 0, 0, none, 0, 0, ?_, ?_, hb⟩
  · rw [getP_zero hne]
    unfold lookF lookT
    rw [if_neg hne, if_neg hne]
    rfl
  · rw [getP_zero hne]
    exact pown_zero w' _
structure RG (w0 w : World) (it : Array Value) (C : Option Addr) (cn cc : Nat) (cs : List Nat) : Prop where
  res : w.heap[w0.heap.size]? = some (.cells it 39 (0, 0))
  non : w.heap[w0.heap.size + 1]? = some (.cells #[.bool false, .int .i64 0, .int .u16 0, .int .u32 0, .int .u32 0, .slice none 0 0, .bool false, .int .u16 0, .slice none 0 0, .slice none 0 0, .int .i64 0] 39 (0, 0))
  own : w.ownsRow w0.heap.size 24 1 (.slice C cn cc) cn (u32s cs)
  b : Below w0.heap.size w0 w
section
variable {w0 w w' : World} {it it' : Array Value} {C : Option Addr} {cn cc : Nat} {cs : List Nat}
theorem RG.below (h : RG w0 w it C cn cc cs) (hb : Below w.heap.size w w') : RG w0 w' it C cn cc cs :=
  ⟨blk_below h.res hb, blk_below h.non hb, h.own.kept (own_below hb) (own_none _), h.b.trans (hb.mono h.b.size)⟩
theorem RG.alloc (h : RG w0 w it C cn cc cs) (o : Obj) : RG w0 (w.alloc o) it C cn cc cs := h.below ((Below.refl _ _).alloc (Nat.le_refl _) _)
theorem RG.drew (h : RG w0 w it C cn cc cs) : RG w0 w.drew it C cn cc cs := h.below ((Below.refl _ _).drew)
theorem RG.item (h : RG w0 w it C cn cc cs) (hi : w'.heap[w0.heap.size]? = some (.cells it' 39 (0, 0))) (hg : w.grownBy w' (some w0.heap.size)) : RG w0 w' it' C cn cc cs :=
  ⟨hi, (hg.block _ (blk_in h.non) (fun e => by injection e with e; omega)).trans h.non, h.own.kept hg (own_off h.own h.res (by decide)), h.b.grown hg h.b.size (fun q hq => by injection hq with hq; omega)⟩
theorem RG.grown0 (h : RG w0 w it C cn cc cs) (hg : w.grownBy w' none) : RG w0 w' it C cn cc cs :=
  ⟨(hg.block _ (blk_in h.res) (by simp)).trans h.res, (hg.block _ (blk_in h.non) (by simp)).trans h.non, h.own.kept hg (own_none _), h.b.grown hg h.b.size (by simp)⟩
theorem RG.app {C1 : Option Addr} {k cC c1 : Nat} {z : Nat} (h : RG w0 w it C k cC cs) {lit : Obj} (hg : (w.alloc lit).grownBy w' (C.map Addr.block)) (ho : w'.ownsRow w0.heap.size 24 1 (.slice C1 (k + 1) c1) (k + 1) (u32s cs ++ [.int .u32 z])) :
    RG w0 w' it C1 (k + 1) c1 (cs ++ [z]) := by
  have h' := h.alloc lit
  have hr := own_off h'.own h'.res (by decide)
  have hs := own_off h'.own h'.non (by decide)
  rw [ownBlock_slice] at hr hs
  have ne : ∀ {q : Nat}, (C.map Addr.block = none ∨ C.map Addr.block ≠ some q) → some q ≠ C.map Addr.block := fun h e => by
    rcases h with h | h
    · rw [h] at e; cases e
    · exact h e.symm
  exact ⟨(hg.block _ (blk_in h'.res) (ne hr)).trans h'.res, (hg.block _ (blk_in h'.non) (ne hs)).trans h'.non, by rw [u32s_snoc]; exact ho, h'.b.grown hg h'.b.size (fun q hq => own_from h'.own q hq)⟩
end
theorem rg_start (w : World) : RG w ((w.alloc (.cells #[.bool false, .int .i64 0, .int .u16 0, .int .u32 0, .int .u32 0, .slice none 0 0, .bool false, .int .u16 0, .slice none 0 0, .slice none 0 0, .int .i64 0] 39)).alloc (.cells #[.bool false, .int .i64 0, .int .u16 0, .int .u32 0, .int .u32 0, .slice none 0 0, .bool false, .int .u16 0, .slice none 0 0, .slice none 0 0, .int .i64 0] 39)) #[.bool false, .int .i64 0, .int .u16 0, .int .u32 0, .int .u32 0, .slice none 0 0, .bool false, .int .u16 0, .slice none 0 0, .slice none 0 0, .int .i64 0] none 0 0 [] := by
  have h2 := heap_alloc_new (w.alloc (.cells #[.bool false, .int .i64 0, .int .u16 0, .int .u32 0, .int .u32 0, .slice none 0 0, .bool false, .int .u16 0, .slice none 0 0, .slice none 0 0, .int .i64 0] 39)) (.cells #[.bool false, .int .i64 0, .int .u16 0, .int .u32 0, .int .u32 0, .slice none 0 0, .bool false, .int .u16 0, .slice none 0 0, .slice none 0 0, .int .i64 0] 39)
  rw [show (w.alloc (.cells #[.bool false, .int .i64 0, .int .u16 0, .int .u32 0, .int .u32 0, .slice none 0 0, .bool false, .int .u16 0, .slice none 0 0, .slice none 0 0, .int .i64 0] 39)).heap.size = w.heap.size + 1 by simp] at h2
  exact ⟨blk_below (blk_alloc w _) ((Below.refl _ _).alloc (Nat.le_refl _) _), h2, World.ownsRow_nil _ _ _ _, ((Below.refl _ _).alloc (Nat.le_refl _) _).alloc (by simp) _⟩
theorem eleven_1 {w : World} {g : Nat} {t : TypeId} {a0 a1 a2 a3 a4 a5 a6 a7 a8 a9 a10 : Value} (h : w.heap[g]? = some (.cells #[a0, a1, a2, a3, a4, a5, a6, a7, a8, a9, a10] t (0, 0))) (v1 : Value) :
    ((w).cell? ⟨g, 1, none⟩ = some a1 ∧ (w).frozen? ⟨g, 1, none⟩ = false) ∧ ((w).setCell ⟨g, 1, none⟩ v1).heap[g]? = some (.cells #[a0, v1, a2, a3, a4, a5, a6, a7, a8, a9, a10] t (0, 0)) ∧ World.grownBy w ((w).setCell ⟨g, 1, none⟩ v1) (some g) := by
  obtain ⟨c1, h1, g1⟩ := cell_set h 1 a1 v1 rfl
  exact ⟨c1, h1, g1⟩
theorem eleven_0 {w : World} {g : Nat} {t : TypeId} {a0 a1 a2 a3 a4 a5 a6 a7 a8 a9 a10 : Value} (h : w.heap[g]? = some (.cells #[a0, a1, a2, a3, a4, a5, a6, a7, a8, a9, a10] t (0, 0))) (v0 : Value) :
    ((w).cell? ⟨g, 0, none⟩ = some a0 ∧ (w).frozen? ⟨g, 0, none⟩ = false) ∧ ((w).setCell ⟨g, 0, none⟩ v0).heap[g]? = some (.cells #[v0, a1, a2, a3, a4, a5, a6, a7, a8, a9, a10] t (0, 0)) ∧ World.grownBy w ((w).setCell ⟨g, 0, none⟩ v0) (some g) := by
  obtain ⟨c0, h0, g0⟩ := cell_set h 0 a0 v0 rfl
  exact ⟨c0, h0, g0⟩
theorem eleven_2 {w : World} {g : Nat} {t : TypeId} {a0 a1 a2 a3 a4 a5 a6 a7 a8 a9 a10 : Value} (h : w.heap[g]? = some (.cells #[a0, a1, a2, a3, a4, a5, a6, a7, a8, a9, a10] t (0, 0))) (v2 : Value) :
    ((w).cell? ⟨g, 2, none⟩ = some a2 ∧ (w).frozen? ⟨g, 2, none⟩ = false) ∧ ((w).setCell ⟨g, 2, none⟩ v2).heap[g]? = some (.cells #[a0, a1, v2, a3, a4, a5, a6, a7, a8, a9, a10] t (0, 0)) ∧ World.grownBy w ((w).setCell ⟨g, 2, none⟩ v2) (some g) := by
  obtain ⟨c2, h2, g2⟩ := cell_set h 2 a2 v2 rfl
  exact ⟨c2, h2, g2⟩
theorem eleven_3 {w : World} {g : Nat} {t : TypeId} {a0 a1 a2 a3 a4 a5 a6 a7 a8 a9 a10 : Value} (h : w.heap[g]? = some (.cells #[a0, a1, a2, a3, a4, a5, a6, a7, a8, a9, a10] t (0, 0))) (v3 : Value) :
    ((w).cell? ⟨g, 3, none⟩ = some a3 ∧ (w).frozen? ⟨g, 3, none⟩ = false) ∧ ((w).setCell ⟨g, 3, none⟩ v3).heap[g]? = some (.cells #[a0, a1, a2, v3, a4, a5, a6, a7, a8, a9, a10] t (0, 0)) ∧ World.grownBy w ((w).setCell ⟨g, 3, none⟩ v3) (some g) := by
  obtain ⟨c3, h3, g3⟩ := cell_set h 3 a3 v3 rfl
  exact ⟨c3, h3, g3⟩
theorem eleven_4 {w : World} {g : Nat} {t : TypeId} {a0 a1 a2 a3 a4 a5 a6 a7 a8 a9 a10 : Value} (h : w.heap[g]? = some (.cells #[a0, a1, a2, a3, a4, a5, a6, a7, a8, a9, a10] t (0, 0))) (v4 : Value) :
    ((w).cell? ⟨g, 4, none⟩ = some a4 ∧ (w).frozen? ⟨g, 4, none⟩ = false) ∧ ((w).setCell ⟨g, 4, none⟩ v4).heap[g]? = some (.cells #[a0, a1, a2, a3, v4, a5, a6, a7, a8, a9, a10] t (0, 0)) ∧ World.grownBy w ((w).setCell ⟨g, 4, none⟩ v4) (some g) := by
  obtain ⟨c4, h4, g4⟩ := cell_set h 4 a4 v4 rfl
  exact ⟨c4, h4, g4⟩
theorem eleven_6 {w : World} {g : Nat} {t : TypeId} {a0 a1 a2 a3 a4 a5 a6 a7 a8 a9 a10 : Value} (h : w.heap[g]? = some (.cells #[a0, a1, a2, a3, a4, a5, a6, a7, a8, a9, a10] t (0, 0))) (v6 : Value) :
    ((w).cell? ⟨g, 6, none⟩ = some a6 ∧ (w).frozen? ⟨g, 6, none⟩ = false) ∧ ((w).setCell ⟨g, 6, none⟩ v6).heap[g]? = some (.cells #[a0, a1, a2, a3, a4, a5, v6, a7, a8, a9, a10] t (0, 0)) ∧ World.grownBy w ((w).setCell ⟨g, 6, none⟩ v6) (some g) := by
  obtain ⟨c6, h6, g6⟩ := cell_set h 6 a6 v6 rfl
  exact ⟨c6, h6, g6⟩
theorem eleven_7 {w : World} {g : Nat} {t : TypeId} {a0 a1 a2 a3 a4 a5 a6 a7 a8 a9 a10 : Value} (h : w.heap[g]? = some (.cells #[a0, a1, a2, a3, a4, a5, a6, a7, a8, a9, a10] t (0, 0))) (v7 : Value) :
    ((w).cell? ⟨g, 7, none⟩ = some a7 ∧ (w).frozen? ⟨g, 7, none⟩ = false) ∧ ((w).setCell ⟨g, 7, none⟩ v7).heap[g]? = some (.cells #[a0, a1, a2, a3, a4, a5, a6, v7, a8, a9, a10] t (0, 0)) ∧ World.grownBy w ((w).setCell ⟨g, 7, none⟩ v7) (some g) := by
  obtain ⟨c7, h7, g7⟩ := cell_set h 7 a7 v7 rfl
  exact ⟨c7, h7, g7⟩
theorem eleven_8 {w : World} {g : Nat} {t : TypeId} {a0 a1 a2 a3 a4 a5 a6 a7 a8 a9 a10 : Value} (h : w.heap[g]? = some (.cells #[a0, a1, a2, a3, a4, a5, a6, a7, a8, a9, a10] t (0, 0))) (v8 : Value) :
    ((w).cell? ⟨g, 8, none⟩ = some a8 ∧ (w).frozen? ⟨g, 8, none⟩ = false) ∧ ((w).setCell ⟨g, 8, none⟩ v8).heap[g]? = some (.cells #[a0, a1, a2, a3, a4, a5, a6, a7, v8, a9, a10] t (0, 0)) ∧ World.grownBy w ((w).setCell ⟨g, 8, none⟩ v8) (some g) := by
  obtain ⟨c8, h8, g8⟩ := cell_set h 8 a8 v8 rfl
  exact ⟨c8, h8, g8⟩

set_option maxRecDepth 20000 in
set_option maxHeartbeats 4000000 in
theorem rget_5 (A : Option Addr) (n c : Nat) (l : List UInt8) (w : World) (h : Bts w A n c l) (h5 : 512 < l.length) :
    Calls Try.prog 22 #[.slice A n c] w fun e w' => RGpost l w e w' := by
  have HB := Lib.hid h
  have hn := h.len
  have hnc := h.nc
  have g : decide ((512 : Int) < (n : Int)) = true := by simp; omega
  have hE : lookE l = 5 := by unfold lookE; rw [if_pos (by omega)]
  have HE := Lib.hid hE
  clear hE
  clear h
  go_enter Try.func22, Try.ntmps22
  go_wp2_with (refine wpList_store_blk rfl 39 (.tmp 2) (.tmp 18) rfl w.heap.size _ #[.bool false, .int .i64 0, .int .u16 0, .int .u32 0, .int .u32 0, .slice none 0 0, .bool false, .int .u16 0, .slice none 0 0, .slice none 0 0, .int .i64 0] _ rfl rfl (rg_start w).res rfl (by kernel_rfl) (by simp [Value.oneCell']) ?_; intro w5 hi5 hg5; obtain ⟨r0, r1, r2, r3, r4, r5, r6, r7, r8, r9, r10⟩ := eleven_cells hi5)
  all_goals exact bodyPost_ret (v := .tuple #[.agg #[.bool false, .int .i64 0, .int .u16 0, .int .u32 0, .int .u32 0, .slice none 0 0, .bool false, .int .u16 0, .slice none 0 0, .slice none 0 0, .int .i64 0], .int .i64 0, .int .i64 0, .int .i64 5]) (by simp [results, Try.results22, go_sem, r0, r1, r2, r3, r4, r5, r6, r7, r8, r9, r10]) rfl (rg_err 5 (by rw [HE.out]; rfl) (by rw [HE.out]; decide) ((rg_start w).item hi5 hg5).b)
set_option maxRecDepth 20000 in
set_option maxHeartbeats 4000000 in
theorem rget_2 (A : Option Addr) (n c : Nat) (l : List UInt8) (w : World) (h : Bts w A n c l) (h5 : l.length < 12) :
    Calls Try.prog 22 #[.slice A n c] w fun e w' => RGpost l w e w' := by
  have HB := Lib.hid h
  have hn := h.len
  have hnc := h.nc
  have g : decide ((512 : Int) < (n : Int)) = false := by simp; omega
  have g2 : decide ((n : Int) < 12) = true := by simp; omega
  have hE : lookE l = 2 := by unfold lookE; rw [if_neg (by omega), if_pos (by omega)]
  have HE := Lib.hid hE
  clear hE
  clear h
  go_enter Try.func22, Try.ntmps22
  go_wp2_with (refine wpList_store_blk rfl 39 (.tmp 2) (.tmp 23) rfl w.heap.size _ #[.bool false, .int .i64 0, .int .u16 0, .int .u32 0, .int .u32 0, .slice none 0 0, .bool false, .int .u16 0, .slice none 0 0, .slice none 0 0, .int .i64 0] _ rfl rfl (rg_start w).res rfl (by kernel_rfl) (by simp [Value.oneCell']) ?_; intro w5 hi5 hg5; obtain ⟨r0, r1, r2, r3, r4, r5, r6, r7, r8, r9, r10⟩ := eleven_cells hi5)
  all_goals exact bodyPost_ret (v := .tuple #[.agg #[.bool false, .int .i64 0, .int .u16 0, .int .u32 0, .int .u32 0, .slice none 0 0, .bool false, .int .u16 0, .slice none 0 0, .slice none 0 0, .int .i64 0], .int .i64 0, .int .i64 0, .int .i64 2]) (by simp [results, Try.results22, go_sem, r0, r1, r2, r3, r4, r5, r6, r7, r8, r9, r10]) rfl (rg_err 2 (by rw [HE.out]; rfl) (by rw [HE.out]; decide) ((rg_start w).item hi5 hg5).b)
set_option maxRecDepth 20000 in
set_option maxHeartbeats 4000000 in
theorem rget_1 (A : Option Addr) (n c : Nat) (l : List UInt8) (w : World) (h : Bts w A n c l) (h5 : l.length ≤ 512) (h12 : 12 ≤ l.length) (hv : byteN l 0 / 64 ≠ 2) :
    Calls Try.prog 22 #[.slice A n c] w fun e w' => RGpost l w e w' := by
  have HB := Lib.hid h
  have hn := h.len
  have hnc := h.nc
  have g : decide ((512 : Int) < (n : Int)) = false := by simp; omega
  have g2 : decide ((n : Int) < 12) = false := by simp; omega
  have hE : lookE l = 1 := by unfold lookE; rw [if_neg (by omega), if_neg (by omega), if_pos hv]
  have HE := Lib.hid hE
  clear hE
  obtain ⟨ad, rfl, hc0⟩ := bts_byte h (k := 0) (by omega)
  obtain ⟨ad', hA, hc1⟩ := bts_byte h (k := 1) (by omega)
  injection hA with hA; subst hA
  rw [add_zero'] at hc0
  have d0 := below_cell (rg_start w).b hc0
  have d1 : ((w.alloc (.cells #[.bool false, .int .i64 0, .int .u16 0, .int .u32 0, .int .u32 0, .slice none 0 0, .bool false, .int .u16 0, .slice none 0 0, .slice none 0 0, .int .i64 0] 39)).alloc (.cells #[.bool false, .int .i64 0, .int .u16 0, .int .u32 0, .int .u32 0, .slice none 0 0, .bool false, .int .u16 0, .slice none 0 0, .slice none 0 0, .int .i64 0] 39)).cell? ⟨ad.block, ad.off + 1, none⟩ = some (.int .u8 (byteN l 1)) := below_cell (rg_start w).b hc1
  have n0 : 0 < n := by omega
  have n1 : 1 < n := by omega
  have n1' : (1 : Int) < n := by omega
  have hy0 := byteN_lt l 0
  have hy1 := byteN_lt l 1
  have gv : (decide (((byteN l 0 : Nat) : Int) < 128) || decide ((191 : Int) < ((byteN l 0 : Nat) : Int))) = true := by simp; omega
  have hv2 : ((byteN l 0 : Nat) : Int) < 128 ∨ (191 : Int) < ((byteN l 0 : Nat) : Int) := by omega
  clear h
  go_enter Try.func22, Try.ntmps22
  go_wp2_with (refine wpList_store_blk rfl 39 (.tmp 2) (.tmp 35) rfl w.heap.size _ #[.bool false, .int .i64 0, .int .u16 0, .int .u32 0, .int .u32 0, .slice none 0 0, .bool false, .int .u16 0, .slice none 0 0, .slice none 0 0, .int .i64 0] _ rfl rfl (rg_start w).res rfl (by kernel_rfl) (by simp [Value.oneCell']) ?_; intro w5 hi5 hg5; obtain ⟨r0, r1, r2, r3, r4, r5, r6, r7, r8, r9, r10⟩ := eleven_cells hi5)
  all_goals exact bodyPost_ret (v := .tuple #[.agg #[.bool false, .int .i64 0, .int .u16 0, .int .u32 0, .int .u32 0, .slice none 0 0, .bool false, .int .u16 0, .slice none 0 0, .slice none 0 0, .int .i64 0], .int .i64 0, .int .i64 0, .int .i64 1]) (by simp [results, Try.results22, go_sem, r0, r1, r2, r3, r4, r5, r6, r7, r8, r9, r10]) rfl (rg_err 1 (by rw [HE.out]; rfl) (by rw [HE.out]; decide) ((rg_start w).item hi5 hg5).b)
set_option maxRecDepth 20000 in
set_option maxHeartbeats 4000000 in
theorem rget_4 (A : Option Addr) (n c : Nat) (l : List UInt8) (w : World) (h : Bts w A n c l) (h5 : l.length ≤ 512) (h12 : 12 ≤ l.length) (hv : byteN l 0 / 64 = 2) (hf : fbB (byteN l 1) = true) :
    Calls Try.prog 22 #[.slice A n c] w fun e w' => RGpost l w e w' := by
  have HB := Lib.hid h
  have hn := h.len
  have hnc := h.nc
  have g : decide ((512 : Int) < (n : Int)) = false := by simp; omega
  have g2 : decide ((n : Int) < 12) = false := by simp; omega
  have hE : lookE l = 4 := by unfold lookE; rw [if_neg (by omega), if_neg (by omega), if_neg (by omega), if_pos hf]
  have HE := Lib.hid hE
  clear hE
  obtain ⟨ad, rfl, hc0⟩ := bts_byte h (k := 0) (by omega)
  obtain ⟨ad', hA, hc1⟩ := bts_byte h (k := 1) (by omega)
  injection hA with hA; subst hA
  rw [add_zero'] at hc0
  have d0 := below_cell (rg_start w).b hc0
  have d1 : ((w.alloc (.cells #[.bool false, .int .i64 0, .int .u16 0, .int .u32 0, .int .u32 0, .slice none 0 0, .bool false, .int .u16 0, .slice none 0 0, .slice none 0 0, .int .i64 0] 39)).alloc (.cells #[.bool false, .int .i64 0, .int .u16 0, .int .u32 0, .int .u32 0, .slice none 0 0, .bool false, .int .u16 0, .slice none 0 0, .slice none 0 0, .int .i64 0] 39)).cell? ⟨ad.block, ad.off + 1, none⟩ = some (.int .u8 (byteN l 1)) := below_cell (rg_start w).b hc1
  have n0 : 0 < n := by omega
  have n1 : 1 < n := by omega
  have n1' : (1 : Int) < n := by omega
  have hy0 := byteN_lt l 0
  have hy1 := byteN_lt l 1
  have v1 : decide (((byteN l 0 : Nat) : Int) < 128) = false := by simp; omega
  have v2 : decide ((191 : Int) < ((byteN l 0 : Nat) : Int)) = false := by simp; omega
  have f1 : decide ((192 : Int) ≤ ((byteN l 1 : Nat) : Int)) = true := by simp; unfold fbB at hf; simp at hf; omega
  have f2 : decide (((byteN l 1 : Nat) : Int) ≤ 223) = true := by simp; unfold fbB at hf; simp at hf; omega
  clear hf
  clear h
  go_enter Try.func22, Try.ntmps22
  go_wp2_with (refine wpList_store_blk rfl 39 (.tmp 2) (.tmp 47) rfl w.heap.size _ #[.bool false, .int .i64 0, .int .u16 0, .int .u32 0, .int .u32 0, .slice none 0 0, .bool false, .int .u16 0, .slice none 0 0, .slice none 0 0, .int .i64 0] _ rfl rfl (rg_start w).res rfl (by kernel_rfl) (by simp [Value.oneCell']) ?_; intro w5 hi5 hg5; obtain ⟨r0, r1, r2, r3, r4, r5, r6, r7, r8, r9, r10⟩ := eleven_cells hi5)
  all_goals exact bodyPost_ret (v := .tuple #[.agg #[.bool false, .int .i64 0, .int .u16 0, .int .u32 0, .int .u32 0, .slice none 0 0, .bool false, .int .u16 0, .slice none 0 0, .slice none 0 0, .int .i64 0], .int .i64 0, .int .i64 0, .int .i64 4]) (by simp [results, Try.results22, go_sem, r0, r1, r2, r3, r4, r5, r6, r7, r8, r9, r10]) rfl (rg_err 4 (by rw [HE.out]; rfl) (by rw [HE.out]; decide) ((rg_start w).item hi5 hg5).b)
end Go.Proofs.Ytknlkmencdlpcaa

namespace Go.Proofs.Ytknlkmencdlpcaa
set_option linter.unusedVariables false
set_option linter.unusedSimpArgs false
open Go Go.RowKit

set_option maxRecDepth 20000 in
set_option maxHeartbeats 8000000 in
theorem rget_main (A : Option Addr) (n c : Nat) (l : List UInt8) (w : World) (h : Bts w A n c l) (h5 : l.length ≤ 512) (h12 : 12 ≤ l.length) (hv : byteN l 0 / 64 = 2) (hf : fbB (byteN l 1) = false) :
    Calls Try.prog 22 #[.slice A n c] w fun e w' => RGpost l w e w' := by
  have HB := Lib.hid h
  have hn := h.len
  have hnc := h.nc
  have hcm := h.cm
  unfold maxLen at hcm
  rw [hn] at h5 h12
  obtain ⟨ad, rfl, hc0⟩ := bts_byte h (k := 0) (by omega)
  obtain ⟨ad', hA, hc1⟩ := bts_byte h (k := 1) (by omega)
  injection hA with hA; subst hA
  rw [add_zero'] at hc0
  have hy0 := byteN_lt l 0
  have hy1 := byteN_lt l 1
  have n0 : 0 < n := by omega
  have n1 : 1 < n := by omega
  have n1' : (1 : Int) < n := by omega
  have g : decide ((512 : Int) < (n : Int)) = false := by simp; omega
  have g2 : decide ((n : Int) < 12) = false := by simp; omega
  have v1 : decide (((byteN l 0 : Nat) : Int) < 128) = false := by simp; omega
  have v2 : decide ((191 : Int) < ((byteN l 0 : Nat) : Int)) = false := by simp; omega
  have hf' : byteN l 1 < 192 ∨ 223 < byteN l 1 := by unfold fbB at hf; simp at hf; omega
  have HFB := Lib.hid hf
  have HC0 := Lib.hid hc0
  have HC1 : Hid (w.cell? ⟨ad.block, ad.off + 1, none⟩ = some (.int .u8 (byteN l 1))) := hc1
  have HV := Lib.hid hv
  have HF := Lib.hid hf'
  obtain ⟨mr, hmr⟩ : ∃ mr, decide ((128 : Int) ≤ ((byteN l 1 : Nat) : Int)) = mr := ⟨_, rfl⟩
  obtain ⟨ty, hty⟩ : ∃ ty : Nat, ty = byteN l 1 % 128 := ⟨_, rfl⟩
  have b127 : ((byteN l 1 : Nat) : Int) % 128 = (ty : Int) := by omega
  have hty2 : ty < 128 := by omega
  have HD : Hid (decide (128 ≤ byteN l 1) = mr ∧ byteN l 1 % 128 = ty) := ⟨by rw [← hmr]; congr 1; simp; omega, hty.symm⟩
  have b128 : decide ((128 : Int) ≤ ((byteN l 1 : Nat) : Int)) = mr := hmr
  obtain ⟨sq, hsq⟩ : ∃ sq, getN l (2 : Int) (2 : Int) = sq := ⟨_, rfl⟩
  obtain ⟨tm, htm⟩ : ∃ tm, getN l (4 : Int) (4 : Int) = tm := ⟨_, rfl⟩
  obtain ⟨ss, hss⟩ : ∃ ss, getN l (8 : Int) (4 : Int) = ss := ⟨_, rfl⟩
  have hsq2 : sq < 65536 := by rw [← hsq]; exact getN_ltS l _ 2
  have htm2 : tm < 4294967296 := by rw [← htm]; exact getN_ltS l _ 4
  have hss2 : ss < 4294967296 := by rw [← hss]; exact getN_ltS l _ 4
  have HN3 := Lib.hid (And.intro hsq (And.intro htm hss))
  obtain ⟨nc, hncs⟩ : ∃ nc, nCs l = nc := ⟨_, rfl⟩
  have hb16 : ((byteN l 0 : Nat) : Int) % 16 = (nc : Int) := by rw [← hncs]; unfold nCs; omega
  have hnc15 : nc ≤ 15 := by have := nCs_lt l; omega
  have HNC := Lib.hid hncs
  obtain ⟨xb, hxb⟩ : ∃ xb, exB l = xb := ⟨_, rfl⟩
  have HXB := Lib.hid hxb
  obtain ⟨pb, hpb⟩ : ∃ pb, decide (byteN l 0 / 32 % 2 = 1) = pb := ⟨_, rfl⟩
  have HPB := Lib.hid hpb
  have e16 : (((byteN l 0 : Nat) : Int) / 16 % 2 == 1) = xb := by rw [← hxb]; unfold exB; rw [Bool.eq_iff_iff]; simp; omega
  have e32 : (((byteN l 0 : Nat) : Int) / 32 % 2 == 1) = pb := by rw [← hpb, Bool.eq_iff_iff]; simp; omega
  have HE16 := Lib.hid e16
  have HE32 := Lib.hid e32
  have HB128 := Lib.hid b128
  clear h hc0 hc1 hmr hty hsq htm hss hncs hxb hpb hv hf hf' e16 e32 b128
  have HR0 := Lib.hid (rg_start w)
  go_enter Try.func22, Try.ntmps22
  go_upto_region 2 with fail
  generalize (w.alloc (.cells #[.bool false, .int .i64 0, .int .u16 0, .int .u32 0, .int .u32 0, .slice none 0 0, .bool false, .int .u16 0, .slice none 0 0, .slice none 0 0, .int .i64 0] 39)).alloc (.cells #[.bool false, .int .i64 0, .int .u16 0, .int .u32 0, .int .u32 0, .slice none 0 0, .bool false, .int .u16 0, .slice none 0 0, .slice none 0 0, .int .i64 0] 39) = w2 at *
  have d0 := below_cell HR0.out.b HC0.out
  have d1 := below_cell HR0.out.b HC1.out
  go_upto_region 8 with fail
  go_cut [36] from 37 to 46 (fun s36 wx => s36 = .bool false ∧ wx = w2)
  case first =>
    rcases HF.out with hlt | hlt
    · have u1 : decide ((192 : Int) ≤ ((byteN l 1 : Nat) : Int)) = false := by simp; omega
      go_wp2_with fail
      go_meet
      exact ⟨rfl, rfl⟩
    · have u2 : decide (((byteN l 1 : Nat) : Int) ≤ 223) = false := by simp; omega
      go_wp2_with fail
      go_meet
      exact ⟨by first | rfl | simp, rfl⟩
  case rest =>
  obtain ⟨rfl, hw⟩ := hcut
  replace hw := hw.symm
  subst hw
  obtain ⟨⟨p1, f1⟩, hi1, hg1⟩ := eleven_1 HR0.out.res (.int .i64 ty)
  have HR1 := Lib.hid (HR0.out.item hi1 hg1)
  have d1' := below_cell HR1.out.b HC1.out
  obtain ⟨⟨p0, f0⟩, hi0, hg0⟩ := eleven_0 hi1 (.bool mr)
  have HR2 := Lib.hid (HR1.out.item hi0 hg0)
  obtain ⟨⟨p2, f2⟩, hi2, hg2⟩ := eleven_2 hi0 (.int .u16 sq)
  have HR3 := Lib.hid (HR2.out.item hi2 hg2)
  obtain ⟨⟨p3, f3⟩, hi3, hg3⟩ := eleven_3 hi2 (.int .u32 tm)
  have HR4 := Lib.hid (HR3.out.item hi3 hg3)
  obtain ⟨⟨p4, f4⟩, hi4, hg4⟩ := eleven_4 hi3 (.int .u32 ss)
  have HR5 := Lib.hid (HR4.out.item hi4 hg4)
  have c0 := below_cell HR5.out.b HC0.out
  have b128 := HB128.out
  clear hi0 hi1 hi2 hi3 hi4 hg0 hg1 hg2 hg3 hg4
  generalize hW : ((((w2.setCell ⟨w.heap.size, 1, none⟩ (.int .i64 ty)).setCell ⟨w.heap.size, 0, none⟩ (.bool mr)).setCell ⟨w.heap.size, 2, none⟩ (.int .u16 sq)).setCell ⟨w.heap.size, 3, none⟩ (.int .u32 tm)).setCell ⟨w.heap.size, 4, none⟩ (.int .u32 ss) = w5 at *
  go_wp2_with (first
    | (go_at_call 83; (with_reducible refine (rread_v (some ad) n c l 2 2 _ (HB.out.below HR2.out.b) (by omega) (by omega) sq HN3.out.1).mono ?_); rintro e w6 ⟨rfl, rfl⟩)
    | (go_at_call 83; (with_reducible refine (rread_v (some ad) n c l 4 4 _ (HB.out.below HR3.out.b) (by omega) (by omega) tm HN3.out.2.1).mono ?_); rintro e w6 ⟨rfl, rfl⟩)
    | (go_at_call 83; (with_reducible refine (rread_v (some ad) n c l 8 4 _ (HB.out.below HR4.out.b) (by omega) (by omega) ss HN3.out.2.2).mono ?_); rintro e w6 ⟨rfl, rfl⟩))
  have HS5 : Hid (RG w w5 #[.bool mr, .int .i64 ty, .int .u16 sq, .int .u32 tm, .int .u32 ss, .slice none 0 0, .bool false, .int .u16 0, .slice none 0 0, .slice none 0 0, .int .i64 0] none 0 0 (csL l 0)) := HR5
  clear p0 p1 p2 p3 p4 f0 f1 f2 f3 f4 d0 d1 d1' c0 v1 v2 g g2 b128 b127 HR0 HR1 HR2 HR3 HR4 HR5 hW
  go_loopw [7, 8] (fun s7 s8 wr => ∃ (k a r : Nat) (C : Option Addr) (cC : Nat), s7 = .int .i64 a ∧ s8 = .int .i64 r ∧ a = 12 + 4 * k ∧ r + k = nc ∧ a ≤ n ∧ Hid (RG w wr #[.bool mr, .int .i64 ty, .int .u16 sq, .int .u32 tm, .int .u32 ss, .slice C k cC, .bool false, .int .u16 0, .slice none 0 0, .slice none 0 0, .int .i64 0] C k cC (csL l k))) (fun _ s8 _ => (intOf s8).toNat)
  case atStart => exact ⟨0, 12, nc, none, 0, rfl, rfl, rfl, rfl, by omega, HS5⟩
  case round =>
    obtain ⟨k, a, r, C, cC, rfl, rfl, hak, hrk, han, HRk⟩ := hrel
    clear HS5 hb16
    by_cases hr : 0 < r
    · have hrI : (0 : Int) < (r : Int) := by omega
      obtain ⟨a', ha'⟩ : ∃ a', a + 4 = a' := ⟨_, rfl⟩
      have haI : (a : Int) + 4 = (a' : Int) := by omega
      obtain ⟨r', hr'⟩ : ∃ r', r = r' + 1 := ⟨r - 1, by omega⟩
      have hrI1 : (r : Int) - 1 = (r' : Int) := by omega
      have ha5 : a ≤ 600 := by omega
      have hr15 : r' ≤ 15 := by omega
      by_cases hin : a' ≤ n
      · have gin : decide ((n : Int) < (a' : Int)) = false := by simp; omega
        have gin2 : decide (n < a') = false := by simp; omega
        obtain ⟨z, hx⟩ : ∃ z, getN l (a : Int) (4 : Int) = z := ⟨_, rfl⟩
        have hz2 : z < 4294967296 := by rw [← hx]; exact getN_ltS l _ 4
        have HX := Lib.hid hx
        have HS : Hid (csL l (k + 1) = csL l k ++ [z]) := by show _ = _; rw [csL_succ, ← hx, hak]
        have hk16 : k ≤ 15 := by omega
        have HAK := Lib.hid (And.intro hak (And.intro hrk (And.intro ha' hr')))
        clear hx hak hrk ha' hr'
        go_wp2_with fail
        refine region_planA (calmB_sound _) (.fork [0, 2, 3] (.check [4] 5 (.leaf [5, 1, 6, 7, 8, 9])) (.leaf [1, 4, 5, 6, 7, 8, 9])) (by kernel_rfl) (by kernel_rfl) (by kernel_rfl) ?_
        have HP9 := Lib.hid HRk.out.drew
        generalize wr.drew = w9 at *
        obtain ⟨x0, x1, x2, x3, x4, x5, x6, x7, x8, x9, x10⟩ := eleven_cells HP9.out.res
        refine wpPlan_fork fun P1 hP1 => ?_
        simp only [List.filterMap_cons, List.filterMap_nil, List.getElem?_toArray, List.getElem?_cons_succ, List.getElem?_cons_zero]
        change wpList _ _ _ [_, _, _] _ _
        go_wp2
        refine hP1 _ _ ?_ ?_
        · refine wpPlan_check fun P2 hP2 => ?_
          simp only [List.filterMap_cons, List.filterMap_nil, List.getElem?_toArray, List.getElem?_cons_succ, List.getElem?_cons_zero]
          change wpList _ _ _ [_] _ _
          go_wp2_with (first | (go_at_call 83; (with_reducible refine (rread_v (some ad) n c l (a : Int) 4 _ (HB.out.below HP9.out.b) (by omega) (by omega) z HX.out).mono ?_); rintro e w6 ⟨rfl, rfl⟩) | (at_builtin; refine wpList_app slU32R rfl _ _ rfl w.heap.size C k cC (u32s (csL l k)) rfl (HP9.out.alloc _).own (some ⟨_, 0, none⟩) 1 1 [.int .u32 z] rfl rfl (lit_u32 _ z) (by simp [Value.oneCell']) (by omega) (HP9.out.alloc _).b.size ?_; intro C1 c1 wa ho hg hA; have hGa := HP9.out.app hg ho; obtain ⟨⟨y5, e5⟩, hib, hgb⟩ := eleven_5 hGa.res (.slice C1 (k + 1) c1); have HGb := Lib.hid (hGa.item hib hgb); clear hGa ho hg hib hgb))
          refine hP2 _ _ (by first | exact fun _ => .inl ⟨_, _, _, _, rfl, rfl⟩ | exact fun _ => ⟨_, _, rfl⟩) ?_
          refine wpPlan_leaf fun P3 hP3 => ?_
          simp only [List.filterMap_cons, List.filterMap_nil, List.getElem?_toArray, List.getElem?_cons_succ, List.getElem?_cons_zero]
          change wpList _ _ _ [_, _, _, _, _, _] _ _
          go_wp2_with (first | (go_at_call 83; (with_reducible refine (rread_v (some ad) n c l (a : Int) 4 _ (HB.out.below HP9.out.b) (by omega) (by omega) z HX.out).mono ?_); rintro e w6 ⟨rfl, rfl⟩) | (at_builtin; refine wpList_app slU32R rfl _ _ rfl w.heap.size C k cC (u32s (csL l k)) rfl (HP9.out.alloc _).own (some ⟨_, 0, none⟩) 1 1 [.int .u32 z] rfl rfl (lit_u32 _ z) (by simp [Value.oneCell']) (by omega) (HP9.out.alloc _).b.size ?_; intro C1 c1 wa ho hg hA; have hGa := HP9.out.app hg ho; obtain ⟨⟨y5, e5⟩, hib, hgb⟩ := eleven_5 hGa.res (.slice C1 (k + 1) c1); have HGb := Lib.hid (hGa.item hib hgb); clear hGa ho hg hib hgb))
          go_roundw
          case rel => exact ⟨k + 1, a', r', C1, c1, rfl, rfl, by have := HAK.out; omega, by have := HAK.out; omega, hin, by rw [HS.out]; exact HGb⟩
          case measure => have := HAK.out; simp [intOf]; omega
        · refine wpPlan_leaf fun P4 hP4 => ?_
          simp only [List.filterMap_cons, List.filterMap_nil, List.getElem?_toArray, List.getElem?_cons_succ, List.getElem?_cons_zero]
          change wpList _ _ _ [_, _, _, _, _, _, _] _ _
          go_wp2_with (first | (go_at_call 83; (with_reducible refine (rread_v (some ad) n c l (a : Int) 4 _ (HB.out.below HP9.out.b) (by omega) (by omega) z HX.out).mono ?_); rintro e w6 ⟨rfl, rfl⟩) | (at_builtin; refine wpList_app slU32R rfl _ _ rfl w.heap.size C k cC (u32s (csL l k)) rfl (HP9.out.alloc _).own (some ⟨_, 0, none⟩) 1 1 [.int .u32 z] rfl rfl (lit_u32 _ z) (by simp [Value.oneCell']) (by omega) (HP9.out.alloc _).b.size ?_; intro C1 c1 wa ho hg hA; have hGa := HP9.out.app hg ho; obtain ⟨⟨y5, e5⟩, hib, hgb⟩ := eleven_5 hGa.res (.slice C1 (k + 1) c1); have HGb := Lib.hid (hGa.item hib hgb); clear hGa ho hg hib hgb))
          go_roundw
          case rel => exact ⟨k + 1, a', r', C1, c1, rfl, rfl, by have := HAK.out; omega, by have := HAK.out; omega, hin, by rw [HS.out]; exact HGb⟩
          case measure => have := HAK.out; simp [intOf]; omega
      · have gin : decide ((n : Int) < (a' : Int)) = true := by simp; omega
        have gin2 : decide (n < a') = true := by simp; omega
        have hE : lookE l = 2 := by
          have hfr : n < frmA l := by
            have q1 := at_le_ext l
            have q2 := ext_le_frm l
            have q3 : atP l = 12 + 4 * nCs l := rfl
            have q4 := HNC.out
            omega
          unfold lookE
          rw [HB.out.len, if_neg (by omega), if_neg (by omega), if_neg (by have := HV.out; omega), HFB.out, if_neg (by simp), if_pos hfr]
        have HE := Lib.hid hE
        clear hE hak hrk ha' hr'
        obtain ⟨z0, z1, z2, z3, z4, z5, z6, z7, z8, z9, z10⟩ := eleven_cells HRk.out.non
        go_wp2_with (refine wpList_store_blk rfl 39 (.tmp 2) (.tmp 85) rfl w.heap.size _ #[.bool false, .int .i64 0, .int .u16 0, .int .u32 0, .int .u32 0, .slice none 0 0, .bool false, .int .u16 0, .slice none 0 0, .slice none 0 0, .int .i64 0] _ rfl rfl HRk.out.res rfl (by kernel_rfl) (by simp [Value.oneCell']) ?_; intro w5 hi5 hg5; obtain ⟨r0, r1, r2, r3, r4, r5, r6, r7, r8, r9, r10⟩ := eleven_cells hi5)
        exact bodyPost_ret (v := .tuple #[.agg #[.bool false, .int .i64 0, .int .u16 0, .int .u32 0, .int .u32 0, .slice none 0 0, .bool false, .int .u16 0, .slice none 0 0, .slice none 0 0, .int .i64 0], .int .i64 0, .int .i64 0, .int .i64 2]) (by simp [results, Try.results22, go_sem, r0, r1, r2, r3, r4, r5, r6, r7, r8, r9, r10]) rfl (rg_err 2 (by rw [HE.out]; rfl) (by rw [HE.out]; decide) (HRk.out.item hi5 hg5).b)
    · have hr0 : r = 0 := by omega
      subst hr0
      have hkn : k = nc := by omega
      subst hkn
      have haP : a = atP l := by have q3 : atP l = 12 + 4 * nCs l := rfl; have q4 := HNC.out; omega
      have HA := Lib.hid haP
      clear haP hak hrk hr
      have cb := below_cell HRk.out.b HC0.out
      have e16 := HE16.out
      go_upto_if 102 with fail
      clear e16 cb
      go_cut [7, 9] from 103 to 142 (fun s7 s9 wx => ∃ E ec, s7 = .int .i64 (frmA l : Nat) ∧ Hid (frmA l ≤ n) ∧ Hid (RG w wx #[.bool mr, .int .i64 ty, .int .u16 sq, .int .u32 tm, .int .u32 ss, .slice C k cC, .bool xb, .int .u16 (pfG l), .slice E (exG l).length ec, .slice none 0 0, .int .i64 0] C k cC (csL l k)) ∧ Hid (wx.ownsRow w.heap.size 5 1 (.slice E (exG l).length ec) (exG l).length (bys (exG l))))
      case first =>
        cases xb
        · have hx : exB l = false := HXB.out
          have hfr : frmA l = a := by unfold frmA; rw [hx, if_neg (by simp), HA.out]
          have HFr := Lib.hid hfr
          have HPE : Hid (pfG l = 0 ∧ exG l = []) := ⟨by unfold pfG; rw [hx]; rfl, by unfold exG; rw [hx]; rfl⟩
          clear hx hfr
          go_wp2_with fail
          go_meet
          exact ⟨none, 0, by rw [HFr.out], hid_of (by rw [HFr.out]; exact han), by rw [HPE.out.1, HPE.out.2]; exact HRk, by rw [HPE.out.2]; exact Lib.hid (World.ownsRow_nil _ _ _ _)⟩
        · have hx : exB l = true := HXB.out
          obtain ⟨a4, ha4⟩ : ∃ a4, a + 4 = a4 := ⟨_, rfl⟩
          have haI : (a : Int) + 4 = (a4 : Int) := by omega
          have hax : extA l = a4 := by unfold extA; rw [hx, if_pos rfl, ← HA.out, ha4]
          have hE : n < frmA l → lookE l = 2 := fun hfr => by
            unfold lookE
            rw [HB.out.len, if_neg (by omega), if_neg (by omega), if_neg (by have := HV.out; omega), HFB.out, if_neg (by simp), if_pos hfr]
          obtain ⟨x, hxx⟩ : ∃ x, getN l ((a + 2 : Nat) : Int) (2 : Int) = x := ⟨_, rfl⟩
          have hx2 : x < 65536 := by rw [← hxx]; exact getN_ltS l _ 2
          obtain ⟨m, hm⟩ : ∃ m, 4 * x = m := ⟨_, rfl⟩
          obtain ⟨fr, hfr0⟩ : ∃ fr, a4 + m = fr := ⟨_, rfl⟩
          have hfr : frmA l = fr := by unfold frmA; rw [hx, if_pos rfl, ← HA.out, hxx]; omega
          have hfa : a4 ≤ fr := by omega
          by_cases hin : n < a4
          · have g1 : decide ((n : Int) < (a4 : Int)) = true := by simp; omega
            have g1' : decide (n < a4) = true := by simp; omega
            have HE := Lib.hid (hE (by omega))
            clear hE hx ha4 hax hxx hm hfr0 hfr
            obtain ⟨z0, z1, z2, z3, z4, z5, z6, z7, z8, z9, z10⟩ := eleven_cells HRk.out.non
            go_wp2_with (refine wpList_store_blk rfl 39 (.tmp 2) (.tmp 108) rfl w.heap.size _ #[.bool false, .int .i64 0, .int .u16 0, .int .u32 0, .int .u32 0, .slice none 0 0, .bool false, .int .u16 0, .slice none 0 0, .slice none 0 0, .int .i64 0] _ rfl rfl HRk.out.res rfl (by kernel_rfl) (by simp [Value.oneCell']) ?_; intro w5 hi5 hg5; obtain ⟨r0, r1, r2, r3, r4, r5, r6, r7, r8, r9, r10⟩ := eleven_cells hi5)
            exact bodyPost_ret (v := .tuple #[.agg #[.bool false, .int .i64 0, .int .u16 0, .int .u32 0, .int .u32 0, .slice none 0 0, .bool false, .int .u16 0, .slice none 0 0, .slice none 0 0, .int .i64 0], .int .i64 0, .int .i64 0, .int .i64 2]) (by simp [results, Try.results22, go_sem, r0, r1, r2, r3, r4, r5, r6, r7, r8, r9, r10]) rfl (rg_err 2 (by rw [HE.out]; rfl) (by rw [HE.out]; decide) (HRk.out.item hi5 hg5).b)
          · have g1 : decide ((n : Int) < (a4 : Int)) = false := by simp; omega
            have g1' : decide (n < a4) = false := by simp; omega
            obtain ⟨a2, ha2⟩ : ∃ a2, a + 2 = a2 := ⟨_, rfl⟩
            have ha2I : (a : Int) + 2 = (a2 : Int) := by omega
            have hmI : (4 : Int) * (x : Int) = (m : Int) := by omega
            have hfrI : (a4 : Int) + (m : Int) = (fr : Int) := by omega
            rw [ha2] at hxx
            have HX := Lib.hid hxx
            have hm9 : m ≤ 262144 := by omega
            have ha9 : a4 ≤ 600 ∧ a ≤ 600 ∧ a2 ≤ 600 := by omega
            by_cases hin2 : n < fr
            · have g2 : decide ((n : Int) < (fr : Int)) = true := by simp; omega
              have g2' : decide (n < fr) = true := by simp; omega
              have HE := Lib.hid (hE (by omega))
              clear hE hx ha4 hax hxx hm hfr0 hfr ha2
              obtain ⟨z0, z1, z2, z3, z4, z5, z6, z7, z8, z9, z10⟩ := eleven_cells HRk.out.non
              go_wp2_with (first
                | (go_at_call 83; (with_reducible refine (rread_v (some ad) n c l (a2 : Int) 2 _ (HB.out.below HRk.out.b) (by omega) (by omega) x HX.out).mono ?_); rintro e w6 ⟨rfl, rfl⟩)
                | (refine wpList_store_blk rfl 39 (.tmp 2) (.tmp 122) rfl w.heap.size _ #[.bool false, .int .i64 0, .int .u16 0, .int .u32 0, .int .u32 0, .slice none 0 0, .bool false, .int .u16 0, .slice none 0 0, .slice none 0 0, .int .i64 0] _ rfl rfl HRk.out.res rfl (by kernel_rfl) (by simp [Value.oneCell']) ?_; intro w5 hi5 hg5; obtain ⟨r0, r1, r2, r3, r4, r5, r6, r7, r8, r9, r10⟩ := eleven_cells hi5))
              exact bodyPost_ret (v := .tuple #[.agg #[.bool false, .int .i64 0, .int .u16 0, .int .u32 0, .int .u32 0, .slice none 0 0, .bool false, .int .u16 0, .slice none 0 0, .slice none 0 0, .int .i64 0], .int .i64 0, .int .i64 0, .int .i64 2]) (by simp [results, Try.results22, go_sem, r0, r1, r2, r3, r4, r5, r6, r7, r8, r9, r10]) rfl (rg_err 2 (by rw [HE.out]; rfl) (by rw [HE.out]; decide) (HRk.out.item hi5 hg5).b)
            · have g2 : decide ((n : Int) < (fr : Int)) = false := by simp; omega
              have g2' : decide (n < fr) = false := by simp; omega
              obtain ⟨m4, hm4⟩ : ∃ m4, 4 + m = m4 := ⟨_, rfl⟩
              have hm4I : (4 : Int) + (m : Int) = (m4 : Int) := by omega
              have ham : (a : Int) + (m4 : Int) = (fr : Int) := by omega
              obtain ⟨pf, hpf⟩ : ∃ pf, getN l (a : Int) (2 : Int) = pf := ⟨_, rfl⟩
              have hpf2 : pf < 65536 := by rw [← hpf]; exact getN_ltS l _ 2
              have HPF := Lib.hid hpf
              have HPG : Hid (pfG l = pf) := by show _ = _; unfold pfG; rw [hx, if_pos rfl, ← HA.out, hpf]
              have hen : exG l = (l.drop a4).take (fr - a4) := by unfold exG; rw [hx, if_pos rfl, hax, hfr]
              have hel : (exG l).length = fr - a4 := by rw [hen, List.length_take, List.length_drop]; omega
              have HFr := Lib.hid hfr
              have hfn : fr ≤ n := by omega
              have hfc : fr ≤ c := by omega
              have hfcI : (fr : Int) ≤ (c : Int) := by omega
              have hfaI : (a4 : Int) ≤ (fr : Int) := by omega
              obtain ⟨⟨p6, f6⟩, hi6, hg6⟩ := eleven_6 HRk.out.res (.bool true)
              have HRa := Lib.hid (HRk.out.item hi6 hg6)
              obtain ⟨⟨p7, f7⟩, hi7, hg7⟩ := eleven_7 hi6 (.int .u16 pf)
              have HRb := Lib.hid (HRa.out.item hi7 hg7)
              have hfr51 : fr ≤ 512 := by omega
              clear hi6 hg6 hi7 hg7 hE hx ha4 hax hxx hm hfr0 hfr ha2 hm4 hpf hin hin2
              by_cases hce : c = a4
              · have hfe : fr - a4 = 0 := by omega
                have HEl : Hid ((exG l).length = 0) := by show _ = _; rw [hel, hfe]
                have HEn : Hid (exG l = []) := List.eq_nil_of_length_eq_zero HEl.out
                subst hce
                clear hfe hel hen
                go_wp2_with (first
                  | (go_at_call 83; (with_reducible refine (rread_v (some ad) n c l (a2 : Int) 2 _ (HB.out.below HRk.out.b) (by omega) (by omega) x HX.out).mono ?_); rintro e w6 ⟨rfl, rfl⟩)
                  | (go_at_call 83; (with_reducible refine (rread_v (some ad) n c l (a : Int) 2 _ (HB.out.below HRa.out.b) (by omega) (by omega) pf HPF.out).mono ?_); rintro e w6 ⟨rfl, rfl⟩)
                  | (at_builtin; refine wpList_app slU8 rfl _ _ rfl w.heap.size none 0 0 [] rfl (World.ownsRow_nil _ _ _ _) (some ad) 0 0 (bys (exG l)) rfl (by rw [bys_length, HEl.out, Nat.mul_one]) (by rw [HEn.out]; exact Rd.nil _ _) (bys_one _) (by omega) HRb.out.b.size ?_; intro E1 e1 wd ho hg hA; simp only [Nat.zero_add, List.nil_append] at ho; have HRd := Lib.hid (HRb.out.grown0 hg); obtain ⟨⟨p8, f8⟩, hi8, hg8⟩ := eleven_8 HRd.out.res (.slice E1 0 e1); have HRe := Lib.hid (HRd.out.item hi8 hg8); have HEo := Lib.hid (ho.kept hg8 (own_off ho HRd.out.res (by decide))); clear ho hg hA hi8 hg8))
                go_meet
                exact ⟨E1, e1, by rw [HFr.out], hid_of (by rw [HFr.out]; exact hfn), by rw [HEl.out, HPG.out]; exact HRe, by rw [HEl.out]; exact HEo⟩
              · have HEl := Lib.hid hel
                have HEn := Lib.hid hen
                clear hel hen
                go_wp2_with (first
                  | (go_at_call 83; (with_reducible refine (rread_v (some ad) n c l (a2 : Int) 2 _ (HB.out.below HRk.out.b) (by omega) (by omega) x HX.out).mono ?_); rintro e w6 ⟨rfl, rfl⟩)
                  | (go_at_call 83; (with_reducible refine (rread_v (some ad) n c l (a : Int) 2 _ (HB.out.below HRa.out.b) (by omega) (by omega) pf HPF.out).mono ?_); rintro e w6 ⟨rfl, rfl⟩)
                  | (at_builtin; refine wpList_app slU8 rfl _ _ rfl w.heap.size none 0 0 [] rfl (World.ownsRow_nil _ _ _ _) (some (ad.add a4)) (fr - a4) (c - a4) (bys (exG l)) rfl (by rw [bys_length, HEl.out, Nat.mul_one]) (by rw [HEn.out]; exact part_rd (HB.out.below HRb.out.b) a4 (fr - a4) (by omega)) (bys_one _) (by omega) HRb.out.b.size ?_; intro E1 e1 wd ho hg hA; simp only [Nat.zero_add, List.nil_append] at ho; have HRd := Lib.hid (HRb.out.grown0 hg); obtain ⟨⟨p8, f8⟩, hi8, hg8⟩ := eleven_8 HRd.out.res (.slice E1 (fr - a4) e1); have HRe := Lib.hid (HRd.out.item hi8 hg8); have HEo := Lib.hid (ho.kept hg8 (own_off ho HRd.out.res (by decide))); clear ho hg hA hi8 hg8))
                go_meet
                exact ⟨E1, e1, by rw [HFr.out], hid_of (by rw [HFr.out]; exact hfn), by rw [HEl.out, HPG.out]; exact HRe, by rw [HEl.out]; exact HEo⟩
      case rest =>
      obtain ⟨E, ec, rfl, HFn, HRe, HEo⟩ := hcut
      have HLF := Lib.hid (look_fin (by rw [HB.out.len]; exact h5) (by rw [HB.out.len]; exact h12) HV.out HFB.out (by rw [HB.out.len]; exact HFn.out))
      obtain ⟨fr, hfr⟩ : ∃ fr, frmA l = fr := ⟨_, rfl⟩
      have HFr := Lib.hid hfr
      have hfn : fr ≤ n := by rw [← hfr]; exact HFn.out
      rw [hfr]
      clear hfr HRk HA han
      have cb := below_cell HRe.out.b HC0.out
      have e32 := HE32.out
      go_upto_if 150 with fail
      clear e32 cb
      go_cut [10, 12] from 151 to 200 (fun s10 s12 wx => ∃ T pd : Nat, s10 = .int .i64 (T : Nat) ∧ Hid (RG w wx #[.bool mr, .int .i64 ty, .int .u16 sq, .int .u32 tm, .int .u32 ss, .slice C k cC, .bool xb, .int .u16 (pfG l), .slice E (exG l).length ec, .slice none 0 0, .int .i64 (pd : Nat)] C k cC (csL l k)) ∧ Hid (wx.ownsRow w.heap.size 5 1 (.slice E (exG l).length ec) (exG l).length (bys (exG l))) ∧ Hid (lookE l = 0 ∧ lookT l = T ∧ n - T = pd ∧ fr ≤ T ∧ T ≤ n))
      case first =>
        cases pb
        · have hb : ¬ byteN l 0 / 32 % 2 = 1 := by have := HPB.out; simpa using this
          have HT : Hid (lookE l = 0 ∧ lookT l = n ∧ n - n = 0 ∧ fr ≤ n ∧ n ≤ n) := by
            have h1 := HLF.out.2 0 (padN_no hb)
            rw [HB.out.len, Nat.sub_zero] at h1
            exact ⟨h1.1, h1.2, by omega, hfn, Nat.le_refl _⟩
          clear hb
          go_wp2_with fail
          go_meet
          exact ⟨n, 0, rfl, HRe, HEo, HT⟩
        · have hb : byteN l 0 / 32 % 2 = 1 := by have := HPB.out; simpa using this
          have hll : l.length = n := HB.out.len
          obtain ⟨e1, he1⟩ : ∃ e1, n = e1 + 1 := ⟨n - 1, by omega⟩
          have he1I : (n : Int) - 1 = (e1 : Int) := by omega
          have he1n : e1 < n := by omega
          have he1nI : (e1 : Int) < (n : Int) := by omega
          obtain ⟨ad', hA, hcq⟩ := bts_byte HB.out (k := e1) (by omega)
          injection hA with hA; subst hA
          obtain ⟨q, hq⟩ : ∃ q, byteN l e1 = q := ⟨_, rfl⟩
          have hqN : byteN l (l.length - 1) = q := by rw [hll, show n - 1 = e1 by omega, hq]
          have hq256 : q < 256 := by rw [← hq]; exact byteN_lt l e1
          rw [hq] at hcq
          have HCQ := Lib.hid hcq
          obtain ⟨d, hd⟩ : ∃ d, n = fr + d := ⟨n - fr, by omega⟩
          have hdI : (n : Int) - (fr : Int) = (d : Int) := by omega
          have hd9 : d ≤ 512 := by omega
          clear hcq hq
          by_cases hf0 : fr = n
          · have HE := Lib.hid (HLF.out.1 (padN_empty hb (by rw [HFr.out, hll, hf0])))
            have q0 : ((fr : Int) == (n : Int)) = true := by simp; omega
            have q0' : (fr == n) = true := by simp; omega
            clear hb he1 hd hqN
            subst hf0
            clear q0 q0'
            obtain ⟨z0, z1, z2, z3, z4, z5, z6, z7, z8, z9, z10⟩ := eleven_cells HRe.out.non
            go_wp2_with (refine wpList_store_blk rfl 39 (.tmp 2) (.tmp 174) rfl w.heap.size _ #[.bool false, .int .i64 0, .int .u16 0, .int .u32 0, .int .u32 0, .slice none 0 0, .bool false, .int .u16 0, .slice none 0 0, .slice none 0 0, .int .i64 0] _ rfl rfl HRe.out.res rfl (by kernel_rfl) (by simp [Value.oneCell']) ?_; intro w5 hi5 hg5; obtain ⟨r0, r1, r2, r3, r4, r5, r6, r7, r8, r9, r10⟩ := eleven_cells hi5)
            exact bodyPost_ret (v := .tuple #[.agg #[.bool false, .int .i64 0, .int .u16 0, .int .u32 0, .int .u32 0, .slice none 0 0, .bool false, .int .u16 0, .slice none 0 0, .slice none 0 0, .int .i64 0], .int .i64 0, .int .i64 0, .int .i64 1]) (by simp [results, Try.results22, go_sem, r0, r1, r2, r3, r4, r5, r6, r7, r8, r9, r10]) rfl (rg_err 1 (by rw [HE.out]; rfl) (by rw [HE.out]; decide) (HRe.out.item hi5 hg5).b)
          · have q0 : ((fr : Int) == (n : Int)) = false := by simp; omega
            have q0' : (fr == n) = false := by simp; omega
            have hfl : frmA l < l.length := by rw [HFr.out, hll]; omega
            have cq := below_cell HRe.out.b HCQ.out
            by_cases hbad : q = 0 ∨ d < q
            · have HE := Lib.hid (HLF.out.1 (padN_bad hb hfl hqN (by rw [HFr.out, hll]; omega)))
              by_cases hq0 : q = 0
              · subst hq0
                clear hb he1 hd hqN hbad hfl
                obtain ⟨z0, z1, z2, z3, z4, z5, z6, z7, z8, z9, z10⟩ := eleven_cells HRe.out.non
                go_wp2_with (refine wpList_store_blk rfl 39 (.tmp 2) (.tmp 174) rfl w.heap.size _ #[.bool false, .int .i64 0, .int .u16 0, .int .u32 0, .int .u32 0, .slice none 0 0, .bool false, .int .u16 0, .slice none 0 0, .slice none 0 0, .int .i64 0] _ rfl rfl HRe.out.res rfl (by kernel_rfl) (by simp [Value.oneCell']) ?_; intro w5 hi5 hg5; obtain ⟨r0, r1, r2, r3, r4, r5, r6, r7, r8, r9, r10⟩ := eleven_cells hi5)
                exact bodyPost_ret (v := .tuple #[.agg #[.bool false, .int .i64 0, .int .u16 0, .int .u32 0, .int .u32 0, .slice none 0 0, .bool false, .int .u16 0, .slice none 0 0, .slice none 0 0, .int .i64 0], .int .i64 0, .int .i64 0, .int .i64 1]) (by simp [results, Try.results22, go_sem, r0, r1, r2, r3, r4, r5, r6, r7, r8, r9, r10]) rfl (rg_err 1 (by rw [HE.out]; rfl) (by rw [HE.out]; decide) (HRe.out.item hi5 hg5).b)
              · have hqd : decide ((d : Int) < (q : Int)) = true := by simp; omega
                have hqd' : decide (d < q) = true := by simp; omega
                have hq0' : ((q : Int) == 0) = false := by simp; omega
                clear hb he1 hd hqN hbad hfl
                obtain ⟨z0, z1, z2, z3, z4, z5, z6, z7, z8, z9, z10⟩ := eleven_cells HRe.out.non
                go_wp2_with (refine wpList_store_blk rfl 39 (.tmp 2) (.tmp 174) rfl w.heap.size _ #[.bool false, .int .i64 0, .int .u16 0, .int .u32 0, .int .u32 0, .slice none 0 0, .bool false, .int .u16 0, .slice none 0 0, .slice none 0 0, .int .i64 0] _ rfl rfl HRe.out.res rfl (by kernel_rfl) (by simp [Value.oneCell']) ?_; intro w5 hi5 hg5; obtain ⟨r0, r1, r2, r3, r4, r5, r6, r7, r8, r9, r10⟩ := eleven_cells hi5)
                exact bodyPost_ret (v := .tuple #[.agg #[.bool false, .int .i64 0, .int .u16 0, .int .u32 0, .int .u32 0, .slice none 0 0, .bool false, .int .u16 0, .slice none 0 0, .slice none 0 0, .int .i64 0], .int .i64 0, .int .i64 0, .int .i64 1]) (by simp [results, Try.results22, go_sem, r0, r1, r2, r3, r4, r5, r6, r7, r8, r9, r10]) rfl (rg_err 1 (by rw [HE.out]; rfl) (by rw [HE.out]; decide) (HRe.out.item hi5 hg5).b)
            · have hqd : decide ((d : Int) < (q : Int)) = false := by simp; omega
              have hqd' : decide (d < q) = false := by simp; omega
              have hq0' : ((q : Int) == 0) = false := by simp; omega
              obtain ⟨T, hT⟩ : ∃ T, n = T + q := ⟨n - q, by omega⟩
              have hTI : (n : Int) - (q : Int) = (T : Int) := by omega
              have hTe : T ≤ e1 := by omega
              have hTeI : (T : Int) ≤ (e1 : Int) := by omega
              have hec : e1 ≤ c := by omega
              have hecI : (e1 : Int) ≤ (c : Int) := by omega
              have hcT : ¬ c = T := by omega
              have HPZ := Lib.hid (padN_zeros hb hfl hqN (by omega) (by rw [HFr.out, hll]; omega))
              obtain ⟨⟨p10, f10⟩, hi10, hg10⟩ := eleven_10 HRe.out.res (.int .i64 q)
              have HRf := Lib.hid (HRe.out.item hi10 hg10)
              have HEf := Lib.hid (HEo.out.kept hg10 (own_off HEo.out HRe.out.res (by decide)))
              obtain ⟨x0, x1, x2, x3, x4, x5, x6, x7, x8, x9, x10⟩ := eleven_cells hi10
              have HQT := Lib.hid (And.intro he1 (And.intro hT (And.intro hd (show q ≤ d by omega))))
              clear hi10 hg10 hb hqN hfl hbad he1 hT hd HRe HEo
              go_wp2_with fail
              obtain ⟨z, hz⟩ : ∃ z, e1 - T = z := ⟨_, rfl⟩
              rw [hz]
              have hzq : z + 1 = q := by have := HQT.out; omega
              have HZQ := Lib.hid hzq
              have hz9 : z ≤ 256 := by omega
              clear hz hzq p10 f10 x0 x1 x2 x3 x4 x5 x6 x7 x8 x9 x10 cq q0 q0' hqd hqd' hq0' hTI hTeI he1I hdI
              go_loopw [12, 193] (fun s12 ix wr => ∃ i : Nat, ix = .int .i64 i ∧ i ≤ z ∧ Hid (RG w wr #[.bool mr, .int .i64 ty, .int .u16 sq, .int .u32 tm, .int .u32 ss, .slice C k cC, .bool xb, .int .u16 (pfG l), .slice E (exG l).length ec, .slice none 0 0, .int .i64 (q : Nat)] C k cC (csL l k)) ∧ Hid (wr.ownsRow w.heap.size 5 1 (.slice E (exG l).length ec) (exG l).length (bys (exG l))) ∧ Hid (∀ j, j < i → byteN l (T + j) = 0)) (fun _ ix _ => z - (intOf ix).toNat)
              case atStart => exact ⟨0, rfl, Nat.zero_le _, HRf, HEf, fun j hj => absurd hj (Nat.not_lt_zero _)⟩
              case round =>
                obtain ⟨i, rfl, hiz, HRq, HEq, HZ⟩ := hrel
                clear HRf HEf
                by_cases hlt : i < z
                · obtain ⟨ad', hA, hcy⟩ := bts_byte HB.out (k := T + i) (by have := HQT.out; have := HZQ.out; omega)
                  injection hA with hA; subst hA
                  obtain ⟨y, hy⟩ : ∃ y, byteN l (T + i) = y := ⟨_, rfl⟩
                  have hy256 : y < 256 := by rw [← hy]; exact byteN_lt l _
                  rw [hy] at hcy
                  have cy1 := below_cell HRq.out.b hcy
                  have cy2 : wr.cell? ((ad.add T).add i) = some (.int .u8 (y : Int)) := by rw [add_add]; exact cy1
                  have HYY := Lib.hid hy
                  clear hcy hy
                  by_cases hy0 : y = 0
                  · have hyn : ((y : Int) != 0) = false := by simp; omega
                    have HY0 : Hid (byteN l (T + i) = 0) := by show _ = _; rw [HYY.out, hy0]
                    clear hy0
                    go_wp2
                    go_roundw
                    case rel => exact ⟨i + 1, rfl, by omega, HRq, HEq, fun j hj => by rcases Nat.lt_succ_iff_lt_or_eq.1 hj with h | h; exact HZ.out j h; rw [h]; exact HY0.out⟩
                    case measure => simp [intOf]; omega
                  · have hyn : ((y : Int) != 0) = true := by simp; omega
                    have HE := Lib.hid (HLF.out.1 (HPZ.out.2 ⟨i, by have := HZQ.out; omega, by rw [HB.out.len, show n - q + i = T + i by have := HQT.out; omega, HYY.out]; exact hy0⟩))
                    clear hy0
                    obtain ⟨z0, z1, z2, z3, z4, z5, z6, z7, z8, z9, z10⟩ := eleven_cells HRq.out.non
                    go_wp2_with (refine wpList_store_blk rfl 39 (.tmp 2) (.tmp 199) rfl w.heap.size _ #[.bool false, .int .i64 0, .int .u16 0, .int .u32 0, .int .u32 0, .slice none 0 0, .bool false, .int .u16 0, .slice none 0 0, .slice none 0 0, .int .i64 0] _ rfl rfl HRq.out.res rfl (by kernel_rfl) (by simp [Value.oneCell']) ?_; intro w5 hi5 hg5; obtain ⟨r0, r1, r2, r3, r4, r5, r6, r7, r8, r9, r10⟩ := eleven_cells hi5)
                    exact bodyPost_ret (v := .tuple #[.agg #[.bool false, .int .i64 0, .int .u16 0, .int .u32 0, .int .u32 0, .slice none 0 0, .bool false, .int .u16 0, .slice none 0 0, .slice none 0 0, .int .i64 0], .int .i64 0, .int .i64 0, .int .i64 1]) (by simp [results, Try.results22, go_sem, r0, r1, r2, r3, r4, r5, r6, r7, r8, r9, r10]) rfl (rg_err 1 (by rw [HE.out]; rfl) (by rw [HE.out]; decide) (HRq.out.item hi5 hg5).b)
                · have HT : Hid (lookE l = 0 ∧ lookT l = T ∧ n - T = q ∧ fr ≤ T ∧ T ≤ n) := by
                    have hq3 := HQT.out
                    have hzq := HZQ.out
                    have h1 := HLF.out.2 q (HPZ.out.1 (fun j hj => by rw [HB.out.len, show n - q + j = T + j by omega]; exact HZ.out j (by omega)))
                    rw [HB.out.len] at h1
                    exact ⟨h1.1, by rw [h1.2]; omega, by omega, by omega, by omega⟩
                  go_wp2_with fail
                  go_meet
                  exact ⟨T, q, rfl, HRq, HEq, HT⟩
      case rest =>
      obtain ⟨T, pd, rfl, HRp, HEp, HT⟩ := hcut
      have hgP : getP l = (⟨mr, ty, sq, tm, ss, csL l k, xb, pfG l, exG l, plG l, (pd : Nat)⟩ : Pkt) := by
        unfold getP
        rw [if_pos HT.out.1, HD.out.1, HD.out.2, HN3.out.1, HN3.out.2.1, HN3.out.2.2, HNC.out, HXB.out, HB.out.len, HT.out.2.1, HT.out.2.2.1]
      have HGP := Lib.hid hgP
      have hpn : plG l = (l.drop fr).take (T - fr) := by unfold plG; rw [HFr.out, HT.out.2.1]
      have hpl : (plG l).length = T - fr := by rw [hpn, List.length_take, List.length_drop, HB.out.len]; have := HT.out; omega
      have hfT : (fr : Int) ≤ (T : Int) := by have := HT.out; omega
      have hTc : T ≤ c := by have := HT.out; omega
      have hTcI : (T : Int) ≤ (c : Int) := by omega
      have hT5 : T ≤ 512 ∧ fr ≤ T ∧ T ≤ n := by have := HT.out; omega
      clear hgP
      by_cases hce : c = fr
      · have hTe : T = fr := by have := HT.out; omega
        have HPl : Hid ((plG l).length = 0) := by show _ = _; rw [hpl, hTe, Nat.sub_self]
        have HPn : Hid (plG l = []) := List.eq_nil_of_length_eq_zero HPl.out
        subst hTe
        subst hce
        clear hpn hpl
        go_wp2_with (first
          | (at_builtin; refine wpList_app slU8 rfl _ _ rfl w.heap.size none 0 0 [] rfl (World.ownsRow_nil _ _ _ _) (some ad) 0 0 (bys (plG l)) rfl (by rw [bys_length, HPl.out, Nat.mul_one]) (by rw [HPn.out]; exact Rd.nil _ _) (bys_one _) (by omega) HRp.out.b.size ?_; intro L1 l1 wd ho hg hA; simp only [Nat.zero_add, List.nil_append] at ho; have HRd := Lib.hid (HRp.out.grown0 hg); have HEd := Lib.hid (HEp.out.kept hg (own_none _)); obtain ⟨⟨p9, f9⟩, hi9, hg9⟩ := eleven_9 HRd.out.res (.slice L1 0 l1); have HRg := Lib.hid (HRd.out.item hi9 hg9); have HLg := Lib.hid (ho.kept hg9 (own_off ho HRd.out.res (by decide))); have HEg := Lib.hid (HEd.out.kept hg9 (own_off HEd.out HRd.out.res (by decide))); obtain ⟨y0, y1, y2, y3, y4, y5, y6, y7, y8, y9, y10⟩ := eleven_cells hi9; clear ho hg hA hi9 hg9)
          | (refine wpList_store_blk rfl 39 (.tmp 2) (.tmp 207) rfl w.heap.size _ #[.bool mr, .int .i64 ty, .int .u16 sq, .int .u32 tm, .int .u32 ss, .slice C k cC, .bool xb, .int .u16 (pfG l), .slice E (exG l).length ec, .slice L1 0 l1, .int .i64 (pd : Nat)] _ rfl rfl HRg.out.res rfl (by kernel_rfl) (by simp [Value.oneCell']) ?_; intro w5 hi5 hg5; obtain ⟨r0, r1, r2, r3, r4, r5, r6, r7, r8, r9, r10⟩ := eleven_cells hi5))
        exact bodyPost_ret (v := .tuple #[.agg #[.bool mr, .int .i64 ty, .int .u16 sq, .int .u32 tm, .int .u32 ss, .slice C k cC, .bool xb, .int .u16 (pfG l), .slice E (exG l).length ec, .slice L1 0 l1, .int .i64 (pd : Nat)], .int .i64 (c : Nat), .int .i64 (c : Nat), .int .i64 0]) (by simp [results, Try.results22, go_sem, r0, r1, r2, r3, r4, r5, r6, r7, r8, r9, r10]) rfl ⟨C, k, cC, E, _, ec, L1, 0, l1, by rw [HGP.out, HT.out.1, HT.out.2.1]; unfold lookF; rw [if_pos HT.out.1, HFr.out]; rfl, by rw [HGP.out]; exact ⟨(HRg.out.item hi5 hg5).own, HEg.out.kept hg5 (own_off HEg.out HRg.out.res (by decide)), HLg.out.kept hg5 (own_off HLg.out HRg.out.res (by decide))⟩, (HRg.out.item hi5 hg5).b⟩
      · have HPl := Lib.hid hpl
        have HPn := Lib.hid hpn
        clear hpn hpl
        go_wp2_with (first
          | (at_builtin; refine wpList_app slU8 rfl _ _ rfl w.heap.size none 0 0 [] rfl (World.ownsRow_nil _ _ _ _) (some (ad.add fr)) (T - fr) (c - fr) (bys (plG l)) rfl (by rw [bys_length, HPl.out, Nat.mul_one]) (by rw [HPn.out]; exact part_rd (HB.out.below HRp.out.b) fr (T - fr) (by omega)) (bys_one _) (by omega) HRp.out.b.size ?_; intro L1 l1 wd ho hg hA; simp only [Nat.zero_add, List.nil_append] at ho; have HRd := Lib.hid (HRp.out.grown0 hg); have HEd := Lib.hid (HEp.out.kept hg (own_none _)); obtain ⟨⟨p9, f9⟩, hi9, hg9⟩ := eleven_9 HRd.out.res (.slice L1 (T - fr) l1); have HRg := Lib.hid (HRd.out.item hi9 hg9); have HLg := Lib.hid (ho.kept hg9 (own_off ho HRd.out.res (by decide))); have HEg := Lib.hid (HEd.out.kept hg9 (own_off HEd.out HRd.out.res (by decide))); obtain ⟨y0, y1, y2, y3, y4, y5, y6, y7, y8, y9, y10⟩ := eleven_cells hi9; clear ho hg hA hi9 hg9)
          | (refine wpList_store_blk rfl 39 (.tmp 2) (.tmp 207) rfl w.heap.size _ #[.bool mr, .int .i64 ty, .int .u16 sq, .int .u32 tm, .int .u32 ss, .slice C k cC, .bool xb, .int .u16 (pfG l), .slice E (exG l).length ec, .slice L1 (T - fr) l1, .int .i64 (pd : Nat)] _ rfl rfl HRg.out.res rfl (by kernel_rfl) (by simp [Value.oneCell']) ?_; intro w5 hi5 hg5; obtain ⟨r0, r1, r2, r3, r4, r5, r6, r7, r8, r9, r10⟩ := eleven_cells hi5))
        exact bodyPost_ret (v := .tuple #[.agg #[.bool mr, .int .i64 ty, .int .u16 sq, .int .u32 tm, .int .u32 ss, .slice C k cC, .bool xb, .int .u16 (pfG l), .slice E (exG l).length ec, .slice L1 (T - fr) l1, .int .i64 (pd : Nat)], .int .i64 (fr : Nat), .int .i64 (T : Nat), .int .i64 0]) (by simp [results, Try.results22, go_sem, r0, r1, r2, r3, r4, r5, r6, r7, r8, r9, r10]) rfl ⟨C, k, cC, E, _, ec, L1, (T - fr), l1, by rw [HGP.out, HT.out.1, HT.out.2.1]; unfold lookF; rw [if_pos HT.out.1, HFr.out]; rfl, by rw [HGP.out]; exact ⟨(HRg.out.item hi5 hg5).own, HEg.out.kept hg5 (own_off HEg.out HRg.out.res (by decide)), HLg.out.kept hg5 (own_off HLg.out HRg.out.res (by decide))⟩, (HRg.out.item hi5 hg5).b⟩
end Go.Proofs.Ytknlkmencdlpcaa

namespace Go.Proofs.Ytknlkmencdlpcaa
set_option linter.unusedVariables false
set_option linter.unusedSimpArgs false
open Go Go.RowKit

/-- Get of package sluicegateref4: what the bytes are. -/
theorem rget_all (A : Option Addr) (n c : Nat) (l : List UInt8) (w : World) (h : Bts w A n c l) :
    Calls Try.prog 22 #[.slice A n c] w fun e w' => RGpost l w e w' := by
  by_cases h5 : 512 < l.length
  · exact rget_5 A n c l w h h5
  by_cases h12 : l.length < 12
  · exact rget_2 A n c l w h h12
  by_cases hv : byteN l 0 / 64 = 2
  · cases hf : fbB (byteN l 1)
    · exact rget_main A n c l w h (by omega) (by omega) hv hf
    · exact rget_4 A n c l w h (by omega) (by omega) hv hf
  · exact rget_1 A n c l w h (by omega) (by omega) hv
theorem rget_row (l : List UInt8) (q : Pkt) (F T Z : Int) (hq : getP l = q) (hF : F = (lookF l : Nat)) (hT : T = (lookT l : Nat)) (hZ : Z = (lookE l : Nat)) (A : Option Addr) (n c : Nat) (w : World) (h : Bts w A n c l) :
    Calls Try.prog 22 #[.slice A n c] w fun e w' => ∃ C cn cc E en ec L ln lc, e = .returned (.tuple #[.agg #[.bool q.mr, .int .i64 q.ty, .int .u16 q.sq, .int .u32 q.tm, .int .u32 q.ss, .slice C cn cc, .bool q.hx, .int .u16 q.pf, .slice E en ec, .slice L ln lc, .int .i64 q.pad], .int .i64 F, .int .i64 T, .int .i64 Z]) ∧
      Hid (PRow w' q C cn cc E en ec L ln lc) ∧ Below w.heap.size w w' := by
  subst hq hF hT hZ
  refine (rget_all A n c l w h).mono ?_
  rintro e w' ⟨C, cn, cc, E, en, ec, L, ln, lc, rfl, h1, h2⟩
  exact ⟨C, cn, cc, E, en, ec, L, ln, lc, rfl, hid_of h1.out.row, h2⟩
/-- The same, with the packet's rows of its own. -/
theorem rget_own (l : List UInt8) (q : Pkt) (F T Z : Int) (hq : getP l = q) (hF : F = (lookF l : Nat)) (hT : T = (lookT l : Nat)) (hZ : Z = (lookE l : Nat)) (A : Option Addr) (n c : Nat) (w : World) (h : Bts w A n c l) :
    Calls Try.prog 22 #[.slice A n c] w fun e w' => ∃ C cn cc E en ec L ln lc, e = .returned (.tuple #[.agg #[.bool q.mr, .int .i64 q.ty, .int .u16 q.sq, .int .u32 q.tm, .int .u32 q.ss, .slice C cn cc, .bool q.hx, .int .u16 q.pf, .slice E en ec, .slice L ln lc, .int .i64 q.pad], .int .i64 F, .int .i64 T, .int .i64 Z]) ∧
      Hid (POwn w' w.heap.size q C cn cc E en ec L ln lc) ∧ Below w.heap.size w w' := by
  subst hq hF hT hZ
  exact rget_all A n c l w h
end Go.Proofs.Ytknlkmencdlpcaa
