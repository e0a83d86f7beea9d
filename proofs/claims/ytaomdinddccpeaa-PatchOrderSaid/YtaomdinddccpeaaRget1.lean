/-
What Get of package sluicegateref4 keeps between its steps; its errors ahead of the numbers.
-/
import Derived.Test.YtaomdinddccpeaaRef1
import Derived.Test.YtaomdinddccpeaaPkt
import Derived.Test.YtaomdinddccpeaaCells
namespace Go.Proofs.Ytaomdinddccpeaa
set_option linter.unusedVariables false
set_option linter.unusedSimpArgs false
open Go Go.RowKit

theorem rread_v (X : Option Addr) (n c : Nat) (l : List UInt8) (Z S : Int) (w : World) (h : Bts w X n c l) (h1 : Z ≤ 9223372036854775807) (h2 : S ≤ 9223372036854775807) (x : Nat) (hx : getN l Z S = x) :
    Calls Try.prog 44 #[.slice X n c, .int .i64 Z, .int .i64 S] w fun e w' => e = .returned (.int .u64 x) ∧ w' = w := by
  subst hx
  have HB := Lib.hid h
  clear h
  go_enter Try.func44, Try.ntmps44
  go_wp2_with (go_at_call 67; (with_reducible refine (rget_any X n c l Z S w HB.out.len HB.out.nc HB.out.cm HB.out.rd h1 h2).mono ?_); rintro e w1 ⟨rfl, rfl⟩)
  go_ret
  exact ⟨rfl, rfl⟩
/-- A packet's three rows, each of its own. -/
structure POwn (w : World) (base : Nat) (p : Pkt) (C : Option Addr) (cn cc : Nat) (E : Option Addr) (en ec : Nat) (L : Option Addr) (ln lc : Nat) : Prop where
  (oc : w.ownsRow base 24 1 (.slice C cn cc) cn (u32s p.cs)) (oe : w.ownsRow base 5 1 (.slice E en ec) en (bys p.ex)) (ol : w.ownsRow base 5 1 (.slice L ln lc) ln (bys p.pl))
theorem POwn.row {w : World} {base : Nat} {p : Pkt} {C : Option Addr} {cn cc : Nat} {E : Option Addr} {en ec : Nat} {L : Option Addr} {ln lc : Nat} (h : POwn w base p C cn cc E en ec L ln lc) : PRow w p C cn cc E en ec L ln lc := ⟨own_row32 h.oc, own_row8 h.oe, own_row8 h.ol⟩
theorem pown_zero (w : World) (base : Nat) : POwn w base zeroP none 0 0 none 0 0 none 0 0 := ⟨World.ownsRow_nil _ _ _ _, World.ownsRow_nil _ _ _ _, World.ownsRow_nil _ _ _ _⟩
/-- What Get tells. -/
def RGpost (l : List UInt8) (w : World) (e : Ending) (w' : World) : Prop := ∃ C cn cc E en ec L ln lc, e = .returned (.tuple #[.agg #[.bool (getP l).mr, .int .i64 (getP l).ty, .int .u16 (getP l).sq, .int .u32 (getP l).tm, .int .u32 (getP l).ss, .slice C cn cc, .bool (getP l).hx, .int .u16 (getP l).pf, .slice E en ec, .slice L ln lc, .int .i64 (getP l).pad], .int .i64 (lookF l : Nat), .int .i64 (lookT l : Nat), .int .i64 (lookE l : Nat)]) ∧
  Hid (POwn w' w.heap.size (getP l) C cn cc E en ec L ln lc) ∧ Below w.heap.size w w'
theorem rg_err {l : List UInt8} {w w' : World} (Z : Int) (hZ : Z = (lookE l : Nat)) (hne : lookE l ≠ 0) (hb : Below w.heap.size w w') : RGpost l w (.returned (.tuple #[.agg #[.bool false, .int .i64 0, .int .u16 0, .int .u32 0, .int .u32 0, .slice none 0 0, .bool false, .int .u16 0, .slice none 0 0, .slice none 0 0, .int .i64 0], .int .i64 0, .int .i64 0, .int .i64 Z])) w' := by
  subst hZ
  refine ⟨none, 0, 0, none, 0, 0, none, 0, 0, ?_, ?_, hb⟩
  · rw [getP_zero hne]
    unfold lookF lookT
    rw [if_neg hne, if_neg hne]
    rfl
  · rw [getP_zero hne]
    exact pown_zero w' _
structure RG (w0 w : World) (it : Array Value) (C : Option Addr) (cn cc : Nat) (cs : List Nat) : Prop where
  res : w.heap[w0.heap.size]? = some (.cells it 39 (0, 0))
  non : w.heap[w0.heap.size + 1]? = some (.cells #[.bool false, .int .i64 0, .int .u16 0, .int .u32 0, .int .u32 0, .slice none 0 0, .bool false, .int .u16 0, .slice none 0 0, .slice none 0 0, .int .i64 0] 39 (0, 0))
  own : w.ownsRow w0.heap.size 24 1 (.slice C cn cc) cn (u32s cs)
  b : Below w0.heap.size w0 w
section
variable {w0 w w' : World} {it it' : Array Value} {C : Option Addr} {cn cc : Nat} {cs : List Nat}
theorem RG.below (h : RG w0 w it C cn cc cs) (hb : Below w.heap.size w w') : RG w0 w' it C cn cc cs :=
  ⟨blk_below h.res hb, blk_below h.non hb, h.own.kept (own_below hb) (own_none _), h.b.trans (hb.mono h.b.size)⟩
theorem RG.alloc (h : RG w0 w it C cn cc cs) (o : Obj) : RG w0 (w.alloc o) it C cn cc cs := h.below ((Below.refl _ _).alloc (Nat.le_refl _) _)
theorem RG.drew (h : RG w0 w it C cn cc cs) : RG w0 w.drew it C cn cc cs := h.below ((Below.refl _ _).drew)
theorem RG.item (h : RG w0 w it C cn cc cs) (hi : w'.heap[w0.heap.size]? = some (.cells it' 39 (0, 0))) (hg : w.grownBy w' (some w0.heap.size)) : RG w0 w' it' C cn cc cs :=
  ⟨hi, (hg.block _ (blk_in h.non) (fun e => by injection e with e; omega)).trans h.non, h.own.kept hg (own_off h.own h.res (by decide)), h.b.grown hg h.b.size (fun q hq => by injection hq with hq; omega)⟩
theorem RG.grown0 (h : RG w0 w it C cn cc cs) (hg : w.grownBy w' none) : RG w0 w' it C cn cc cs :=
  ⟨(hg.block _ (blk_in h.res) (by simp)).trans h.res, (hg.block _ (blk_in h.non) (by simp)).trans h.non, h.own.kept hg (own_none _), h.b.grown hg h.b.size (by simp)⟩
theorem RG.app {C1 : Option Addr} {k cC c1 : Nat} {z : Nat} (h : RG w0 w it C k cC cs) {lit : Obj} (hg : (w.alloc lit).grownBy w' (C.map Addr.block)) (ho : w'.ownsRow w0.heap.size 24 1 (.slice C1 (k + 1) c1) (k + 1) (u32s cs ++ [.int .u32 z])) :
    RG w0 w' it C1 (k + 1) c1 (cs ++ [z]) := by
  have h' := h.alloc lit
  have hr := own_off h'.own h'.res (by decide)
  have hs := own_off h'.own h'.non (by decide)
  rw [ownBlock_slice] at hr hs
  have ne : ∀ {q : Nat}, (C.map Addr.block = none ∨ C.map Addr.block ≠ some q) → some q ≠ C.map Addr.block := fun h e => by
    rcases h with h | h
    · rw [h] at e; cases e
    · exact h e.symm
  exact ⟨(hg.block _ (blk_in h'.res) (ne hr)).trans h'.res, (hg.block _ (blk_in h'.non) (ne hs)).trans h'.non, by rw [u32s_snoc]; exact ho, h'.b.grown hg h'.b.size (fun q hq => own_from h'.own q hq)⟩
end
theorem rg_start (w : World) : RG w ((w.alloc (.cells #[.bool false, .int .i64 0, .int .u16 0, .int .u32 0, .int .u32 0, .slice none 0 0, .bool false, .int .u16 0, .slice none 0 0, .slice none 0 0, .int .i64 0] 39)).alloc (.cells #[.bool false, .int .i64 0, .int .u16 0, .int .u32 0, .int .u32 0, .slice none 0 0, .bool false, .int .u16 0, .slice none 0 0, .slice none 0 0, .int .i64 0] 39)) #[.bool false, .int .i64 0, .int .u16 0, .int .u32 0, .int .u32 0, .slice none 0 0, .bool false, .int .u16 0, .slice none 0 0, .slice none 0 0, .int .i64 0] none 0 0 [] := by
  have h2 := heap_alloc_new (w.alloc (.cells #[.bool false, .int .i64 0, .int .u16 0, .int .u32 0, .int .u32 0, .slice none 0 0, .bool false, .int .u16 0, .slice none 0 0, .slice none 0 0, .int .i64 0] 39)) (.cells #[.bool false, .int .i64 0, .int .u16 0, .int .u32 0, .int .u32 0, .slice none 0 0, .bool false, .int .u16 0, .slice none 0 0, .slice none 0 0, .int .i64 0] 39)
  rw [show (w.alloc (.cells #[.bool false, .int .i64 0, .int .u16 0, .int .u32 0, .int .u32 0, .slice none 0 0, .bool false, .int .u16 0, .slice none 0 0, .slice none 0 0, .int .i64 0] 39)).heap.size = w.heap.size + 1 by simp] at h2
  exact ⟨blk_below (blk_alloc w _) ((Below.refl _ _).alloc (Nat.le_refl _) _), h2, World.ownsRow_nil _ _ _ _, ((Below.refl _ _).alloc (Nat.le_refl _) _).alloc (by simp) _⟩
theorem eleven_1 {w : World} {g : Nat} {t : TypeId} {a0 a1 a2 a3 a4 a5 a6 a7 a8 a9 a10 : Value} (h : w.heap[g]? = some (.cells #[a0, a1, a2, a3, a4, a5, a6, a7, a8, a9, a10] t (0, 0))) (v1 : Value) :
    ((w).cell? ⟨g, 1, none⟩ = some a1 ∧ (w).frozen? ⟨g, 1, none⟩ = false) ∧ ((w).setCell ⟨g, 1, none⟩ v1).heap[g]? = some (.cells #[a0, v1, a2, a3, a4, a5, a6, a7, a8, a9, a10] t (0, 0)) ∧ World.grownBy w ((w).setCell ⟨g, 1, none⟩ v1) (some g) := by
  obtain ⟨c1, h1, g1⟩ := cell_set h 1 a1 v1 rfl
  exact ⟨c1, h1, g1⟩
theorem eleven_0 {w : World} {g : Nat} {t : TypeId} {a0 a1 a2 a3 a4 a5 a6 a7 a8 a9 a10 : Value} (h : w.heap[g]? = some (.cells #[a0, a1, a2, a3, a4, a5, a6, a7, a8, a9, a10] t (0, 0))) (v0 : Value) :
    ((w).cell? ⟨g, 0, none⟩ = some a0 ∧ (w).frozen? ⟨g, 0, none⟩ = false) ∧ ((w).setCell ⟨g, 0, none⟩ v0).heap[g]? = some (.cells #[v0, a1, a2, a3, a4, a5, a6, a7, a8, a9, a10] t (0, 0)) ∧ World.grownBy w ((w).setCell ⟨g, 0, none⟩ v0) (some g) := by
  obtain ⟨c0, h0, g0⟩ := cell_set h 0 a0 v0 rfl
  exact ⟨c0, h0, g0⟩
theorem eleven_2 {w : World} {g : Nat} {t : TypeId} {a0 a1 a2 a3 a4 a5 a6 a7 a8 a9 a10 : Value} (h : w.heap[g]? = some (.cells #[a0, a1, a2, a3, a4, a5, a6, a7, a8, a9, a10] t (0, 0))) (v2 : Value) :
    ((w).cell? ⟨g, 2, none⟩ = some a2 ∧ (w).frozen? ⟨g, 2, none⟩ = false) ∧ ((w).setCell ⟨g, 2, none⟩ v2).heap[g]? = some (.cells #[a0, a1, v2, a3, a4, a5, a6, a7, a8, a9, a10] t (0, 0)) ∧ World.grownBy w ((w).setCell ⟨g, 2, none⟩ v2) (some g) := by
  obtain ⟨c2, h2, g2⟩ := cell_set h 2 a2 v2 rfl
  exact ⟨c2, h2, g2⟩
theorem eleven_3 {w : World} {g : Nat} {t : TypeId} {a0 a1 a2 a3 a4 a5 a6 a7 a8 a9 a10 : Value} (h : w.heap[g]? = some (.cells #[a0, a1, a2, a3, a4, a5, a6, a7, a8, a9, a10] t (0, 0))) (v3 : Value) :
    ((w).cell? ⟨g, 3, none⟩ = some a3 ∧ (w).frozen? ⟨g, 3, none⟩ = false) ∧ ((w).setCell ⟨g, 3, none⟩ v3).heap[g]? = some (.cells #[a0, a1, a2, v3, a4, a5, a6, a7, a8, a9, a10] t (0, 0)) ∧ World.grownBy w ((w).setCell ⟨g, 3, none⟩ v3) (some g) := by
  obtain ⟨c3, h3, g3⟩ := cell_set h 3 a3 v3 rfl
  exact ⟨c3, h3, g3⟩
theorem eleven_4 {w : World} {g : Nat} {t : TypeId} {a0 a1 a2 a3 a4 a5 a6 a7 a8 a9 a10 : Value} (h : w.heap[g]? = some (.cells #[a0, a1, a2, a3, a4, a5, a6, a7, a8, a9, a10] t (0, 0))) (v4 : Value) :
    ((w).cell? ⟨g, 4, none⟩ = some a4 ∧ (w).frozen? ⟨g, 4, none⟩ = false) ∧ ((w).setCell ⟨g, 4, none⟩ v4).heap[g]? = some (.cells #[a0, a1, a2, a3, v4, a5, a6, a7, a8, a9, a10] t (0, 0)) ∧ World.grownBy w ((w).setCell ⟨g, 4, none⟩ v4) (some g) := by
  obtain ⟨c4, h4, g4⟩ := cell_set h 4 a4 v4 rfl
  exact ⟨c4, h4, g4⟩
theorem eleven_6 {w : World} {g : Nat} {t : TypeId} {a0 a1 a2 a3 a4 a5 a6 a7 a8 a9 a10 : Value} (h : w.heap[g]? = some (.cells #[a0, a1, a2, a3, a4, a5, a6, a7, a8, a9, a10] t (0, 0))) (v6 : Value) :
    ((w).cell? ⟨g, 6, none⟩ = some a6 ∧ (w).frozen? ⟨g, 6, none⟩ = false) ∧ ((w).setCell ⟨g, 6, none⟩ v6).heap[g]? = some (.cells #[a0, a1, a2, a3, a4, a5, v6, a7, a8, a9, a10] t (0, 0)) ∧ World.grownBy w ((w).setCell ⟨g, 6, none⟩ v6) (some g) := by
  obtain ⟨c6, h6, g6⟩ := cell_set h 6 a6 v6 rfl
  exact ⟨c6, h6, g6⟩
theorem eleven_7 {w : World} {g : Nat} {t : TypeId} {a0 a1 a2 a3 a4 a5 a6 a7 a8 a9 a10 : Value} (h : w.heap[g]? = some (.cells #[a0, a1, a2, a3, a4, a5, a6, a7, a8, a9, a10] t (0, 0))) (v7 : Value) :
    ((w).cell? ⟨g, 7, none⟩ = some a7 ∧ (w).frozen? ⟨g, 7, none⟩ = false) ∧ ((w).setCell ⟨g, 7, none⟩ v7).heap[g]? = some (.cells #[a0, a1, a2, a3, a4, a5, a6, v7, a8, a9, a10] t (0, 0)) ∧ World.grownBy w ((w).setCell ⟨g, 7, none⟩ v7) (some g) := by
  obtain ⟨c7, h7, g7⟩ := cell_set h 7 a7 v7 rfl
  exact ⟨c7, h7, g7⟩
theorem eleven_8 {w : World} {g : Nat} {t : TypeId} {a0 a1 a2 a3 a4 a5 a6 a7 a8 a9 a10 : Value} (h : w.heap[g]? = some (.cells #[a0, a1, a2, a3, a4, a5, a6, a7, a8, a9, a10] t (0, 0))) (v8 : Value) :
    ((w).cell? ⟨g, 8, none⟩ = some a8 ∧ (w).frozen? ⟨g, 8, none⟩ = false) ∧ ((w).setCell ⟨g, 8, none⟩ v8).heap[g]? = some (.cells #[a0, a1, a2, a3, a4, a5, a6, a7, v8, a9, a10] t (0, 0)) ∧ World.grownBy w ((w).setCell ⟨g, 8, none⟩ v8) (some g) := by
  obtain ⟨c8, h8, g8⟩ := cell_set h 8 a8 v8 rfl
  exact ⟨c8, h8, g8⟩

set_option maxRecDepth 20000 in
set_option maxHeartbeats 4000000 in
theorem rget_5 (A : Option Addr) (n c : Nat) (l : List UInt8) (w : World) (h : Bts w A n c l) (h5 : 512 < l.length) :
    Calls Try.prog 22 #[.slice A n c] w fun e w' => RGpost l w e w' := by
  have HB := Lib.hid h
  have hn := h.len
  have hnc := h.nc
  have g : decide ((512 : Int) < (n : Int)) = true := by simp; omega
  have hE : lookE l = 5 := by unfold lookE; rw [if_pos (by omega)]
  have HE := Lib.hid hE
  clear hE
  clear h
  go_enter Try.func22, Try.ntmps22
  go_wp2_with (refine wpList_store_blk rfl 39 (.tmp 2) (.tmp 18) rfl w.heap.size _ #[.bool false, .int .i64 0, .int .u16 0, .int .u32 0, .int .u32 0, .slice none 0 0, .bool false, .int .u16 0, .slice none 0 0, .slice none 0 0, .int .i64 0] _ rfl rfl (rg_start w).res rfl (by kernel_rfl) (by simp [Value.oneCell']) ?_; intro w5 hi5 hg5; obtain ⟨r0, r1, r2, r3, r4, r5, r6, r7, r8, r9, r10⟩ := eleven_cells hi5)
  all_goals exact bodyPost_ret (v := .tuple #[.agg #[.bool false, .int .i64 0, .int .u16 0, .int .u32 0, .int .u32 0, .slice none 0 0, .bool false, .int .u16 0, .slice none 0 0, .slice none 0 0, .int .i64 0], .int .i64 0, .int .i64 0, .int .i64 5]) (by simp [results, Try.results22, go_sem, r0, r1, r2, r3, r4, r5, r6, r7, r8, r9, r10]) rfl (rg_err 5 (by rw [HE.out]; rfl) (by rw [HE.out]; decide) ((rg_start w).item hi5 hg5).b)
set_option maxRecDepth 20000 in
set_option maxHeartbeats 4000000 in
theorem rget_2 (A : Option Addr) (n c : Nat) (l : List UInt8) (w : World) (h : Bts w A n c l) (h5 : l.length < 12) :
    Calls Try.prog 22 #[.slice A n c] w fun e w' => RGpost l w e w' := by
  have HB := Lib.hid h
  have hn := h.len
  have hnc := h.nc
  have g : decide ((512 : Int) < (n : Int)) = false := by simp; omega
  have g2 : decide ((n : Int) < 12) = true := by simp; omega
  have hE : lookE l = 2 := by unfold lookE; rw [if_neg (by omega), if_pos (by omega)]
  have HE := Lib.hid hE
  clear hE
  clear h
  go_enter Try.func22, Try.ntmps22
  go_wp2_with (refine wpList_store_blk rfl 39 (.tmp 2) (.tmp 23) rfl w.heap.size _ #[.bool false, .int .i64 0, .int .u16 0, .int .u32 0, .int .u32 0, .slice none 0 0, .bool false, .int .u16 0, .slice none 0 0, .slice none 0 0, .int .i64 0] _ rfl rfl (rg_start w).res rfl (by kernel_rfl) (by simp [Value.oneCell']) ?_; intro w5 hi5 hg5; obtain ⟨r0, r1, r2, r3, r4, r5, r6, r7, r8, r9, r10⟩ := eleven_cells hi5)
  all_goals exact bodyPost_ret (v := .tuple #[.agg #[.bool false, .int .i64 0, .int .u16 0, .int .u32 0, .int .u32 0, .slice none 0 0, .bool false, .int .u16 0, .slice none 0 0, .slice none 0 0, .int .i64 0], .int .i64 0, .int .i64 0, .int .i64 2]) (by simp [results, Try.results22, go_sem, r0, r1, r2, r3, r4, r5, r6, r7, r8, r9, r10]) rfl (rg_err 2 (by rw [HE.out]; rfl) (by rw [HE.out]; decide) ((rg_start w).item hi5 hg5).b)
set_option maxRecDepth 20000 in
set_option maxHeartbeats 4000000 in
theorem rget_1 (A : Option Addr) (n c : Nat) (l : List UInt8) (w : World) (h : Bts w A n c l) (h5 : l.length ≤ 512) (h12 : 12 ≤ l.length) (hv : byteN l 0 / 64 ≠ 2) :
    Calls Try.prog 22 #[.slice A n c] w fun e w' => RGpost l w e w' := by
  have HB := Lib.hid h
  have hn := h.len
  have hnc := h.nc
  have g : decide ((512 : Int) < (n : Int)) = false := by simp; omega
  have g2 : decide ((n : Int) < 12) = false := by simp; omega
  have hE : lookE l = 1 := by unfold lookE; rw [if_neg (by omega), if_neg (by omega), if_pos hv]
  have HE := Lib.hid hE
  clear hE
  obtain ⟨ad, rfl, hc0⟩ := bts_byte h (k := 0) (by omega)
  obtain ⟨ad', hA, hc1⟩ := bts_byte h (k := 1) (by omega)
  injection hA with hA; subst hA
  rw [add_zero'] at hc0
  have d0 := below_cell (rg_start w).b hc0
  have d1 : ((w.alloc (.cells #[.bool false, .int .i64 0, .int .u16 0, .int .u32 0, .int .u32 0, .slice none 0 0, .bool false, .int .u16 0, .slice none 0 0, .slice none 0 0, .int .i64 0] 39)).alloc (.cells #[.bool false, .int .i64 0, .int .u16 0, .int .u32 0, .int .u32 0, .slice none 0 0, .bool false, .int .u16 0, .slice none 0 0, .slice none 0 0, .int .i64 0] 39)).cell? ⟨ad.block, ad.off + 1, none⟩ = some (.int .u8 (byteN l 1)) := below_cell (rg_start w).b hc1
  have n0 : 0 < n := by omega
  have n1 : 1 < n := by omega
  have n1' : (1 : Int) < n := by omega
  have hy0 := byteN_lt l 0
  have hy1 := byteN_lt l 1
  have gv : (decide (((byteN l 0 : Nat) : Int) < 128) || decide ((191 : Int) < ((byteN l 0 : Nat) : Int))) = true := by simp; omega
  have hv2 : ((byteN l 0 : Nat) : Int) < 128 ∨ (191 : Int) < ((byteN l 0 : Nat) : Int) := by omega
  clear h
  go_enter Try.func22, Try.ntmps22
  go_wp2_with (refine wpList_store_blk rfl 39 (.tmp 2) (.tmp 35) rfl w.heap.size _ #[.bool false, .int .i64 0, .int .u16 0, .int .u32 0, .int .u32 0, .slice none 0 0, .bool false, .int .u16 0, .slice none 0 0, .slice none 0 0, .int .i64 0] _ rfl rfl (rg_start w).res rfl (by kernel_rfl) (by simp [Value.oneCell']) ?_; intro w5 hi5 hg5; obtain ⟨r0, r1, r2, r3, r4, r5, r6, r7, r8, r9, r10⟩ := eleven_cells hi5)
  all_goals exact bodyPost_ret (v := .tuple #[.agg #[.bool false, .int .i64 0, .int .u16 0, .int .u32 0, .int .u32 0, .slice none 0 0, .bool false, .int .u16 0, .slice none 0 0, .slice none 0 0, .int .i64 0], .int .i64 0, .int .i64 0, .int .i64 1]) (by simp [results, Try.results22, go_sem, r0, r1, r2, r3, r4, r5, r6, r7, r8, r9, r10]) rfl (rg_err 1 (by rw [HE.out]; rfl) (by rw [HE.out]; decide) ((rg_start w).item hi5 hg5).b)
set_option maxRecDepth 20000 in
set_option maxHeartbeats 4000000 in
theorem rget_4 (A : Option Addr) (n c : Nat) (l : List UInt8) (w : World) (h : Bts w A n c l) (h5 : l.length ≤ 512) (h12 : 12 ≤ l.length) (hv : byteN l 0 / 64 = 2) (hf : fbB (byteN l 1) = true) :
    Calls Try.prog 22 #[.slice A n c] w fun e w' => RGpost l w e w' := by
  have HB := Lib.hid h
  have hn := h.len
  have hnc := h.nc
  have g : decide ((512 : Int) < (n : Int)) = false := by simp; omega
  have g2 : decide ((n : Int) < 12) = false := by simp; omega
  have hE : lookE l = 4 := by unfold lookE; rw [if_neg (by omega), if_neg (by omega), if_neg (by omega), if_pos hf]
  have HE := Lib.hid hE
  clear hE
  obtain ⟨ad, rfl, hc0⟩ := bts_byte h (k := 0) (by omega)
  obtain ⟨ad', hA, hc1⟩ := bts_byte h (k := 1) (by omega)
  injection hA with hA; subst hA
  rw [add_zero'] at hc0
  have d0 := below_cell (rg_start w).b hc0
  have d1 : ((w.alloc (.cells #[.bool false, .int .i64 0, .int .u16 0, .int .u32 0, .int .u32 0, .slice none 0 0, .bool false, .int .u16 0, .slice none 0 0, .slice none 0 0, .int .i64 0] 39)).alloc (.cells #[.bool false, .int .i64 0, .int .u16 0, .int .u32 0, .int .u32 0, .slice none 0 0, .bool false, .int .u16 0, .slice none 0 0, .slice none 0 0, .int .i64 0] 39)).cell? ⟨ad.block, ad.off + 1, none⟩ = some (.int .u8 (byteN l 1)) := below_cell (rg_start w).b hc1
  have n0 : 0 < n := by omega
  have n1 : 1 < n := by omega
  have n1' : (1 : Int) < n := by omega
  have hy0 := byteN_lt l 0
  have hy1 := byteN_lt l 1
  have v1 : decide (((byteN l 0 : Nat) : Int) < 128) = false := by simp; omega
  have v2 : decide ((191 : Int) < ((byteN l 0 : Nat) : Int)) = false := by simp; omega
  have f1 : decide ((192 : Int) ≤ ((byteN l 1 : Nat) : Int)) = true := by simp; unfold fbB at hf; simp at hf; omega
  have f2 : decide (((byteN l 1 : Nat) : Int) ≤ 223) = true := by simp; unfold fbB at hf; simp at hf; omega
  clear hf
  clear h
  go_enter Try.func22, Try.ntmps22
  go_wp2_with (refine wpList_store_blk rfl 39 (.tmp 2) (.tmp 47) rfl w.heap.size _ #[.bool false, .int .i64 0, .int .u16 0, .int .u32 0, .int .u32 0, .slice none 0 0, .bool false, .int .u16 0, .slice none 0 0, .slice none 0 0, .int .i64 0] _ rfl rfl (rg_start w).res rfl (by kernel_rfl) (by simp [Value.oneCell']) ?_; intro w5 hi5 hg5; obtain ⟨r0, r1, r2, r3, r4, r5, r6, r7, r8, r9, r10⟩ := eleven_cells hi5)
  all_goals exact bodyPost_ret (v := .tuple #[.agg #[.bool false, .int .i64 0, .int .u16 0, .int .u32 0, .int .u32 0, .slice none 0 0, .bool false, .int .u16 0, .slice none 0 0, .slice none 0 0, .int .i64 0], .int .i64 0, .int .i64 0, .int .i64 4]) (by simp [results, Try.results22, go_sem, r0, r1, r2, r3, r4, r5, r6, r7, r8, r9, r10]) rfl (rg_err 4 (by rw [HE.out]; rfl) (by rw [HE.out]; decide) ((rg_start w).item hi5 hg5).b)
end Go.Proofs.Ytaomdinddccpeaa
