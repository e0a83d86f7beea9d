/-
What Get of package report reads.
-/
import Derived.Test.YtknlkmencdlpcaaRep1
import Derived.Test.YtknlkmencdlpcaaApp
import Derived.Deep.CutBlock
namespace Go.Proofs.Ytknlkmencdlpcaa
set_option linter.unusedVariables false
set_option linter.unusedSimpArgs false
open Go Go.RowKit

theorem slK : SliceT Try.prog 51 141 (.agg #[.int .u32 0, .int .u8 0, .int .u32 0, .int .u32 0, .int .u32 0, .int .u32 0, .int .u32 0]) 7 28 := sliceT_of Try.underlying51 (by kernel_rfl) rfl (by omega) (by omega)
/-- The block that stands in bytes. -/
def getK (l : List UInt8) (a : Nat) : Blk := ⟨getN l a 4, getN l (a + 4 : Nat) 1, getN l (a + 5 : Nat) 3, getN l (a + 8 : Nat) 4, getN l (a + 12 : Nat) 4, getN l (a + 16 : Nat) 4, getN l (a + 20 : Nat) 4⟩
def getKs (l : List UInt8) (a m : Nat) : List Blk := (List.range m).map fun j => getK l (a + 24 * j)
def bareI (k : Int) : Itm := ⟨k, 0, 0, 0, 0, 0, [], [], 0, []⟩
/-- The report that stands in bytes. -/
def getI (l : List UInt8) : Itm :=
  if rightE l ≠ 0 then bareI 0 else
    if byteN l 1 = 200 then ⟨200, getN l 4 4, getN l 8 8, getN l 16 4, getN l 20 4, getN l 24 4, getKs l 28 (manyR l), [], 0, []⟩ else ⟨byteN l 1, getN l 4 4, 0, 0, 0, 0, getKs l 8 (manyR l), [], 0, []⟩
/-- What Get keeps between its steps. -/
structure GetS (w0 w : World) (g : Nat) (X : Option Addr) (n c a : Nat) (it : Array Value) (A : Option Addr) (k cA : Nat) (bl : List Blk) : Prop where
  it : w.heap[w0.heap.size]? = some (.cells it 54 (0, 0))
  eye : Eye w g X n c a
  own : w.ownsRow w0.heap.size 141 7 (.slice A k cA) k (rowK bl)
  b : Below w0.heap.size w0 w
  lt : w0.heap.size < g
section
variable {w0 w w' : World} {g : Nat} {X : Option Addr} {n c a : Nat} {it : Array Value} {A : Option Addr} {k cA : Nat} {bl : List Blk}
theorem GetS.below (h : GetS w0 w g X n c a it A k cA bl) (hb : Below w.heap.size w w') : GetS w0 w' g X n c a it A k cA bl :=
  ⟨blk_below h.it hb, blk_below h.eye hb, h.own.kept (own_below hb) (own_none _), h.b.trans (hb.mono h.b.size), h.lt⟩
theorem GetS.alloc (h : GetS w0 w g X n c a it A k cA bl) (o : Obj) : GetS w0 (w.alloc o) g X n c a it A k cA bl := h.below ((Below.refl _ _).alloc (Nat.le_refl _) o)
theorem GetS.drew (h : GetS w0 w g X n c a it A k cA bl) : GetS w0 w.drew g X n c a it A k cA bl := h.below ((Below.refl _ _).drew)
theorem GetS.look {a' : Nat} (h : GetS w0 w g X n c a it A k cA bl) (he : Eye w' g X n c a') (hg : w.grownBy w' (some g)) : GetS w0 w' g X n c a' it A k cA bl :=
  ⟨(hg.block _ (blk_in h.it) (fun e => by injection e with e; have := h.lt; omega)).trans h.it, he, h.own.kept hg (own_off h.own h.eye (by decide)), h.b.grown hg h.b.size (fun q hq => by injection hq with hq; have := h.lt; omega), h.lt⟩
theorem GetS.item {it' : Array Value} (h : GetS w0 w g X n c a it A k cA bl) (hi : w'.heap[w0.heap.size]? = some (.cells it' 54 (0, 0))) (hg : w.grownBy w' (some w0.heap.size)) : GetS w0 w' g X n c a it' A k cA bl :=
  ⟨hi, (hg.block _ (blk_in h.eye) (fun e => by injection e with e; have := h.lt; omega)).trans h.eye, h.own.kept hg (own_off h.own h.it (by decide)), h.b.grown hg h.b.size (fun q hq => by injection hq with hq; omega), h.lt⟩
end
theorem eyeget_v (w : World) (g : Nat) (X : Option Addr) (n c a : Nat) (l : List UInt8) (S : Int) (s : Nat) (hS : S = s) (he : Eye w g X n c a) (hb : Bts w X n c l) (hs : s ≤ 8) (ha : a ≤ 1000000) (x a2 : Nat) (hx : getN l a S = x) (ha2 : a + s = a2) :
    Calls Try.prog 159 #[.pointer (some ⟨g, 0, none⟩), .int .i64 S] w fun e w' => e = .returned (.int .u64 x) ∧ Eye w' g X n c a2 ∧ w.grownBy w' (some g) := by
  subst hx ha2 hS
  exact eyeget_any w g X n c a l s s rfl he hb hs ha
theorem eyeword_v (w : World) (g : Nat) (X : Option Addr) (n c a : Nat) (l : List UInt8) (he : Eye w g X n c a) (hb : Bts w X n c l) (ha : a ≤ 1000000) (x a2 : Nat) (hx : getN l a 4 = x) (ha2 : a + 4 = a2) :
    Calls Try.prog 158 #[.pointer (some ⟨g, 0, none⟩)] w fun e w' => e = .returned (.int .u32 x) ∧ Eye w' g X n c a2 ∧ w.grownBy w' (some g) := by
  subst hx ha2
  exact eyeword_any w g X n c a l he hb ha
theorem getK_ok (l : List UInt8) (a : Nat) : (getK l a).Ok :=
  ⟨getN_ltS l a 4, getN_ltS l (a + 4) 1, Nat.lt_trans (getN_ltS l (a + 5) 3) (by omega), getN_ltS l (a + 8) 4, getN_ltS l (a + 12) 4, getN_ltS l (a + 16) 4, getN_ltS l (a + 20) 4⟩
theorem getKs_succ (l : List UInt8) (a m : Nat) : getKs l a (m + 1) = getKs l a m ++ [getK l (a + 24 * m)] := by
  unfold getKs
  rw [List.range_succ, List.map_append]; rfl
theorem getKs_length (l : List UInt8) (a m : Nat) : (getKs l a m).length = m := by simp [getKs]
theorem rowK_snoc (l : List Blk) (b : Blk) : rowK (l ++ [b]) = rowK l ++ blkV b := by simp [rowK]
section
variable {w0 w w' : World} {g : Nat} {X : Option Addr} {n c a : Nat} {it : Array Value} {A : Option Addr} {k cA : Nat} {bl : List Blk}
/-- A block of the row's own kind that is newer than the row. -/
theorem GetS.newer {p : Nat} {cs : Array Value} (h : GetS w0 w g X n c a it A k cA bl) (hn : ∀ b, A.map Addr.block = some b → b < p) (hp : w.heap[p]? = some (.cells cs 141 (0, 0))) (hg : w.grownBy w' (some p)) (hw : w0.heap.size ≤ p) : GetS w0 w' g X n c a it A k cA bl := by
  refine ⟨(hg.block _ (blk_in h.it) (fun e => ne_kinds h.it hp (by decide) (by injection e))).trans h.it, (hg.block _ (blk_in h.eye) (fun e => ne_kinds h.eye hp (by decide) (by injection e))).trans h.eye, h.own.kept hg ?_, h.b.grown hg h.b.size (fun q hq => by injection hq with hq; omega), h.lt⟩
  rw [ownBlock_slice]
  exact .inr fun e => Nat.lt_irrefl _ (hn _ e)
theorem GetS.app {A1 : Option Addr} {c1 : Nat} {b : Blk} (h : GetS w0 w g X n c a it A k cA bl) {lit : Obj} (hg : (w.alloc lit).grownBy w' (A.map Addr.block)) (ho : w'.ownsRow w0.heap.size 141 7 (.slice A1 (k + 1) c1) (k + 1) (rowK bl ++ blkV b)) :
    GetS w0 w' g X n c a it A1 (k + 1) c1 (bl ++ [b]) := by
  have h' := h.alloc lit
  have hi := own_off h'.own h'.it (by decide)
  have he := own_off h'.own h'.eye (by decide)
  rw [ownBlock_slice] at hi he
  refine ⟨(hg.block _ (blk_in h'.it) (fun e => ?_)).trans h'.it, (hg.block _ (blk_in h'.eye) (fun e => ?_)).trans h'.eye, by rw [rowK_snoc]; exact ho, h'.b.grown hg h'.b.size (fun q hq => own_from h'.own q hq), h'.lt⟩
  · rcases hi with hi | hi
    · rw [hi] at e; cases e
    · exact hi e.symm
  · rcases he with he | he
    · rw [he] at e; cases e
    · exact he e.symm
theorem GetS.fresh (h : GetS w0 w g X n c a it A k cA bl) : ∀ b, A.map Addr.block = some b → b < w.heap.size := fun b hb => (h.own.lt b (by rw [ownBlock_slice]; exact hb)).2
end
theorem blkV_one (b : Blk) : ∀ u ∈ blkV b, u.oneCell' = true := by
  intro u hu
  simp only [blkV, List.mem_cons, List.not_mem_nil, or_false] at hu
  rcases hu with rfl | rfl | rfl | rfl | rfl | rfl | rfl <;> rfl
theorem lit_blk (w : World) (b : Blk) : Rd (w.alloc (.cells #[.int .u32 b.s, .int .u8 b.lo, .int .u32 b.t, .int .u32 b.h, .int .u32 b.j, .int .u32 b.la, .int .u32 b.d] 141)) (some ⟨w.heap.size, 0, none⟩) (blkV b) := by
  intro j u hu
  refine ⟨_, rfl, ?_⟩
  rw [add_lit, cell_of_row _ _ _ _ _ _ (heap_alloc_new w _)]
  rw [← hu]
  show ((blkV b).toArray)[j]? = _
  exact List.getElem?_toArray
theorem heap_keep {w w' : World} {p g : Nat} {o : Obj} (h : w.heap[p]? = some o) (hg : w.grownBy w' (some g)) (hne : g < p) : w'.heap[p]? = some o := (hg.block p (blk_in h) (fun e => by injection e with e; omega)).trans h
theorem eye_lt {w : World} {g : Nat} {X : Option Addr} {n c a : Nat} (h : Eye w g X n c a) : g < w.heap.size := blk_in h
theorem right_ok {l : List UInt8} (h : rightE l = 0) : 4 ≤ l.length ∧ byteN l 0 / 32 = 4 ∧ knownB (byteN l 1) = true ∧ manyR l ≤ 15 ∧ longR l ≤ l.length ∧ (getN l 2 2 + 1) * 4 = longR l := by
  unfold rightE at h
  split at h
  · cases h
  split at h
  · cases h
  split at h
  · cases h
  split at h
  · cases h
  split at h
  · cases h
  rename_i h1 h2 h3 h4 h5
  refine ⟨by omega, by omega, by simpa using h3, by omega, by omega, by omega⟩
set_option maxRecDepth 20000 in
set_option maxHeartbeats 4000000 in
theorem reget_any (w : World) (X : Option Addr) (n c : Nat) (l : List UInt8) (hb : Bts w X n c l) :
    Calls Try.prog 135 #[.slice X n c] w fun e w' => ∃ A k cA, e = .returned (.tuple #[.agg #[.int .i64 (getI l).k, .int .u32 (getI l).s, .int .u64 (getI l).ntp, .int .u32 (getI l).tm, .int .u32 (getI l).pk, .int .u32 (getI l).oc, .slice A k cA, .slice none 0 0, .int .u32 0, .slice none 0 0], .int .i64 (rightN l : Nat), .int .i64 (rightE l : Nat)]) ∧
      w'.ownsRow w.heap.size 141 7 (.slice A k cA) k (rowK (getI l).bl) ∧ Below w.heap.size w w' := by
  have HB := Lib.hid hb
  clear hb
  by_cases he : rightE l = 0
  case neg =>
    have hne : ((((rightE l : Nat) : Int)) != 0) = true := by simp; omega
    have HNE := Lib.hid he
    clear he
    have hN : rightN l = 0 := by unfold rightN; rw [if_neg HNE.out]
    have HGI : Hid (getI l = bareI 0) := by unfold getI; rw [if_pos HNE.out]; rfl
    go_enter Try.func135, Try.ntmps135
    go_wp2_with (first
      | (go_at_call 157; (with_reducible refine (right_any _ X n c l (HB.out.below ((Below.refl _ _).alloc (Nat.le_refl _) _))).mono ?_); rintro e w1 ⟨rfl, hb1⟩; have hb2 := ((Below.refl w.heap.size w).alloc (Nat.le_refl _) _).trans (hb1.mono (by simp)); have hit := blk_below (blk_alloc _ _) hb1)
      | (refine wpList_store_blk rfl 54 (.tmp 2) (.tmp 14) rfl w.heap.size _ #[.int .i64 0, .int .u32 0, .int .u64 0, .int .u32 0, .int .u32 0, .int .u32 0, .slice none 0 0, .slice none 0 0, .int .u32 0, .slice none 0 0] _ rfl rfl hit rfl (by kernel_rfl) (by simp [Value.oneCell']) ?_; intro w5 hi5 hg5; obtain ⟨r0, r1, r2, r3, r4, r5, r6, r7, r8, r9⟩ := ten_cells hi5))
    exact bodyPost_ret (v := .tuple #[.agg #[.int .i64 0, .int .u32 0, .int .u64 0, .int .u32 0, .int .u32 0, .int .u32 0, .slice none 0 0, .slice none 0 0, .int .u32 0, .slice none 0 0], .int .i64 0, .int .i64 (rightE l : Nat)]) (by simp [results, Try.results135, go_sem, r0, r1, r2, r3, r4, r5, r6, r7, r8, r9]) rfl
      ⟨none, 0, 0, by rw [HGI.out, hN]; rfl, by rw [HGI.out]; exact World.ownsRow_nil _ _ _ _, hb2.grown hg5 hb2.size (fun q hq => by injection hq with hq; omega)⟩
  have heI : ((rightE l : Nat) : Int) = 0 := by omega
  obtain ⟨h4, _, hkn, h15, hlo, _⟩ := right_ok he
  have hn := HB.out.len
  have hcm := HB.out.cm
  have hnc := HB.out.nc
  obtain ⟨ad, rfl, hc1⟩ := bts_byte HB.out (k := 1) (by omega)
  obtain ⟨ad', hA, hc0⟩ := bts_byte HB.out (k := 0) (by omega)
  injection hA with hA; subst hA
  have HC1 := Lib.hid hc1
  rw [add_zero'] at hc0
  have HC0 := Lib.hid hc0
  have hy := byteN_lt l 1
  have hn0 : 1 < n := by omega
  have hn1 : (1 : Int) < n := by omega
  have HE := Lib.hid he
  have HKn := Lib.hid hkn
  have HLo := Lib.hid hlo
  clear he hc1 hc0 hkn hlo
  go_enter Try.func135, Try.ntmps135
  go_upto_region 5 with (first
    | (go_at_call 157; (with_reducible refine (right_any _ (some ad) n c l (HB.out.below ((Below.refl _ _).alloc (Nat.le_refl _) _))).mono ?_); rintro e w1 ⟨rfl, hb1⟩; rw [heI]; have hb2 := ((Below.refl w.heap.size w).alloc (Nat.le_refl _) _).trans (hb1.mono (by simp)); have hit := blk_below (blk_alloc _ _) hb1))
  have hG : GetS w (w1.alloc (.cells #[.slice (some ad) n c, .int .i64 4] 210)) w1.heap.size (some ad) n c 4 _ none 0 0 [] :=
    ⟨blk_below hit ((Below.refl _ _).alloc (Nat.le_refl _) _), heap_alloc_new w1 _, World.ownsRow_nil _ _ _ _, hb2.alloc hb2.size _, blk_in hit⟩
  generalize w1.alloc (.cells #[.slice (some ad) n c, .int .i64 4] 210) = w2 at *
  go_cut [] from 19 to 25 (fun wx => GetS w wx w1.heap.size (some ad) n c 8 #[.int .i64 (byteN l 1), .int .u32 (getN l 4 4), .int .u64 0, .int .u32 0, .int .u32 0, .int .u32 0, .slice none 0 0, .slice none 0 0, .int .u32 0, .slice none 0 0] none 0 0 [])
  case first =>
    refine region_plan (calmB_sound _) (.fork [0, 1, 4] (.leaf [5, 2, 3, 6, 7]) (.check [2] 3 (.leaf [3, 5, 6, 7]))) (by kernel_rfl) (by kernel_rfl) (by kernel_rfl) ?_
    have hG := hG.drew
    generalize w2.drew = w3 at *
    have c1 : w3.cell? ⟨ad.block, ad.off + 1, none⟩ = _ := below_cell hG.b HC1.out
    refine wpPlan_fork fun K hK => ?_
    simp only [List.filterMap_cons, List.filterMap_nil, List.getElem?_toArray, List.getElem?_cons_succ, List.getElem?_cons_zero]
    go_wp2
    refine hK _ _ ?_ ?_
    · refine wpPlan_leaf fun K1 hK1 => ?_
      simp only [List.filterMap_cons, List.filterMap_nil, List.getElem?_toArray, List.getElem?_cons_succ, List.getElem?_cons_zero]
      change wpList _ _ _ [_, _, _, _, _] _ _
      go_wp2_with (first
        | (go_at_call 158; (with_reducible refine (eyeword_any _ w1.heap.size (some ad) n c 4 l hG.eye (HB.out.below hG.b) (by omega)).mono ?_); rintro e w4 ⟨rfl, hE4, hG4⟩; have hG := hG.look hE4 hG4; have c1 : w4.cell? ⟨ad.block, ad.off + 1, none⟩ = _ := below_cell hG.b HC1.out)
        | (refine wpList_store_blk rfl 54 (.tmp 2) (.tmp 25) rfl w.heap.size _ #[.int .i64 (byteN l 1), .int .u32 (getN l 4 4), .int .u64 0, .int .u32 0, .int .u32 0, .int .u32 0, .slice none 0 0, .slice none 0 0, .int .u32 0, .slice none 0 0] _ rfl rfl hG.it rfl (by kernel_rfl) (by simp [Value.oneCell']) ?_; intro w5 hi5 hg5; have hG := hG.item hi5 hg5))
      go_meet
      exact hG
    · refine wpPlan_check fun K1 hK1' => ?_
      simp only [List.filterMap_cons, List.filterMap_nil, List.getElem?_toArray, List.getElem?_cons_succ, List.getElem?_cons_zero]
      change wpList _ _ _ [_] _ _
      go_wp2
      refine hK1' _ _ (fun _ => ⟨_, _, rfl⟩) ?_
      refine wpPlan_leaf fun K2 hK2' => ?_
      simp only [List.filterMap_cons, List.filterMap_nil, List.getElem?_toArray, List.getElem?_cons_succ, List.getElem?_cons_zero]
      change wpList _ _ _ [_, _, _, _] _ _
      go_wp2_with (first
        | (go_at_call 158; (with_reducible refine (eyeword_any _ w1.heap.size (some ad) n c 4 l hG.eye (HB.out.below hG.b) (by omega)).mono ?_); rintro e w4 ⟨rfl, hE4, hG4⟩; have hG := hG.look hE4 hG4)
        | (refine wpList_store_blk rfl 54 (.tmp 2) (.tmp 25) rfl w.heap.size _ #[.int .i64 (byteN l 1), .int .u32 (getN l 4 4), .int .u64 0, .int .u32 0, .int .u32 0, .int .u32 0, .slice none 0 0, .slice none 0 0, .int .u32 0, .slice none 0 0] _ rfl rfl hG.it rfl (by kernel_rfl) (by simp [Value.oneCell']) ?_; intro w5 hi5 hg5; have hG := hG.item hi5 hg5))
      go_meet
      exact hG
  case rest =>
    have hG := hcut
    have hx := byteN_lt l 0
    have a31 : bits .and .u8 (byteN l 0) 31 = ((manyR l : Nat) : Int) := and31 _ hx
    have c0 := below_cell hG.b HC0.out
    obtain ⟨y0, y1, y2, y3, y4, y5, y6, y7, y8, y9⟩ := ten_cells hG.it
    by_cases h200 : byteN l 1 = 200
    · have hq : (((byteN l 1 : Nat) : Int) == 200) = true := by simp [h200]
      have H200 := Lib.hid h200
      clear h200
      go_wp2_with (first
        | (go_at_call 159; (with_reducible refine (eyeget_any _ w1.heap.size (some ad) n c 8 l 8 8 rfl hG.eye (HB.out.below hG.b) (by omega) (by omega)).mono ?_); rintro e w4 ⟨rfl, hE4, hG4⟩; have hG4 := hG.look hE4 hG4)
        | (go_at_call 158; (with_reducible refine (eyeword_any _ w1.heap.size (some ad) n c 16 l hG4.eye (HB.out.below hG4.b) (by omega)).mono ?_); rintro e w5 ⟨rfl, hE5, hG5⟩; have hG5 := hG4.look hE5 hG5)
        | (go_at_call 158; (with_reducible refine (eyeword_any _ w1.heap.size (some ad) n c 20 l hG5.eye (HB.out.below hG5.b) (by omega)).mono ?_); rintro e w6 ⟨rfl, hE6, hG6⟩; have hG6 := hG5.look hE6 hG6)
        | (go_at_call 158; (with_reducible refine (eyeword_any _ w1.heap.size (some ad) n c 24 l hG6.eye (HB.out.below hG6.b) (by omega)).mono ?_); rintro e w7 ⟨rfl, hE7, hG7⟩; have hG7 := hG6.look hE7 hG7; obtain ⟨⟨p2, f2⟩, ⟨p3, f3⟩, ⟨p4, f4⟩, ⟨p5, f5⟩, hi8, hg8⟩ := ten_2345 hG7.it (.int .u64 (getN l 8 8)) (.int .u32 (getN l 16 4)) (.int .u32 (getN l 20 4)) (.int .u32 (getN l 24 4)); have hG8 := hG7.item hi8 hg8; have c8 := below_cell hG8.b HC0.out))
      have HG0 := Lib.hid hG8
      have hm15 : manyR l ≤ 15 := h15
      go_loopw [45] (fun ix wr => ∃ (k : Nat) (A : Option Addr) (cA : Nat), ix = .int .u8 k ∧ k ≤ manyR l ∧ Hid (GetS w wr w1.heap.size (some ad) n c (28 + 24 * k) #[.int .i64 (byteN l 1), .int .u32 (getN l 4 4), .int .u64 (getN l 8 8), .int .u32 (getN l 16 4), .int .u32 (getN l 20 4), .int .u32 (getN l 24 4), .slice A k cA, .slice none 0 0, .int .u32 0, .slice none 0 0] A k cA (getKs l 28 k))) (fun ix _ => manyR l - (intOf ix).toNat)
      case atStart => exact ⟨0, none, 0, rfl, Nat.zero_le _, HG0⟩
      case round =>
        obtain ⟨k, A, cA, rfl, hkm, HGk⟩ := hrel
        by_cases hlt : k < manyR l
        · have hak : 28 + 24 * (k + 1) = (28 + 24 * k) + 24 := by omega
          have ha : 28 + 24 * k ≤ 1000 := by omega
          have HS := Lib.hid (getKs_succ l 28 k)
          have HA := Lib.hid hak
          generalize hgb : getK l (28 + 24 * k) = b at *
          generalize 28 + 24 * k = a at *
          have hbo : b.Ok := by rw [← hgb]; exact getK_ok l a
          have q1 := hbo.lo
          have q2 := hbo.t
          have HGB : Hid (getN l a 4 = b.s ∧ getN l (a + 4 : Nat) 1 = b.lo ∧ getN l (a + 5 : Nat) 3 = b.t ∧ getN l (a + 8 : Nat) 4 = b.h ∧ getN l (a + 12 : Nat) 4 = b.j ∧ getN l (a + 16 : Nat) 4 = b.la ∧ getN l (a + 20 : Nat) 4 = b.d) := by rw [← hgb]; exact ⟨rfl, rfl, rfl, rfl, rfl, rfl, rfl⟩
          clear hak hbo hgb
          go_wp2_with (first
            | (go_at_call 158; (with_reducible refine (eyeword_v wr w1.heap.size (some ad) n c a l HGk.out.eye (HB.out.below HGk.out.b) (by omega) b.s (a + 4) HGB.out.1 rfl).mono ?_); rintro e w2 ⟨rfl, hE, hg⟩; have HG2 := Lib.hid (HGk.out.look hE hg); clear hE hg)
            | (go_at_call 159; (with_reducible refine (eyeget_v w2 w1.heap.size (some ad) n c (a + 4) l 1 1 rfl HG2.out.eye (HB.out.below HG2.out.b) (by omega) (by omega) b.lo (a + 5) HGB.out.2.1 rfl).mono ?_); rintro e w3 ⟨rfl, hE, hg⟩; have HG3 := Lib.hid (HG2.out.look hE hg); clear hE hg)
            | (go_at_call 159; (with_reducible refine (eyeget_v w3 w1.heap.size (some ad) n c (a + 5) l 3 3 rfl HG3.out.eye (HB.out.below HG3.out.b) (by omega) (by omega) b.t (a + 8) HGB.out.2.2.1 rfl).mono ?_); rintro e w4 ⟨rfl, hE, hg⟩; have HG4 := Lib.hid (HG3.out.look hE hg); clear hE hg)
            | (go_at_call 158; (with_reducible refine (eyeword_v _ w1.heap.size (some ad) n c (a + 8) l (HG4.out.alloc _).eye (HB.out.below (HG4.out.alloc _).b) (by omega) b.h (a + 12) HGB.out.2.2.2.1 rfl).mono ?_); rintro e w5 ⟨rfl, hE, hg⟩; have HG5 := Lib.hid ((HG4.out.alloc _).look hE hg); have HX5 := Lib.hid (heap_keep (heap_alloc_new w4 _) hg (eye_lt HG4.out.eye)); clear hE hg)
            | (go_at_call 158; (with_reducible refine (eyeword_v w5 w1.heap.size (some ad) n c (a + 12) l HG5.out.eye (HB.out.below HG5.out.b) (by omega) b.j (a + 16) HGB.out.2.2.2.2.1 rfl).mono ?_); rintro e w6 ⟨rfl, hE, hg⟩; have HG6 := Lib.hid (HG5.out.look hE hg); have HX6 := Lib.hid (heap_keep HX5.out hg (eye_lt HG4.out.eye)); clear hE hg)
            | (go_at_call 158; (with_reducible refine (eyeword_v w6 w1.heap.size (some ad) n c (a + 16) l HG6.out.eye (HB.out.below HG6.out.b) (by omega) b.la (a + 20) HGB.out.2.2.2.2.2.1 rfl).mono ?_); rintro e w7 ⟨rfl, hE, hg⟩; have HG7 := Lib.hid (HG6.out.look hE hg); have HX7 := Lib.hid (heap_keep HX6.out hg (eye_lt HG4.out.eye)); clear hE hg)
            | (go_at_call 158; (with_reducible refine (eyeword_v w7 w1.heap.size (some ad) n c (a + 20) l HG7.out.eye (HB.out.below HG7.out.b) (by omega) b.d (a + 24) HGB.out.2.2.2.2.2.2 rfl).mono ?_); rintro e w8 ⟨rfl, hE, hg⟩; have hG8 := HG7.out.look hE hg; have hX8 := heap_keep HX7.out hg (eye_lt HG4.out.eye); clear hE hg; obtain ⟨⟨p3, f3⟩, ⟨p4, f4⟩, ⟨p5, f5⟩, ⟨p6, f6⟩, hi9, hg9⟩ := seven_3456 hX8 (.int .u32 b.h) (.int .u32 b.j) (.int .u32 b.la) (.int .u32 b.d); have hG9 := hG8.newer HG4.out.fresh hX8 hg9 HG4.out.b.size; generalize hW : (((w8.setCell ⟨w4.heap.size, 3, none⟩ (.int .u32 b.h)).setCell ⟨w4.heap.size, 4, none⟩ (.int .u32 b.j)).setCell ⟨w4.heap.size, 5, none⟩ (.int .u32 b.la)).setCell ⟨w4.heap.size, 6, none⟩ (.int .u32 b.d) = w9 at *; obtain ⟨s0, s1, s2, s3, s4, s5, s6⟩ := seven_cells hi9; obtain ⟨t0, t1, t2, t3, t4, t5, t6, t7, t8, t9⟩ := ten_cells hG9.it; clear hG8 hX8 hi9 hg9)
            | (at_builtin; refine wpList_app slK rfl _ _ rfl w.heap.size A k cA (rowK (getKs l 28 k)) rfl (hG9.own.alloc _) (some ⟨w9.heap.size, 0, none⟩) 1 1 (blkV b) rfl rfl (lit_blk w9 b) (blkV_one b) (by omega) (hG9.alloc _).b.size ?_; intro A1 c1 wa ho hg hA; have hGa := hG9.app hg ho; obtain ⟨⟨z6, e6⟩, hib, hgb⟩ := ten_6 hGa.it (.slice A1 (k + 1) c1); have HGb := Lib.hid (hGa.item hib hgb); clear hGa ho hg hib hgb))
          exact ⟨⟨k + 1, A1, c1, rfl, by omega, by rw [HA.out, HS.out]; exact HGb⟩, by simp [intOf]; omega⟩
        · have hkk : k = manyR l := by omega
          subst hkk
          obtain ⟨t0, t1, t2, t3, t4, t5, t6, t7, t8, t9⟩ := ten_cells HGk.out.it
          go_wp2_with (refine wpList_store_blk rfl 54 (.tmp 2) (.tmp 75) rfl w.heap.size _ #[.int .i64 (byteN l 1), .int .u32 (getN l 4 4), .int .u64 (getN l 8 8), .int .u32 (getN l 16 4), .int .u32 (getN l 20 4), .int .u32 (getN l 24 4), .slice A (manyR l) cA, .slice none 0 0, .int .u32 0, .slice none 0 0] _ rfl rfl HGk.out.it rfl (by kernel_rfl) (by simp [Value.oneCell']) ?_; intro w5 hi5 hg5; have hG5 := HGk.out.item hi5 hg5)
          obtain ⟨r0, r1, r2, r3, r4, r5, r6, r7, r8, r9⟩ := ten_cells hG5.it
          have hgi : getI l = ⟨byteN l 1, getN l 4 4, (getN l 8 8), (getN l 16 4), (getN l 20 4), (getN l 24 4), getKs l 28 (manyR l), [], 0, []⟩ := by
            unfold getI
            rw [if_neg (by simp [HE.out]), if_pos H200.out, H200.out]; rfl
          exact bodyPost_ret (v := .tuple #[.agg #[.int .i64 (byteN l 1), .int .u32 (getN l 4 4), .int .u64 (getN l 8 8), .int .u32 (getN l 16 4), .int .u32 (getN l 20 4), .int .u32 (getN l 24 4), .slice A (manyR l) cA, .slice none 0 0, .int .u32 0, .slice none 0 0], .int .i64 (rightN l), .int .i64 0]) (by simp [results, Try.results135, go_sem, r0, r1, r2, r3, r4, r5, r6, r7, r8, r9]) rfl ⟨A, manyR l, cA, by rw [hgi, heI] <;> rfl, by rw [hgi]; exact hG5.own, hG5.b⟩
    · have hq : (((byteN l 1 : Nat) : Int) == 200) = false := by simp; omega
      have H200 := Lib.hid h200
      clear h200
      go_wp2_with fail
      have HG0 := Lib.hid hG
      have hm15 : manyR l ≤ 15 := h15
      go_loopw [45] (fun ix wr => ∃ (k : Nat) (A : Option Addr) (cA : Nat), ix = .int .u8 k ∧ k ≤ manyR l ∧ Hid (GetS w wr w1.heap.size (some ad) n c (8 + 24 * k) #[.int .i64 (byteN l 1), .int .u32 (getN l 4 4), .int .u64 0, .int .u32 0, .int .u32 0, .int .u32 0, .slice A k cA, .slice none 0 0, .int .u32 0, .slice none 0 0] A k cA (getKs l 8 k))) (fun ix _ => manyR l - (intOf ix).toNat)
      case atStart => exact ⟨0, none, 0, rfl, Nat.zero_le _, HG0⟩
      case round =>
        obtain ⟨k, A, cA, rfl, hkm, HGk⟩ := hrel
        by_cases hlt : k < manyR l
        · have hak : 8 + 24 * (k + 1) = (8 + 24 * k) + 24 := by omega
          have ha : 8 + 24 * k ≤ 1000 := by omega
          have HS := Lib.hid (getKs_succ l 8 k)
          have HA := Lib.hid hak
          generalize hgb : getK l (8 + 24 * k) = b at *
          generalize 8 + 24 * k = a at *
          have hbo : b.Ok := by rw [← hgb]; exact getK_ok l a
          have q1 := hbo.lo
          have q2 := hbo.t
          have HGB : Hid (getN l a 4 = b.s ∧ getN l (a + 4 : Nat) 1 = b.lo ∧ getN l (a + 5 : Nat) 3 = b.t ∧ getN l (a + 8 : Nat) 4 = b.h ∧ getN l (a + 12 : Nat) 4 = b.j ∧ getN l (a + 16 : Nat) 4 = b.la ∧ getN l (a + 20 : Nat) 4 = b.d) := by rw [← hgb]; exact ⟨rfl, rfl, rfl, rfl, rfl, rfl, rfl⟩
          clear hak hbo hgb
          go_wp2_with (first
            | (go_at_call 158; (with_reducible refine (eyeword_v wr w1.heap.size (some ad) n c a l HGk.out.eye (HB.out.below HGk.out.b) (by omega) b.s (a + 4) HGB.out.1 rfl).mono ?_); rintro e w2 ⟨rfl, hE, hg⟩; have HG2 := Lib.hid (HGk.out.look hE hg); clear hE hg)
            | (go_at_call 159; (with_reducible refine (eyeget_v w2 w1.heap.size (some ad) n c (a + 4) l 1 1 rfl HG2.out.eye (HB.out.below HG2.out.b) (by omega) (by omega) b.lo (a + 5) HGB.out.2.1 rfl).mono ?_); rintro e w3 ⟨rfl, hE, hg⟩; have HG3 := Lib.hid (HG2.out.look hE hg); clear hE hg)
            | (go_at_call 159; (with_reducible refine (eyeget_v w3 w1.heap.size (some ad) n c (a + 5) l 3 3 rfl HG3.out.eye (HB.out.below HG3.out.b) (by omega) (by omega) b.t (a + 8) HGB.out.2.2.1 rfl).mono ?_); rintro e w4 ⟨rfl, hE, hg⟩; have HG4 := Lib.hid (HG3.out.look hE hg); clear hE hg)
            | (go_at_call 158; (with_reducible refine (eyeword_v _ w1.heap.size (some ad) n c (a + 8) l (HG4.out.alloc _).eye (HB.out.below (HG4.out.alloc _).b) (by omega) b.h (a + 12) HGB.out.2.2.2.1 rfl).mono ?_); rintro e w5 ⟨rfl, hE, hg⟩; have HG5 := Lib.hid ((HG4.out.alloc _).look hE hg); have HX5 := Lib.hid (heap_keep (heap_alloc_new w4 _) hg (eye_lt HG4.out.eye)); clear hE hg)
            | (go_at_call 158; (with_reducible refine (eyeword_v w5 w1.heap.size (some ad) n c (a + 12) l HG5.out.eye (HB.out.below HG5.out.b) (by omega) b.j (a + 16) HGB.out.2.2.2.2.1 rfl).mono ?_); rintro e w6 ⟨rfl, hE, hg⟩; have HG6 := Lib.hid (HG5.out.look hE hg); have HX6 := Lib.hid (heap_keep HX5.out hg (eye_lt HG4.out.eye)); clear hE hg)
            | (go_at_call 158; (with_reducible refine (eyeword_v w6 w1.heap.size (some ad) n c (a + 16) l HG6.out.eye (HB.out.below HG6.out.b) (by omega) b.la (a + 20) HGB.out.2.2.2.2.2.1 rfl).mono ?_); rintro e w7 ⟨rfl, hE, hg⟩; have HG7 := Lib.hid (HG6.out.look hE hg); have HX7 := Lib.hid (heap_keep HX6.out hg (eye_lt HG4.out.eye)); clear hE hg)
            | (go_at_call 158; (with_reducible refine (eyeword_v w7 w1.heap.size (some ad) n c (a + 20) l HG7.out.eye (HB.out.below HG7.out.b) (by omega) b.d (a + 24) HGB.out.2.2.2.2.2.2 rfl).mono ?_); rintro e w8 ⟨rfl, hE, hg⟩; have hG8 := HG7.out.look hE hg; have hX8 := heap_keep HX7.out hg (eye_lt HG4.out.eye); clear hE hg; obtain ⟨⟨p3, f3⟩, ⟨p4, f4⟩, ⟨p5, f5⟩, ⟨p6, f6⟩, hi9, hg9⟩ := seven_3456 hX8 (.int .u32 b.h) (.int .u32 b.j) (.int .u32 b.la) (.int .u32 b.d); have hG9 := hG8.newer HG4.out.fresh hX8 hg9 HG4.out.b.size; generalize hW : (((w8.setCell ⟨w4.heap.size, 3, none⟩ (.int .u32 b.h)).setCell ⟨w4.heap.size, 4, none⟩ (.int .u32 b.j)).setCell ⟨w4.heap.size, 5, none⟩ (.int .u32 b.la)).setCell ⟨w4.heap.size, 6, none⟩ (.int .u32 b.d) = w9 at *; obtain ⟨s0, s1, s2, s3, s4, s5, s6⟩ := seven_cells hi9; obtain ⟨t0, t1, t2, t3, t4, t5, t6, t7, t8, t9⟩ := ten_cells hG9.it; clear hG8 hX8 hi9 hg9)
            | (at_builtin; refine wpList_app slK rfl _ _ rfl w.heap.size A k cA (rowK (getKs l 8 k)) rfl (hG9.own.alloc _) (some ⟨w9.heap.size, 0, none⟩) 1 1 (blkV b) rfl rfl (lit_blk w9 b) (blkV_one b) (by omega) (hG9.alloc _).b.size ?_; intro A1 c1 wa ho hg hA; have hGa := hG9.app hg ho; obtain ⟨⟨z6, e6⟩, hib, hgb⟩ := ten_6 hGa.it (.slice A1 (k + 1) c1); have HGb := Lib.hid (hGa.item hib hgb); clear hGa ho hg hib hgb))
          exact ⟨⟨k + 1, A1, c1, rfl, by omega, by rw [HA.out, HS.out]; exact HGb⟩, by simp [intOf]; omega⟩
        · have hkk : k = manyR l := by omega
          subst hkk
          obtain ⟨t0, t1, t2, t3, t4, t5, t6, t7, t8, t9⟩ := ten_cells HGk.out.it
          go_wp2_with (refine wpList_store_blk rfl 54 (.tmp 2) (.tmp 75) rfl w.heap.size _ #[.int .i64 (byteN l 1), .int .u32 (getN l 4 4), .int .u64 0, .int .u32 0, .int .u32 0, .int .u32 0, .slice A (manyR l) cA, .slice none 0 0, .int .u32 0, .slice none 0 0] _ rfl rfl HGk.out.it rfl (by kernel_rfl) (by simp [Value.oneCell']) ?_; intro w5 hi5 hg5; have hG5 := HGk.out.item hi5 hg5)
          obtain ⟨r0, r1, r2, r3, r4, r5, r6, r7, r8, r9⟩ := ten_cells hG5.it
          have hgi : getI l = ⟨byteN l 1, getN l 4 4, 0, 0, 0, 0, getKs l 8 (manyR l), [], 0, []⟩ := by
            unfold getI
            rw [if_neg (by simp [HE.out]), if_neg H200.out]
          exact bodyPost_ret (v := .tuple #[.agg #[.int .i64 (byteN l 1), .int .u32 (getN l 4 4), .int .u64 0, .int .u32 0, .int .u32 0, .int .u32 0, .slice A (manyR l) cA, .slice none 0 0, .int .u32 0, .slice none 0 0], .int .i64 (rightN l), .int .i64 0]) (by simp [results, Try.results135, go_sem, r0, r1, r2, r3, r4, r5, r6, r7, r8, r9]) rfl ⟨A, manyR l, cA, by rw [hgi, heI] <;> rfl, by rw [hgi]; exact hG5.own, hG5.b⟩
end Go.Proofs.Ytknlkmencdlpcaa
