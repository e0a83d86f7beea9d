/-
What GetItem and GetReport of package sluicegateref4 tell: reports.
-/
import Derived.Test.YtknlkmencdlpcaaFeed5
import Derived.Test.YtknlkmencdlpcaaFeed1
import Derived.Test.YtknlkmencdlpcaaCells
import Derived.Deep.CutBlock
import Derived.Deep.QuietTactic
import Derived.BigQuiet
namespace Go.Proofs.Ytknlkmencdlpcaa
set_option linter.unusedVariables false
set_option linter.unusedSimpArgs false
open Go Go.RowKit

/-- What a report's bytes are as an item, and how many they are. -/
def RIpost (l : List UInt8) (w : World) (e : Ending) (w' : World) : Prop := ∃ A k cA, e = .returned (.tuple #[.agg #[.int .i64 (getI l).k, .int .u32 (getI l).s, .int .u64 (getI l).ntp, .int .u32 (getI l).tm, .int .u32 (getI l).pk, .int .u32 (getI l).oc, .slice A k cA, .slice none 0 0, .int .u32 0, .slice none 0 0], .int .i64 (rightN l : Nat), .int .i64 (rightE l : Nat)]) ∧
  Hid (w'.ownsRow w.heap.size 141 7 (.slice A k cA) k (rowK (getI l).bl)) ∧ Below w.heap.size w w'
theorem ri_err {l : List UInt8} {w w' : World} (Z : Int) (hZ : Z = (rightE l : Nat)) (hne : rightE l ≠ 0) (hb : Below w.heap.size w w') : RIpost l w (.returned (.tuple #[.agg #[.int .i64 0, .int .u32 0, .int .u64 0, .int .u32 0, .int .u32 0, .int .u32 0, .slice none 0 0, .slice none 0 0, .int .u32 0, .slice none 0 0], .int .i64 0, .int .i64 Z])) w' := by
  subst hZ
  have h1 : getI l = bareI 0 := by unfold getI; rw [if_pos hne]
  have h2 : rightN l = 0 := by unfold rightN; rw [if_neg hne]
  refine ⟨none, 0, 0, ?_, ?_, hb⟩
  · rw [h1, h2]; rfl
  · rw [h1]; exact World.ownsRow_nil _ _ _ _
structure RI (w0 w : World) : Prop where
  res : w.heap[w0.heap.size]? = some (.cells #[.int .i64 0, .int .u32 0, .int .u64 0, .int .u32 0, .int .u32 0, .int .u32 0, .slice none 0 0, .slice none 0 0, .int .u32 0, .slice none 0 0] 54 (0, 0))
  non : w.heap[w0.heap.size + 1]? = some (.cells #[.int .i64 0, .int .u32 0, .int .u64 0, .int .u32 0, .int .u32 0, .int .u32 0, .slice none 0 0, .slice none 0 0, .int .u32 0, .slice none 0 0] 54 (0, 0))
  b : Below w0.heap.size w0 w
theorem ri_start (w : World) : RI w ((w.alloc (.cells #[.int .i64 0, .int .u32 0, .int .u64 0, .int .u32 0, .int .u32 0, .int .u32 0, .slice none 0 0, .slice none 0 0, .int .u32 0, .slice none 0 0] 54)).alloc (.cells #[.int .i64 0, .int .u32 0, .int .u64 0, .int .u32 0, .int .u32 0, .int .u32 0, .slice none 0 0, .slice none 0 0, .int .u32 0, .slice none 0 0] 54)) := by
  have h2 := heap_alloc_new (w.alloc (.cells #[.int .i64 0, .int .u32 0, .int .u64 0, .int .u32 0, .int .u32 0, .int .u32 0, .slice none 0 0, .slice none 0 0, .int .u32 0, .slice none 0 0] 54)) (.cells #[.int .i64 0, .int .u32 0, .int .u64 0, .int .u32 0, .int .u32 0, .int .u32 0, .slice none 0 0, .slice none 0 0, .int .u32 0, .slice none 0 0] 54)
  rw [show (w.alloc (.cells #[.int .i64 0, .int .u32 0, .int .u64 0, .int .u32 0, .int .u32 0, .int .u32 0, .slice none 0 0, .slice none 0 0, .int .u32 0, .slice none 0 0] 54)).heap.size = w.heap.size + 1 by simp] at h2
  exact ⟨blk_below (blk_alloc w _) ((Below.refl _ _).alloc (Nat.le_refl _) _), h2, ((Below.refl _ _).alloc (Nat.le_refl _) _).alloc (by simp) _⟩
theorem RI.drewN {w0 w : World} (h : RI w0 w) (j : Nat) : RI w0 (w.drewN j) := ⟨h.res, h.non, below_drewN h.b j⟩
theorem getN_shift (l : List UInt8) (z a s : Nat) (A A' S : Int) (hA : A = a) (hA' : A' = (a + 4 : Nat)) (hS : S = s) (h : a + s ≤ z) (hl : 4 + z ≤ l.length) (h1 : 1 ≤ s) (h8 : s ≤ 8) : getN ((l.drop 4).take z) A S = getN l A' S := by
  subst hA hA' hS
  unfold getN
  rw [if_pos (by rw [withinB_iff, List.length_take, List.length_drop]; omega), if_pos (by rw [withinB_iff]; omega)]
  simp only [part, Int.toNat_natCast]
  rw [List.drop_take, List.take_take, List.drop_drop]
  congr 2
  · omega
  · rw [Nat.add_comm]
theorem getK_shift (l : List UInt8) (z a : Nat) (h : a + 24 ≤ z) (hl : 4 + z ≤ l.length) : getK ((l.drop 4).take z) a = getK l (a + 4) := by
  unfold getK
  rw [getN_shift l z a 4 _ ((a + 4 : Nat) : Int) 4 rfl rfl rfl (by omega) hl (by omega) (by omega), getN_shift l z (a + 4) 1 _ ((a + 4 + 4 : Nat) : Int) 1 rfl rfl rfl (by omega) hl (by omega) (by omega), getN_shift l z (a + 5) 3 _ ((a + 4 + 5 : Nat) : Int) 3 rfl (by omega) rfl (by omega) hl (by omega) (by omega), getN_shift l z (a + 8) 4 _ ((a + 4 + 8 : Nat) : Int) 4 rfl (by omega) rfl (by omega) hl (by omega) (by omega), getN_shift l z (a + 12) 4 _ ((a + 4 + 12 : Nat) : Int) 4 rfl (by omega) rfl (by omega) hl (by omega) (by omega), getN_shift l z (a + 16) 4 _ ((a + 4 + 16 : Nat) : Int) 4 rfl (by omega) rfl (by omega) hl (by omega) (by omega), getN_shift l z (a + 20) 4 _ ((a + 4 + 20 : Nat) : Int) 4 rfl (by omega) rfl (by omega) hl (by omega) (by omega)]
theorem getKs_shift (l : List UInt8) (z a m : Nat) (h : a + 24 * m ≤ z) (hl : 4 + z ≤ l.length) : getKs ((l.drop 4).take z) a m = getKs l (a + 4) m := by
  unfold getKs
  refine List.map_congr_left fun j hj => ?_
  have hjm := List.mem_range.1 hj
  rw [getK_shift l z (a + 24 * j) (by omega) hl]
  congr 1
  omega
theorem ritem_v (w : World) (K m : Nat) (X : Option Addr) (n c : Nat) (l : List UInt8) (hb : Bts w X n c l) (hK : K = 200 ∨ K = 201) (hm : m ≤ 15) (q : Itm) (hq : bodyI K m l = q) (KI : Int) (hKI : KI = (K : Nat)) :
    Calls Try.prog 139 #[.int .i64 KI, .int .i64 m, .slice X n c] w fun e w' => ∃ A cA, e = .returned (.agg #[.int .i64 q.k, .int .u32 q.s, .int .u64 q.ntp, .int .u32 q.tm, .int .u32 q.pk, .int .u32 q.oc, .slice A m cA, .slice none 0 0, .int .u32 0, .slice none 0 0]) ∧
      w'.ownsRow w.heap.size 141 7 (.slice A m cA) m (rowK q.bl) ∧ Below w.heap.size w w' := by
  subst hq hKI
  exact ritem_any w K m X n c l hb hK hm
theorem getN_two (l : List UInt8) (h : 4 ≤ l.length) : getN l 2 2 = byteN l 2 * 256 + byteN l 3 := by
  match l, h with
  | x0 :: x1 :: x2 :: x3 :: r, _ =>
    show (if withinB _ 2 2 then beN [x2, x3] else 0) = _
    rw [if_pos (by rw [withinB_iff]; simp only [List.length_cons]; omega)]
    show (0 * 256 + x2.toNat) * 256 + x3.toNat = x2.toNat * 256 + x3.toNat
    omega
set_option maxRecDepth 20000 in
theorem rwords_any (K : Int) (m : Nat) (hm : m ≤ 31) (W : Int) (hW : W = (sizeR K m / 4 - 1 : Nat) ∧ (K = 200 ∨ K = 201)) (w : World) :
    Calls Try.prog 138 #[.int .i64 K, .int .i64 (m : Int)] w fun e w' => e = .returned (.int .i64 W) ∧ w' = w := by
  obtain ⟨hW, hK⟩ := hW
  have h1 : W = if K = 200 then 6 + 6 * (m : Int) else 1 + 6 * (m : Int) := by
    subst hW; unfold sizeR
    rcases hK with rfl | rfl
    · simp; omega
    · simp; omega
  clear hW
  have HW := Lib.hid h1
  clear h1
  rcases hK with rfl | rfl
  · go_enter Try.func138, Try.ntmps138
    go_wp2
    go_ret
    exact ⟨by rw [HW.out]; simp, rfl⟩
  · go_enter Try.func138, Try.ntmps138
    go_wp2
    go_ret
    exact ⟨by rw [HW.out]; simp, rfl⟩
set_option maxRecDepth 20000 in
set_option maxHeartbeats 1000000 in
theorem rgi_short (A : Option Addr) (n c : Nat) (l : List UInt8) (w : World) (h : Bts w A n c l) (h4 : l.length < 4) :
    Calls Try.prog 94 #[.slice A n c] w fun e w' => RIpost l w e w' := by
  have hn := h.len
  have g : decide ((n : Int) < 4) = true := by simp; omega
  have hE : rightE l = 2 := by unfold rightE; rw [if_pos h4]
  have HE := Lib.hid hE
  clear hE h
  go_enter Try.func94, Try.ntmps94
  go_wp2_with (refine wpList_store_blk rfl 54 (.tmp 2) (.tmp 16) rfl w.heap.size _ #[.int .i64 0, .int .u32 0, .int .u64 0, .int .u32 0, .int .u32 0, .int .u32 0, .slice none 0 0, .slice none 0 0, .int .u32 0, .slice none 0 0] _ rfl rfl (ri_start w).res rfl (by kernel_rfl) (by simp [Value.oneCell']) ?_; intro w5 hi5 hg5; obtain ⟨r0, r1, r2, r3, r4, r5, r6, r7, r8, r9⟩ := ten_cells hi5)
  exact bodyPost_ret (v := .tuple #[.agg #[.int .i64 0, .int .u32 0, .int .u64 0, .int .u32 0, .int .u32 0, .int .u32 0, .slice none 0 0, .slice none 0 0, .int .u32 0, .slice none 0 0], .int .i64 0, .int .i64 2]) (by simp [results, Try.results94, go_sem, r0, r1, r2, r3, r4, r5, r6, r7, r8, r9]) rfl (ri_err 2 (by rw [HE.out]; rfl) (by rw [HE.out]; decide) ((ri_start w).b.grown hg5 (ri_start w).b.size (fun q hq => by injection hq with hq; omega)))
set_option maxRecDepth 20000 in
set_option maxHeartbeats 1000000 in
theorem rgi_form (A : Option Addr) (n c : Nat) (l : List UInt8) (w : World) (h : Bts w A n c l) (h4 : 4 ≤ l.length) (hv : byteN l 0 / 32 ≠ 4) :
    Calls Try.prog 94 #[.slice A n c] w fun e w' => RIpost l w e w' := by
  have hn := h.len
  have g : decide ((n : Int) < 4) = false := by simp; omega
  obtain ⟨ad, rfl, hc0⟩ := bts_byte h (k := 0) (by omega)
  rw [add_zero'] at hc0
  have d0 := below_cell (ri_start w).b hc0
  have n0 : 0 < n := by omega
  have hy0 := byteN_lt l 0
  have gv : (((byteN l 0 : Nat) : Int) / 32 != 4) = true := by simp; omega
  have hE : rightE l = 1 := by unfold rightE; rw [if_neg (by omega), if_pos hv]
  have HE := Lib.hid hE
  clear hE h
  go_enter Try.func94, Try.ntmps94
  go_wp2_with (refine wpList_store_blk rfl 54 (.tmp 2) (.tmp 22) rfl w.heap.size _ #[.int .i64 0, .int .u32 0, .int .u64 0, .int .u32 0, .int .u32 0, .int .u32 0, .slice none 0 0, .slice none 0 0, .int .u32 0, .slice none 0 0] _ rfl rfl (ri_start w).res rfl (by kernel_rfl) (by simp [Value.oneCell']) ?_; intro w5 hi5 hg5; obtain ⟨r0, r1, r2, r3, r4, r5, r6, r7, r8, r9⟩ := ten_cells hi5)
  exact bodyPost_ret (v := .tuple #[.agg #[.int .i64 0, .int .u32 0, .int .u64 0, .int .u32 0, .int .u32 0, .int .u32 0, .slice none 0 0, .slice none 0 0, .int .u32 0, .slice none 0 0], .int .i64 0, .int .i64 1]) (by simp [results, Try.results94, go_sem, r0, r1, r2, r3, r4, r5, r6, r7, r8, r9]) rfl (ri_err 1 (by rw [HE.out]; rfl) (by rw [HE.out]; decide) ((ri_start w).b.grown hg5 (ri_start w).b.size (fun q hq => by injection hq with hq; omega)))

set_option maxRecDepth 20000 in
set_option maxHeartbeats 4000000 in
theorem rgi_200 (A : Option Addr) (n c : Nat) (l : List UInt8) (w : World) (h : Bts w A n c l) (h4 : 4 ≤ l.length) (hv : byteN l 0 / 32 = 4) (hk : byteN l 1 = 200) :
    Calls Try.prog 94 #[.slice A n c] w fun e w' => RIpost l w e w' := by
  have hn := h.len
  have HB := Lib.hid h
  have g : decide ((n : Int) < 4) = false := by simp; omega
  obtain ⟨ad, rfl, hc0⟩ := bts_byte h (k := 0) (by omega)
  obtain ⟨ad', hA, hc1⟩ := bts_byte h (k := 1) (by omega)
  injection hA with hA; subst hA
  obtain ⟨ad', hA, hc2⟩ := bts_byte h (k := 2) (by omega)
  injection hA with hA; subst hA
  obtain ⟨ad', hA, hc3⟩ := bts_byte h (k := 3) (by omega)
  injection hA with hA; subst hA
  rw [add_zero'] at hc0
  rw [hk] at hc1
  have n0 : 0 < n := by omega
  have n1 : 1 < n := by omega
  have n2 : 2 < n := by omega
  have n3 : 3 < n := by omega
  have n1' : (1 : Int) < n := by omega
  have n2' : (2 : Int) < n := by omega
  have n3' : (3 : Int) < n := by omega
  have hy0 := byteN_lt l 0
  have hy2 := byteN_lt l 2
  have hy3 := byteN_lt l 3
  have gv : (((byteN l 0 : Nat) : Int) / 32 != 4) = false := by simp; omega
  obtain ⟨m, hm⟩ : ∃ m, manyR l = m := ⟨_, rfl⟩
  have hmI : ((byteN l 0 : Nat) : Int) % 32 = (m : Int) := by rw [← hm]; unfold manyR; omega
  have hm31 : m ≤ 31 := by rw [← hm]; unfold manyR; omega
  obtain ⟨x2, hx2⟩ : ∃ x2, byteN l 2 = x2 := ⟨_, rfl⟩
  obtain ⟨x3, hx3⟩ : ∃ x3, byteN l 3 = x3 := ⟨_, rfl⟩
  rw [hx2] at hc2 hy2
  rw [hx3] at hc3 hy3
  obtain ⟨lg, hlg⟩ : ∃ lg, getN l 2 2 = lg := ⟨_, rfl⟩
  have hlx : lg = x2 * 256 + x3 := by rw [← hlg, ← hx2, ← hx3]; exact getN_two l h4
  have hlI : (x2 : Int) * 256 + (x3 : Int) = (lg : Int) := by omega
  have hl16 : lg < 65536 := by omega
  obtain ⟨wd, hwd⟩ : ∃ wd, sizeR (200 : Int) m / 4 - 1 = wd := ⟨_, rfl⟩
  have HWW : Hid ((wd : Int) = (sizeR (200 : Int) m / 4 - 1 : Nat) ∧ ((200 : Int) = 200 ∨ (200 : Int) = 201)) := ⟨by rw [← hwd], by decide⟩
  have hsz : sizeR (200 : Int) m = 4 * (wd + 1) := by rw [← hwd]; unfold sizeR; split <;> omega
  have hwd9 : wd ≤ 300 ∧ 1 ≤ wd := by rw [← hwd]; unfold sizeR; split <;> omega
  have hlong : longR l = 4 * (wd + 1) := by unfold longR; rw [hk, hm]; exact hsz
  have hRE : rightE l = if m > 15 ∨ (lg + 1) * 4 ≠ 4 * (wd + 1) then 1 else if n < 4 * (wd + 1) then 2 else 0 := by
    unfold rightE
    rw [if_neg (by omega), if_neg (by omega), hk, show knownB ((200 : Nat) : Int) = true by decide, if_neg (by decide), hm, hlg, hlong, hn]
  have HC0 := Lib.hid hc0
  have HC1 : Hid (w.cell? ⟨ad.block, ad.off + 1, none⟩ = some (.int .u8 200)) := hc1
  have HC2 : Hid (w.cell? ⟨ad.block, ad.off + 2, none⟩ = some (.int .u8 x2)) := hc2
  have HC3 : Hid (w.cell? ⟨ad.block, ad.off + 3, none⟩ = some (.int .u8 x3)) := hc3
  have HM := Lib.hid (And.intro hm (And.intro hlg hk))
  have HL := Lib.hid hlong
  clear h hc0 hc1 hc2 hc3 hm hlg hwd hlong hx2 hx3 hv hk hlx hsz
  have d0 := below_cell (ri_start w).b HC0.out
  have d1 := below_cell (ri_start w).b HC1.out
  have e2 : (((w.alloc (.cells #[.int .i64 0, .int .u32 0, .int .u64 0, .int .u32 0, .int .u32 0, .int .u32 0, .slice none 0 0, .slice none 0 0, .int .u32 0, .slice none 0 0] 54)).alloc (.cells #[.int .i64 0, .int .u32 0, .int .u64 0, .int .u32 0, .int .u32 0, .int .u32 0, .slice none 0 0, .slice none 0 0, .int .u32 0, .slice none 0 0] 54)).drew).cell? ⟨ad.block, ad.off + 2, none⟩ = some (.int .u8 x2) := below_cell (ri_start w).b HC2.out
  have e3 : (((w.alloc (.cells #[.int .i64 0, .int .u32 0, .int .u64 0, .int .u32 0, .int .u32 0, .int .u32 0, .slice none 0 0, .slice none 0 0, .int .u32 0, .slice none 0 0] 54)).alloc (.cells #[.int .i64 0, .int .u32 0, .int .u64 0, .int .u32 0, .int .u32 0, .int .u32 0, .slice none 0 0, .slice none 0 0, .int .u32 0, .slice none 0 0] 54)).drew).cell? ⟨ad.block, ad.off + 3, none⟩ = some (.int .u8 x3) := below_cell (ri_start w).b HC3.out
  have f2 : ∀ j, (((w.alloc (.cells #[.int .i64 0, .int .u32 0, .int .u64 0, .int .u32 0, .int .u32 0, .int .u32 0, .slice none 0 0, .slice none 0 0, .int .u32 0, .slice none 0 0] 54)).alloc (.cells #[.int .i64 0, .int .u32 0, .int .u64 0, .int .u32 0, .int .u32 0, .int .u32 0, .slice none 0 0, .slice none 0 0, .int .u32 0, .slice none 0 0] 54)).drewN j).cell? ⟨ad.block, ad.off + 2, none⟩ = some (.int .u8 x2) := fun j => below_cell (ri_start w).b HC2.out
  have f3 : ∀ j, (((w.alloc (.cells #[.int .i64 0, .int .u32 0, .int .u64 0, .int .u32 0, .int .u32 0, .int .u32 0, .slice none 0 0, .slice none 0 0, .int .u32 0, .slice none 0 0] 54)).alloc (.cells #[.int .i64 0, .int .u32 0, .int .u64 0, .int .u32 0, .int .u32 0, .int .u32 0, .slice none 0 0, .slice none 0 0, .int .u32 0, .slice none 0 0] 54)).drewN j).cell? ⟨ad.block, ad.off + 3, none⟩ = some (.int .u8 x3) := fun j => below_cell (ri_start w).b HC3.out
  have HRS := Lib.hid (ri_start w)
  go_enter Try.func94, Try.ntmps94
  go_upto_region 8 with fail
  generalize (w.alloc (.cells #[.int .i64 0, .int .u32 0, .int .u64 0, .int .u32 0, .int .u32 0, .int .u32 0, .slice none 0 0, .slice none 0 0, .int .u32 0, .slice none 0 0] 54)).alloc (.cells #[.int .i64 0, .int .u32 0, .int .u64 0, .int .u32 0, .int .u32 0, .int .u32 0, .slice none 0 0, .slice none 0 0, .int .u32 0, .slice none 0 0] 54) = w2 at *
  clear d0 d1
  go_quiet (fail)
  have HRJ := Lib.hid (fun j => HRS.out.drewN j)
  clear e2 e3 f2 f3
  have z0 := fun j => (ten_cells (HRJ.out j).non).1
  have z1 := fun j => (ten_cells (HRJ.out j).non).2.1
  have z2 := fun j => (ten_cells (HRJ.out j).non).2.2.1
  have z3 := fun j => (ten_cells (HRJ.out j).non).2.2.2.1
  have z4 := fun j => (ten_cells (HRJ.out j).non).2.2.2.2.1
  have z5 := fun j => (ten_cells (HRJ.out j).non).2.2.2.2.2.1
  have z6 := fun j => (ten_cells (HRJ.out j).non).2.2.2.2.2.2.1
  have z7 := fun j => (ten_cells (HRJ.out j).non).2.2.2.2.2.2.2.1
  have z8 := fun j => (ten_cells (HRJ.out j).non).2.2.2.2.2.2.2.2.1
  have z9 := fun j => (ten_cells (HRJ.out j).non).2.2.2.2.2.2.2.2.2
  by_cases hm15 : 15 < m
  · have g1 : decide ((15 : Int) < (m : Int)) = true := by simp; omega
    have g1' : decide (15 < m) = true := by simp; omega
    have HE : Hid (rightE l = 1) := by show _ = _; rw [hRE, if_pos (.inl hm15)]
    clear hm15 hRE
    go_wp2_with (refine wpList_store_blk rfl 54 (.tmp 2) (.tmp 74) rfl w.heap.size _ #[.int .i64 0, .int .u32 0, .int .u64 0, .int .u32 0, .int .u32 0, .int .u32 0, .slice none 0 0, .slice none 0 0, .int .u32 0, .slice none 0 0] _ rfl rfl (HRJ.out _).res rfl (by kernel_rfl) (by simp [Value.oneCell']) ?_; intro w5 hi5 hg5; obtain ⟨r0, r1, r2, r3, r4, r5, r6, r7, r8, r9⟩ := ten_cells hi5)
    exact bodyPost_ret (v := .tuple #[.agg #[.int .i64 0, .int .u32 0, .int .u64 0, .int .u32 0, .int .u32 0, .int .u32 0, .slice none 0 0, .slice none 0 0, .int .u32 0, .slice none 0 0], .int .i64 0, .int .i64 1]) (by simp [results, Try.results94, go_sem, r0, r1, r2, r3, r4, r5, r6, r7, r8, r9]) rfl (ri_err 1 (by rw [HE.out]; rfl) (by rw [HE.out]; decide) ((HRJ.out _).b.grown hg5 (HRJ.out _).b.size (fun q hq => by injection hq with hq; omega)))
  have g1 : decide ((15 : Int) < (m : Int)) = false := by simp; omega
  have g1' : decide (15 < m) = false := by simp; omega
  by_cases hlw : lg = wd
  · have g2 : ((lg : Int) != (wd : Int)) = false := by simp; omega
    have g2' : (lg != wd) = false := by simp; omega
    obtain ⟨s4, hs4⟩ : ∃ s4, 4 * lg = s4 := ⟨_, rfl⟩
    obtain ⟨sz, hsz⟩ : ∃ sz, 4 + s4 = sz := ⟨_, rfl⟩
    have hs4I : (4 : Int) * (lg : Int) = (s4 : Int) := by omega
    have hszI : (4 : Int) + (s4 : Int) = (sz : Int) := by omega
    have hz9 : sz ≤ 1204 ∧ s4 ≤ 1200 := by omega
    have hszw : 4 * (wd + 1) = sz := by omega
    by_cases hns : n < sz
    · have g3 : decide ((n : Int) < (sz : Int)) = true := by simp; omega
      have g3' : decide (n < sz) = true := by simp; omega
      have HE : Hid (rightE l = 2) := by show _ = _; rw [hRE, if_neg (by omega), if_pos (by omega)]
      clear hm15 hRE hlw hns hszw hs4 hsz
      go_wp2_with (first
        | (go_at_call 138; (with_reducible refine (rwords_any 200 m (by omega) (wd : Int) HWW.out _).mono ?_); rintro e w6 ⟨rfl, rfl⟩)
        | (refine wpList_store_blk rfl 54 (.tmp 2) (.tmp 82) rfl w.heap.size _ #[.int .i64 0, .int .u32 0, .int .u64 0, .int .u32 0, .int .u32 0, .int .u32 0, .slice none 0 0, .slice none 0 0, .int .u32 0, .slice none 0 0] _ rfl rfl (HRJ.out _).res rfl (by kernel_rfl) (by simp [Value.oneCell']) ?_; intro w5 hi5 hg5; obtain ⟨r0, r1, r2, r3, r4, r5, r6, r7, r8, r9⟩ := ten_cells hi5))
      exact bodyPost_ret (v := .tuple #[.agg #[.int .i64 0, .int .u32 0, .int .u64 0, .int .u32 0, .int .u32 0, .int .u32 0, .slice none 0 0, .slice none 0 0, .int .u32 0, .slice none 0 0], .int .i64 0, .int .i64 2]) (by simp [results, Try.results94, go_sem, r0, r1, r2, r3, r4, r5, r6, r7, r8, r9]) rfl (ri_err 2 (by rw [HE.out]; rfl) (by rw [HE.out]; decide) ((HRJ.out _).b.grown hg5 (HRJ.out _).b.size (fun q hq => by injection hq with hq; omega)))
    · have g3 : decide ((n : Int) < (sz : Int)) = false := by simp; omega
      have g3' : decide (n < sz) = false := by simp; omega
      have HE : Hid (rightE l = 0) := by show _ = _; rw [hRE, if_neg (by omega), if_neg (by omega)]
      have hcm := HB.out.cm
      have hnc := HB.out.nc
      unfold maxLen at hcm
      have hc4 : ¬ c = 4 := by omega
      have h4s : 4 ≤ sz := by omega
      have h4sI : (4 : Int) ≤ (sz : Int) := by omega
      have hsc : sz ≤ c := by omega
      have hscI : (sz : Int) ≤ (c : Int) := by omega
      have hll : ((l.drop 4).take (sz - 4)).length = sz - 4 := by rw [List.length_take, List.length_drop]; omega
      obtain ⟨q, hq⟩ : ∃ q, getI l = q := ⟨_, rfl⟩
      have hbz : sizeR (200 : Int) m = sz := by have := HL.out; unfold longR at this; rw [HM.out.2.2, HM.out.1] at this; rw [← hszw]; exact this
      have hbi : bodyI 200 m ((l.drop 4).take (sz - 4)) = q := by
        rw [← hq]
        unfold sizeR at hbz
        rw [if_pos rfl] at hbz
        unfold bodyI
        rw [if_pos rfl, getN_shift l (sz - 4) 0 4 0 4 4 rfl rfl rfl (by omega) (by omega) (by omega) (by omega), getN_shift l (sz - 4) 4 8 4 8 8 rfl rfl rfl (by omega) (by omega) (by omega) (by omega), getN_shift l (sz - 4) 12 4 12 16 4 rfl rfl rfl (by omega) (by omega) (by omega) (by omega), getN_shift l (sz - 4) 16 4 16 20 4 rfl rfl rfl (by omega) (by omega) (by omega) (by omega), getN_shift l (sz - 4) 20 4 20 24 4 rfl rfl rfl (by omega) (by omega) (by omega) (by omega), getKs_shift l (sz - 4) 24 m (by omega) (by omega)]
        unfold getI
        rw [if_neg (show ¬ (rightE l ≠ 0) by rw [HE.out]; simp), HM.out.2.2, HM.out.1, if_pos rfl]
        rfl
      have HBI := Lib.hid hbi
      have HQ := Lib.hid hq
      have HNN : Hid (rightN l = sz) := by show _ = _; unfold rightN; rw [if_pos HE.out, HL.out, hszw]
      have HBT : Hid (∀ w', Below w.heap.size w w' → Bts w' (some ⟨ad.block, ad.off + 4, none⟩) (sz - 4) (c - 4) ((l.drop 4).take (sz - 4))) := fun w' hb => ⟨hll, by omega, by unfold maxLen; omega, part_rd (HB.out.below hb) 4 (sz - 4) (by omega)⟩
      have hm15' : m ≤ 15 := by omega
      clear hm15 hRE hlw hns hszw hs4 hsz hll hbz hbi hq hcm
      go_wp2_with (first
        | (go_at_call 138; (with_reducible refine (rwords_any 200 m (by omega) (wd : Int) HWW.out _).mono ?_); rintro e w6 ⟨rfl, rfl⟩)
        | (go_at_call 139; (with_reducible refine (ritem_v _ 200 m (some ⟨ad.block, ad.off + 4, none⟩) (sz - 4) (c - 4) _ (HBT.out _ (HRJ.out _).b) (by decide) hm15' q HBI.out 200 (by decide)).mono ?_); rintro e w6 ⟨A6, c6, rfl, ho6, hb6⟩; have HO6 := Lib.hid ho6; have hres6 := blk_below (HRJ.out _).res hb6; have hb7 := (HRJ.out _).b.trans (hb6.mono (HRJ.out _).b.size); clear ho6)
        | (refine wpList_store_blk rfl 54 (.tmp 2) (.tmp 88) rfl w.heap.size _ #[.int .i64 q.k, .int .u32 q.s, .int .u64 q.ntp, .int .u32 q.tm, .int .u32 q.pk, .int .u32 q.oc, .slice A6 m c6, .slice none 0 0, .int .u32 0, .slice none 0 0] _ rfl rfl hres6 rfl (by kernel_rfl) (by simp [Value.oneCell']) ?_; intro w5 hi5 hg5; obtain ⟨r0, r1, r2, r3, r4, r5, r6, r7, r8, r9⟩ := ten_cells hi5))
      exact bodyPost_ret (v := .tuple #[.agg #[.int .i64 q.k, .int .u32 q.s, .int .u64 q.ntp, .int .u32 q.tm, .int .u32 q.pk, .int .u32 q.oc, .slice A6 m c6, .slice none 0 0, .int .u32 0, .slice none 0 0], .int .i64 (sz : Nat), .int .i64 0]) (by simp [results, Try.results94, go_sem, r0, r1, r2, r3, r4, r5, r6, r7, r8, r9]) rfl ⟨A6, m, c6, by rw [HQ.out, HNN.out, HE.out]; rfl, by rw [HQ.out]; exact own_mono (HO6.out.kept hg5 (own_off HO6.out hres6 (by decide))) (HRJ.out _).b.size, hb7.grown hg5 hb7.size (fun q hq => by injection hq with hq; omega)⟩
  · have g2 : ((lg : Int) != (wd : Int)) = true := by simp; omega
    have g2' : (lg != wd) = true := by simp; omega
    have HE : Hid (rightE l = 1) := by show _ = _; rw [hRE, if_pos (.inr (by omega))]
    clear hm15 hRE hlw
    go_wp2_with (first
      | (go_at_call 138; (with_reducible refine (rwords_any 200 m (by omega) (wd : Int) HWW.out _).mono ?_); rintro e w6 ⟨rfl, rfl⟩)
      | (refine wpList_store_blk rfl 54 (.tmp 2) (.tmp 74) rfl w.heap.size _ #[.int .i64 0, .int .u32 0, .int .u64 0, .int .u32 0, .int .u32 0, .int .u32 0, .slice none 0 0, .slice none 0 0, .int .u32 0, .slice none 0 0] _ rfl rfl (HRJ.out _).res rfl (by kernel_rfl) (by simp [Value.oneCell']) ?_; intro w5 hi5 hg5; obtain ⟨r0, r1, r2, r3, r4, r5, r6, r7, r8, r9⟩ := ten_cells hi5))
    exact bodyPost_ret (v := .tuple #[.agg #[.int .i64 0, .int .u32 0, .int .u64 0, .int .u32 0, .int .u32 0, .int .u32 0, .slice none 0 0, .slice none 0 0, .int .u32 0, .slice none 0 0], .int .i64 0, .int .i64 1]) (by simp [results, Try.results94, go_sem, r0, r1, r2, r3, r4, r5, r6, r7, r8, r9]) rfl (ri_err 1 (by rw [HE.out]; rfl) (by rw [HE.out]; decide) ((HRJ.out _).b.grown hg5 (HRJ.out _).b.size (fun q hq => by injection hq with hq; omega)))

set_option maxRecDepth 20000 in
set_option maxHeartbeats 4000000 in
theorem rgi_201 (A : Option Addr) (n c : Nat) (l : List UInt8) (w : World) (h : Bts w A n c l) (h4 : 4 ≤ l.length) (hv : byteN l 0 / 32 = 4) (hk : byteN l 1 = 201) :
    Calls Try.prog 94 #[.slice A n c] w fun e w' => RIpost l w e w' := by
  have hn := h.len
  have HB := Lib.hid h
  have g : decide ((n : Int) < 4) = false := by simp; omega
  obtain ⟨ad, rfl, hc0⟩ := bts_byte h (k := 0) (by omega)
  obtain ⟨ad', hA, hc1⟩ := bts_byte h (k := 1) (by omega)
  injection hA with hA; subst hA
  obtain ⟨ad', hA, hc2⟩ := bts_byte h (k := 2) (by omega)
  injection hA with hA; subst hA
  obtain ⟨ad', hA, hc3⟩ := bts_byte h (k := 3) (by omega)
  injection hA with hA; subst hA
  rw [add_zero'] at hc0
  rw [hk] at hc1
  have n0 : 0 < n := by omega
  have n1 : 1 < n := by omega
  have n2 : 2 < n := by omega
  have n3 : 3 < n := by omega
  have n1' : (1 : Int) < n := by omega
  have n2' : (2 : Int) < n := by omega
  have n3' : (3 : Int) < n := by omega
  have hy0 := byteN_lt l 0
  have hy2 := byteN_lt l 2
  have hy3 := byteN_lt l 3
  have gv : (((byteN l 0 : Nat) : Int) / 32 != 4) = false := by simp; omega
  obtain ⟨m, hm⟩ : ∃ m, manyR l = m := ⟨_, rfl⟩
  have hmI : ((byteN l 0 : Nat) : Int) % 32 = (m : Int) := by rw [← hm]; unfold manyR; omega
  have hm31 : m ≤ 31 := by rw [← hm]; unfold manyR; omega
  obtain ⟨x2, hx2⟩ : ∃ x2, byteN l 2 = x2 := ⟨_, rfl⟩
  obtain ⟨x3, hx3⟩ : ∃ x3, byteN l 3 = x3 := ⟨_, rfl⟩
  rw [hx2] at hc2 hy2
  rw [hx3] at hc3 hy3
  obtain ⟨lg, hlg⟩ : ∃ lg, getN l 2 2 = lg := ⟨_, rfl⟩
  have hlx : lg = x2 * 256 + x3 := by rw [← hlg, ← hx2, ← hx3]; exact getN_two l h4
  have hlI : (x2 : Int) * 256 + (x3 : Int) = (lg : Int) := by omega
  have hl16 : lg < 65536 := by omega
  obtain ⟨wd, hwd⟩ : ∃ wd, sizeR (201 : Int) m / 4 - 1 = wd := ⟨_, rfl⟩
  have HWW : Hid ((wd : Int) = (sizeR (201 : Int) m / 4 - 1 : Nat) ∧ ((201 : Int) = 200 ∨ (201 : Int) = 201)) := ⟨by rw [← hwd], by decide⟩
  have hsz : sizeR (201 : Int) m = 4 * (wd + 1) := by rw [← hwd]; unfold sizeR; split <;> omega
  have hwd9 : wd ≤ 300 ∧ 1 ≤ wd := by rw [← hwd]; unfold sizeR; split <;> omega
  have hlong : longR l = 4 * (wd + 1) := by unfold longR; rw [hk, hm]; exact hsz
  have hRE : rightE l = if m > 15 ∨ (lg + 1) * 4 ≠ 4 * (wd + 1) then 1 else if n < 4 * (wd + 1) then 2 else 0 := by
    unfold rightE
    rw [if_neg (by omega), if_neg (by omega), hk, show knownB ((201 : Nat) : Int) = true by decide, if_neg (by decide), hm, hlg, hlong, hn]
  have HC0 := Lib.hid hc0
  have HC1 : Hid (w.cell? ⟨ad.block, ad.off + 1, none⟩ = some (.int .u8 201)) := hc1
  have HC2 : Hid (w.cell? ⟨ad.block, ad.off + 2, none⟩ = some (.int .u8 x2)) := hc2
  have HC3 : Hid (w.cell? ⟨ad.block, ad.off + 3, none⟩ = some (.int .u8 x3)) := hc3
  have HM := Lib.hid (And.intro hm (And.intro hlg hk))
  have HL := Lib.hid hlong
  clear h hc0 hc1 hc2 hc3 hm hlg hwd hlong hx2 hx3 hv hk hlx hsz
  have d0 := below_cell (ri_start w).b HC0.out
  have d1 := below_cell (ri_start w).b HC1.out
  have e2 : (((w.alloc (.cells #[.int .i64 0, .int .u32 0, .int .u64 0, .int .u32 0, .int .u32 0, .int .u32 0, .slice none 0 0, .slice none 0 0, .int .u32 0, .slice none 0 0] 54)).alloc (.cells #[.int .i64 0, .int .u32 0, .int .u64 0, .int .u32 0, .int .u32 0, .int .u32 0, .slice none 0 0, .slice none 0 0, .int .u32 0, .slice none 0 0] 54)).drew).cell? ⟨ad.block, ad.off + 2, none⟩ = some (.int .u8 x2) := below_cell (ri_start w).b HC2.out
  have e3 : (((w.alloc (.cells #[.int .i64 0, .int .u32 0, .int .u64 0, .int .u32 0, .int .u32 0, .int .u32 0, .slice none 0 0, .slice none 0 0, .int .u32 0, .slice none 0 0] 54)).alloc (.cells #[.int .i64 0, .int .u32 0, .int .u64 0, .int .u32 0, .int .u32 0, .int .u32 0, .slice none 0 0, .slice none 0 0, .int .u32 0, .slice none 0 0] 54)).drew).cell? ⟨ad.block, ad.off + 3, none⟩ = some (.int .u8 x3) := below_cell (ri_start w).b HC3.out
  have f2 : ∀ j, (((w.alloc (.cells #[.int .i64 0, .int .u32 0, .int .u64 0, .int .u32 0, .int .u32 0, .int .u32 0, .slice none 0 0, .slice none 0 0, .int .u32 0, .slice none 0 0] 54)).alloc (.cells #[.int .i64 0, .int .u32 0, .int .u64 0, .int .u32 0, .int .u32 0, .int .u32 0, .slice none 0 0, .slice none 0 0, .int .u32 0, .slice none 0 0] 54)).drewN j).cell? ⟨ad.block, ad.off + 2, none⟩ = some (.int .u8 x2) := fun j => below_cell (ri_start w).b HC2.out
  have f3 : ∀ j, (((w.alloc (.cells #[.int .i64 0, .int .u32 0, .int .u64 0, .int .u32 0, .int .u32 0, .int .u32 0, .slice none 0 0, .slice none 0 0, .int .u32 0, .slice none 0 0] 54)).alloc (.cells #[.int .i64 0, .int .u32 0, .int .u64 0, .int .u32 0, .int .u32 0, .int .u32 0, .slice none 0 0, .slice none 0 0, .int .u32 0, .slice none 0 0] 54)).drewN j).cell? ⟨ad.block, ad.off + 3, none⟩ = some (.int .u8 x3) := fun j => below_cell (ri_start w).b HC3.out
  have HRS := Lib.hid (ri_start w)
  go_enter Try.func94, Try.ntmps94
  go_upto_region 8 with fail
  generalize (w.alloc (.cells #[.int .i64 0, .int .u32 0, .int .u64 0, .int .u32 0, .int .u32 0, .int .u32 0, .slice none 0 0, .slice none 0 0, .int .u32 0, .slice none 0 0] 54)).alloc (.cells #[.int .i64 0, .int .u32 0, .int .u64 0, .int .u32 0, .int .u32 0, .int .u32 0, .slice none 0 0, .slice none 0 0, .int .u32 0, .slice none 0 0] 54) = w2 at *
  clear d0 d1
  go_quiet (fail)
  have HRJ := Lib.hid (fun j => HRS.out.drewN j)
  clear e2 e3 f2 f3
  have z0 := fun j => (ten_cells (HRJ.out j).non).1
  have z1 := fun j => (ten_cells (HRJ.out j).non).2.1
  have z2 := fun j => (ten_cells (HRJ.out j).non).2.2.1
  have z3 := fun j => (ten_cells (HRJ.out j).non).2.2.2.1
  have z4 := fun j => (ten_cells (HRJ.out j).non).2.2.2.2.1
  have z5 := fun j => (ten_cells (HRJ.out j).non).2.2.2.2.2.1
  have z6 := fun j => (ten_cells (HRJ.out j).non).2.2.2.2.2.2.1
  have z7 := fun j => (ten_cells (HRJ.out j).non).2.2.2.2.2.2.2.1
  have z8 := fun j => (ten_cells (HRJ.out j).non).2.2.2.2.2.2.2.2.1
  have z9 := fun j => (ten_cells (HRJ.out j).non).2.2.2.2.2.2.2.2.2
  by_cases hm15 : 15 < m
  · have g1 : decide ((15 : Int) < (m : Int)) = true := by simp; omega
    have g1' : decide (15 < m) = true := by simp; omega
    have HE : Hid (rightE l = 1) := by show _ = _; rw [hRE, if_pos (.inl hm15)]
    clear hm15 hRE
    go_wp2_with (refine wpList_store_blk rfl 54 (.tmp 2) (.tmp 74) rfl w.heap.size _ #[.int .i64 0, .int .u32 0, .int .u64 0, .int .u32 0, .int .u32 0, .int .u32 0, .slice none 0 0, .slice none 0 0, .int .u32 0, .slice none 0 0] _ rfl rfl (HRJ.out _).res rfl (by kernel_rfl) (by simp [Value.oneCell']) ?_; intro w5 hi5 hg5; obtain ⟨r0, r1, r2, r3, r4, r5, r6, r7, r8, r9⟩ := ten_cells hi5)
    exact bodyPost_ret (v := .tuple #[.agg #[.int .i64 0, .int .u32 0, .int .u64 0, .int .u32 0, .int .u32 0, .int .u32 0, .slice none 0 0, .slice none 0 0, .int .u32 0, .slice none 0 0], .int .i64 0, .int .i64 1]) (by simp [results, Try.results94, go_sem, r0, r1, r2, r3, r4, r5, r6, r7, r8, r9]) rfl (ri_err 1 (by rw [HE.out]; rfl) (by rw [HE.out]; decide) ((HRJ.out _).b.grown hg5 (HRJ.out _).b.size (fun q hq => by injection hq with hq; omega)))
  have g1 : decide ((15 : Int) < (m : Int)) = false := by simp; omega
  have g1' : decide (15 < m) = false := by simp; omega
  by_cases hlw : lg = wd
  · have g2 : ((lg : Int) != (wd : Int)) = false := by simp; omega
    have g2' : (lg != wd) = false := by simp; omega
    obtain ⟨s4, hs4⟩ : ∃ s4, 4 * lg = s4 := ⟨_, rfl⟩
    obtain ⟨sz, hsz⟩ : ∃ sz, 4 + s4 = sz := ⟨_, rfl⟩
    have hs4I : (4 : Int) * (lg : Int) = (s4 : Int) := by omega
    have hszI : (4 : Int) + (s4 : Int) = (sz : Int) := by omega
    have hz9 : sz ≤ 1204 ∧ s4 ≤ 1200 := by omega
    have hszw : 4 * (wd + 1) = sz := by omega
    by_cases hns : n < sz
    · have g3 : decide ((n : Int) < (sz : Int)) = true := by simp; omega
      have g3' : decide (n < sz) = true := by simp; omega
      have HE : Hid (rightE l = 2) := by show _ = _; rw [hRE, if_neg (by omega), if_pos (by omega)]
      clear hm15 hRE hlw hns hszw hs4 hsz
      go_wp2_with (first
        | (go_at_call 138; (with_reducible refine (rwords_any 201 m (by omega) (wd : Int) HWW.out _).mono ?_); rintro e w6 ⟨rfl, rfl⟩)
        | (refine wpList_store_blk rfl 54 (.tmp 2) (.tmp 82) rfl w.heap.size _ #[.int .i64 0, .int .u32 0, .int .u64 0, .int .u32 0, .int .u32 0, .int .u32 0, .slice none 0 0, .slice none 0 0, .int .u32 0, .slice none 0 0] _ rfl rfl (HRJ.out _).res rfl (by kernel_rfl) (by simp [Value.oneCell']) ?_; intro w5 hi5 hg5; obtain ⟨r0, r1, r2, r3, r4, r5, r6, r7, r8, r9⟩ := ten_cells hi5))
      exact bodyPost_ret (v := .tuple #[.agg #[.int .i64 0, .int .u32 0, .int .u64 0, .int .u32 0, .int .u32 0, .int .u32 0, .slice none 0 0, .slice none 0 0, .int .u32 0, .slice none 0 0], .int .i64 0, .int .i64 2]) (by simp [results, Try.results94, go_sem, r0, r1, r2, r3, r4, r5, r6, r7, r8, r9]) rfl (ri_err 2 (by rw [HE.out]; rfl) (by rw [HE.out]; decide) ((HRJ.out _).b.grown hg5 (HRJ.out _).b.size (fun q hq => by injection hq with hq; omega)))
    · have g3 : decide ((n : Int) < (sz : Int)) = false := by simp; omega
      have g3' : decide (n < sz) = false := by simp; omega
      have HE : Hid (rightE l = 0) := by show _ = _; rw [hRE, if_neg (by omega), if_neg (by omega)]
      have hcm := HB.out.cm
      have hnc := HB.out.nc
      unfold maxLen at hcm
      have hc4 : ¬ c = 4 := by omega
      have h4s : 4 ≤ sz := by omega
      have h4sI : (4 : Int) ≤ (sz : Int) := by omega
      have hsc : sz ≤ c := by omega
      have hscI : (sz : Int) ≤ (c : Int) := by omega
      have hll : ((l.drop 4).take (sz - 4)).length = sz - 4 := by rw [List.length_take, List.length_drop]; omega
      obtain ⟨q, hq⟩ : ∃ q, getI l = q := ⟨_, rfl⟩
      have hbz : sizeR (201 : Int) m = sz := by have := HL.out; unfold longR at this; rw [HM.out.2.2, HM.out.1] at this; rw [← hszw]; exact this
      have hbi : bodyI 201 m ((l.drop 4).take (sz - 4)) = q := by
        rw [← hq]
        unfold sizeR at hbz
        rw [if_neg (by decide)] at hbz
        unfold bodyI
        rw [if_neg (by decide), getN_shift l (sz - 4) 0 4 0 4 4 rfl rfl rfl (by omega) (by omega) (by omega) (by omega), getKs_shift l (sz - 4) 4 m (by omega) (by omega)]
        unfold getI
        rw [if_neg (show ¬ (rightE l ≠ 0) by rw [HE.out]; simp), HM.out.2.2, HM.out.1, if_neg (by decide)]
      have HBI := Lib.hid hbi
      have HQ := Lib.hid hq
      have HNN : Hid (rightN l = sz) := by show _ = _; unfold rightN; rw [if_pos HE.out, HL.out, hszw]
      have HBT : Hid (∀ w', Below w.heap.size w w' → Bts w' (some ⟨ad.block, ad.off + 4, none⟩) (sz - 4) (c - 4) ((l.drop 4).take (sz - 4))) := fun w' hb => ⟨hll, by omega, by unfold maxLen; omega, part_rd (HB.out.below hb) 4 (sz - 4) (by omega)⟩
      have hm15' : m ≤ 15 := by omega
      clear hm15 hRE hlw hns hszw hs4 hsz hll hbz hbi hq hcm
      go_wp2_with (first
        | (go_at_call 138; (with_reducible refine (rwords_any 201 m (by omega) (wd : Int) HWW.out _).mono ?_); rintro e w6 ⟨rfl, rfl⟩)
        | (go_at_call 139; (with_reducible refine (ritem_v _ 201 m (some ⟨ad.block, ad.off + 4, none⟩) (sz - 4) (c - 4) _ (HBT.out _ (HRJ.out _).b) (by decide) hm15' q HBI.out 201 (by decide)).mono ?_); rintro e w6 ⟨A6, c6, rfl, ho6, hb6⟩; have HO6 := Lib.hid ho6; have hres6 := blk_below (HRJ.out _).res hb6; have hb7 := (HRJ.out _).b.trans (hb6.mono (HRJ.out _).b.size); clear ho6)
        | (refine wpList_store_blk rfl 54 (.tmp 2) (.tmp 88) rfl w.heap.size _ #[.int .i64 q.k, .int .u32 q.s, .int .u64 q.ntp, .int .u32 q.tm, .int .u32 q.pk, .int .u32 q.oc, .slice A6 m c6, .slice none 0 0, .int .u32 0, .slice none 0 0] _ rfl rfl hres6 rfl (by kernel_rfl) (by simp [Value.oneCell']) ?_; intro w5 hi5 hg5; obtain ⟨r0, r1, r2, r3, r4, r5, r6, r7, r8, r9⟩ := ten_cells hi5))
      exact bodyPost_ret (v := .tuple #[.agg #[.int .i64 q.k, .int .u32 q.s, .int .u64 q.ntp, .int .u32 q.tm, .int .u32 q.pk, .int .u32 q.oc, .slice A6 m c6, .slice none 0 0, .int .u32 0, .slice none 0 0], .int .i64 (sz : Nat), .int .i64 0]) (by simp [results, Try.results94, go_sem, r0, r1, r2, r3, r4, r5, r6, r7, r8, r9]) rfl ⟨A6, m, c6, by rw [HQ.out, HNN.out, HE.out]; rfl, by rw [HQ.out]; exact own_mono (HO6.out.kept hg5 (own_off HO6.out hres6 (by decide))) (HRJ.out _).b.size, hb7.grown hg5 hb7.size (fun q hq => by injection hq with hq; omega)⟩
  · have g2 : ((lg : Int) != (wd : Int)) = true := by simp; omega
    have g2' : (lg != wd) = true := by simp; omega
    have HE : Hid (rightE l = 1) := by show _ = _; rw [hRE, if_pos (.inr (by omega))]
    clear hm15 hRE hlw
    go_wp2_with (first
      | (go_at_call 138; (with_reducible refine (rwords_any 201 m (by omega) (wd : Int) HWW.out _).mono ?_); rintro e w6 ⟨rfl, rfl⟩)
      | (refine wpList_store_blk rfl 54 (.tmp 2) (.tmp 74) rfl w.heap.size _ #[.int .i64 0, .int .u32 0, .int .u64 0, .int .u32 0, .int .u32 0, .int .u32 0, .slice none 0 0, .slice none 0 0, .int .u32 0, .slice none 0 0] _ rfl rfl (HRJ.out _).res rfl (by kernel_rfl) (by simp [Value.oneCell']) ?_; intro w5 hi5 hg5; obtain ⟨r0, r1, r2, r3, r4, r5, r6, r7, r8, r9⟩ := ten_cells hi5))
    exact bodyPost_ret (v := .tuple #[.agg #[.int .i64 0, .int .u32 0, .int .u64 0, .int .u32 0, .int .u32 0, .int .u32 0, .slice none 0 0, .slice none 0 0, .int .u32 0, .slice none 0 0], .int .i64 0, .int .i64 1]) (by simp [results, Try.results94, go_sem, r0, r1, r2, r3, r4, r5, r6, r7, r8, r9]) rfl (ri_err 1 (by rw [HE.out]; rfl) (by rw [HE.out]; decide) ((HRJ.out _).b.grown hg5 (HRJ.out _).b.size (fun q hq => by injection hq with hq; omega)))

end Go.Proofs.Ytknlkmencdlpcaa
