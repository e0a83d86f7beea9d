/-
What package rtcp reads of bytes: kind, length, number, parts, item.
What package rtcp reads of bytes: an item, and how many bytes it takes.
-/
import Derived.Test.YtknlkmencdlpcaaRc1
import Derived.Test.YtknlkmencdlpcaaRepP
import Derived.Test.YtknlkmencdlpcaaCells
import Derived.Deep.QuietTactic
import Derived.BigQuiet
import Derived.Deep.CutBlock
namespace Go.Proofs.Ytknlkmencdlpcaa
set_option linter.unusedVariables false
set_option linter.unusedSimpArgs false
open Go Go.RowKit

theorem slU32 : SliceT Try.prog 37 24 (.int .u32 0) 1 4 := sliceT_of Try.underlying37 (by kernel_rfl) rfl (by decide) (by decide)
theorem slPr : SliceT Try.prog 52 181 (.agg #[.int .u16 0, .int .u16 0]) 2 4 := sliceT_of Try.underlying52 (by kernel_rfl) rfl (by decide) (by decide)
theorem cnumber_v (X : Option Addr) (n c : Nat) (l : List UInt8) (Z : Int) (a : Nat) (hZ : Z = a) (w : World) (h : Bts w X n c l) (h1 : a ≤ 1000000) (x : Nat) (hx : getN l Z 4 = x) :
    Calls Try.prog 160 #[.slice X n c, .int .i64 Z] w fun e w' => e = .returned (.int .u32 x) ∧ w = w' := by
  subst hZ hx
  have HB := Lib.hid h
  have hlt : getN l (a : Nat) 4 < 4294967296 := getN_lt4 l a
  clear h
  go_enter Try.func160, Try.ntmps160
  go_wp2_with (go_at_call 120; (with_reducible refine (get_same X n c l a 4 4 rfl w HB.out (by omega) (by omega)).mono ?_); rintro e w1 ⟨rfl, rfl⟩)
  go_ret
  exact ⟨rfl, rfl⟩
theorem lit_pr (w : World) (a b : Nat) : Rd (w.alloc (.cells #[.int .u16 a, .int .u16 b] 181)) (some ⟨w.heap.size, 0, none⟩) (rowP [(a, b)]) := by
  intro j u hu
  refine ⟨_, rfl, ?_⟩
  have h := blk_alloc w (.cells #[.int .u16 a, .int .u16 b] 181)
  match j with
  | 0 => rw [add_zero']; rw [cell_of_row _ _ _ _ _ _ h]; simpa [rowP, prV] using hu
  | 1 => rw [add_lit, cell_of_row _ _ _ _ _ _ h]; simpa [rowP, prV] using hu
  | j + 2 => simp [rowP, prV] at hu
theorem pr_one (a b : Nat) : ∀ u ∈ rowP [(a, b)], u.oneCell' = true := by
  intro u hu
  simp only [rowP, prV, List.flatMap_cons, List.flatMap_nil, List.append_nil, List.mem_cons, List.not_mem_nil, or_false] at hu
  rcases hu with rfl | rfl <;> rfl
/-- What parts keeps between its steps. -/
structure PrtS (w0 w : World) (it : Array Value) (E : TypeId) (size : Nat) (A : Option Addr) (k cA : Nat) (xs : List Value) : Prop where
  res : w.heap[w0.heap.size]? = some (.cells #[.int .i64 0, .int .u32 0, .int .u64 0, .int .u32 0, .int .u32 0, .int .u32 0, .slice none 0 0, .slice none 0 0, .int .u32 0, .slice none 0 0] 54 (0, 0))
  it : w.heap[w0.heap.size + 1]? = some (.cells it 54 (0, 0))
  own : w.ownsRow w0.heap.size E size (.slice A k cA) k xs
  b : Below w0.heap.size w0 w
section
variable {w0 w w' : World} {it : Array Value} {E : TypeId} {size : Nat} {A : Option Addr} {k cA : Nat} {xs : List Value}
theorem PrtS.below (h : PrtS w0 w it E size A k cA xs) (hb : Below w.heap.size w w') : PrtS w0 w' it E size A k cA xs :=
  ⟨blk_below h.res hb, blk_below h.it hb, h.own.kept (own_below hb) (own_none _), h.b.trans (hb.mono h.b.size)⟩
theorem PrtS.alloc (h : PrtS w0 w it E size A k cA xs) (o : Obj) : PrtS w0 (w.alloc o) it E size A k cA xs := h.below ((Below.refl _ _).alloc (Nat.le_refl _) o)
theorem PrtS.item {it' : Array Value} (hE : E ≠ 54) (h : PrtS w0 w it E size A k cA xs) (hi : w'.heap[w0.heap.size + 1]? = some (.cells it' 54 (0, 0))) (hg : w.grownBy w' (some (w0.heap.size + 1))) : PrtS w0 w' it' E size A k cA xs :=
  ⟨(hg.block _ (blk_in h.res) (fun e => by injection e with e; omega)).trans h.res, hi, h.own.kept hg (own_off h.own h.it hE), h.b.grown hg h.b.size (fun q hq => by injection hq with hq; omega)⟩
theorem PrtS.app {A1 : Option Addr} {c1 k1 : Nat} {ys : List Value} (hE : E ≠ 54) (h : PrtS w0 w it E size A k cA xs) (hg : w.grownBy w' (A.map Addr.block)) (ho : w'.ownsRow w0.heap.size E size (.slice A1 k1 c1) k1 ys) :
    PrtS w0 w' it E size A1 k1 c1 ys := by
  have hi := own_off h.own h.it hE
  have he := own_off h.own h.res hE
  rw [ownBlock_slice] at hi he
  refine ⟨(hg.block _ (blk_in h.res) (fun e => ?_)).trans h.res, (hg.block _ (blk_in h.it) (fun e => ?_)).trans h.it, ho, h.b.grown hg h.b.size (fun q hq => own_from h.own q hq)⟩
  · rcases he with he | he
    · rw [he] at e; cases e
    · exact he e.symm
  · rcases hi with hi | hi
    · rw [hi] at e; cases e
    · exact hi e.symm
end
theorem two_newR (w : World) (o1 o2 : Obj) : Below w.heap.size w ((w.alloc o1).alloc o2) ∧ ((w.alloc o1).alloc o2).heap[w.heap.size]? = some o1 ∧ ((w.alloc o1).alloc o2).heap[w.heap.size + 1]? = some o2 := by
  have h2 := heap_alloc_new (w.alloc o1) o2
  rw [show (w.alloc o1).heap.size = w.heap.size + 1 by simp] at h2
  exact ⟨((Below.refl _ _).alloc (Nat.le_refl _) _).alloc (by simp) _, blk_below (blk_alloc w _) ((Below.refl _ _).alloc (Nat.le_refl _) _), h2⟩
theorem prt_start (w : World) (it : Array Value) (E : TypeId) (size : Nat) : PrtS w ((w.alloc (.cells #[.int .i64 0, .int .u32 0, .int .u64 0, .int .u32 0, .int .u32 0, .int .u32 0, .slice none 0 0, .slice none 0 0, .int .u32 0, .slice none 0 0] 54)).alloc (.cells it 54)) it E size none 0 0 [] := by
  have hT := two_newR w (.cells #[.int .i64 0, .int .u32 0, .int .u64 0, .int .u32 0, .int .u32 0, .int .u32 0, .slice none 0 0, .slice none 0 0, .int .u32 0, .slice none 0 0] 54) (.cells it 54)
  exact ⟨hT.2.1, hT.2.2, World.ownsRow_nil _ _ _ _, hT.1⟩
/-- One cell of ten, written. -/
theorem ten_set {w : World} {g : Nat} {cs : Array Value} {t : TypeId} (h : w.heap[g]? = some (.cells cs t (0, 0))) (j : Nat) (u v : Value) (hu : cs[j]? = some u) {cs' : Array Value} (hc : cs.setIfInBounds j v = cs') :
    (w.cell? ⟨g, j, none⟩ = some u ∧ w.frozen? ⟨g, j, none⟩ = false) ∧ (w.setCell ⟨g, j, none⟩ v).heap[g]? = some (.cells cs' t (0, 0)) ∧ w.grownBy (w.setCell ⟨g, j, none⟩ v) (some g) := by
  subst hc
  exact cell_set h j u v hu
set_option maxRecDepth 20000 in
set_option maxHeartbeats 4000000 in
theorem parts_203 (X : Option Addr) (n c m : Nat) (l : List UInt8) (w : World) (h : Bts w X n c l) (hn : n = 4 + 4 * m) (hm : m ≤ 1000) :
    Calls Try.prog 137 #[.slice X n c, .int .i64 203] w fun e w' => ∃ A cA, e = .returned (.agg #[.int .i64 203, .int .u32 0, .int .u64 0, .int .u32 0, .int .u32 0, .int .u32 0, .slice none 0 0, .slice A m cA, .int .u32 0, .slice none 0 0]) ∧ w'.ownsRow w.heap.size 24 1 (.slice A m cA) m (u32s (csG l 4 m)) ∧ Below w.heap.size w w' := by
  have HB := Lib.hid h
  have HP0 := Lib.hid (prt_start w #[.int .i64 203, .int .u32 0, .int .u64 0, .int .u32 0, .int .u32 0, .int .u32 0, .slice none 0 0, .slice none 0 0, .int .u32 0, .slice none 0 0] 24 1)
  have m1 := h.nc
  have m2 := h.cm
  unfold maxLen at m2
  have HN := Lib.hid hn
  clear h hn
  go_enter Try.func137, Try.ntmps137
  go_wp2
  generalize (w.alloc (.cells #[.int .i64 0, .int .u32 0, .int .u64 0, .int .u32 0, .int .u32 0, .int .u32 0, .slice none 0 0, .slice none 0 0, .int .u32 0, .slice none 0 0] 54)).alloc (.cells #[.int .i64 203, .int .u32 0, .int .u64 0, .int .u32 0, .int .u32 0, .int .u32 0, .slice none 0 0, .slice none 0 0, .int .u32 0, .slice none 0 0] 54) = w1 at *
  go_loopw [6] (fun s6 wr => ∃ (k a cA : Nat) (A : Option Addr), s6 = .int .i64 a ∧ a = 4 + 4 * k ∧ k ≤ m ∧ Hid (PrtS w wr #[.int .i64 203, .int .u32 0, .int .u64 0, .int .u32 0, .int .u32 0, .int .u32 0, .slice none 0 0, .slice A k cA, .int .u32 0, .slice none 0 0] 24 1 A k cA (u32s (csG l 4 k)))) (fun s6 _ => 4 + 4 * m - (intOf s6).toNat)
  case atStart => exact ⟨0, 4, 0, none, rfl, rfl, Nat.zero_le _, HP0⟩
  case round =>
    obtain ⟨k, a, cA, A, rfl, ha, hkm, HPk⟩ := hrel
    obtain ⟨x0, x1, x2, x3, x4, x5, x6, x7, x8, x9⟩ := ten_cells HPk.out.it
    by_cases hlt : k < m
    · have han : a < n := by have := HN.out; omega
      have ha4 : a ≤ 5000 := by omega
      obtain ⟨z, hz⟩ : ∃ z, getN l a 4 = z := ⟨_, rfl⟩
      have hz4 : z < 4294967296 := by rw [← hz]; exact getN_lt4 l a
      have HST : Hid (csG l 4 (k + 1) = csG l 4 k ++ [z]) := by show _ = _; rw [csG_succ, ← ha, hz]
      have HZ := Lib.hid hz
      have HAK := Lib.hid ha
      clear hz ha
      go_wp2_with (first
        | (go_at_call 160; ((with_reducible refine (cnumber_v X n c l a a rfl _ (HB.out.below HPk.out.b) (by omega) z HZ.out).mono ?_); rintro e w2 ⟨rfl, rfl⟩))
        | (at_builtin; (refine wpList_app slU32 rfl _ _ rfl w.heap.size A k cA (u32s (csG l 4 k)) rfl (HPk.out.own.alloc _) (some ⟨wr.heap.size, 0, none⟩) 1 1 (u32s [z]) rfl rfl (Rd.own (World.ownsRow_lit (base := 0) (e := 24) (size := 1) wr #[.int .u32 z] 1 (Nat.zero_le _) (by unfold maxLen; omega) rfl)) (by intro u hu; simp [u32s] at hu; subst hu; rfl) (by omega) (HPk.out.alloc _).b.size ?_; intro A4 c4 w4 ho4 hg4 hA4; rw [show u32s (csG l 4 k) ++ u32s [z] = u32s (csG l 4 (k + 1)) by rw [HST.out]; simp [u32s]] at ho4; have HP4 := Lib.hid ((HPk.out.alloc _).app (by decide) hg4 ho4); obtain ⟨⟨u1, u2⟩, hq7, hg7⟩ := ten_set HP4.out.it 7 (.slice A k cA) (.slice A4 (k + 1) c4) rfl rfl; have HP5 := Lib.hid (HP4.out.item (by decide) hq7 hg7); clear ho4 hg4 hA4 hq7 hg7)))
      exact ⟨⟨k + 1, a + 4, c4, A4, rfl, by rw [HAK.out]; omega, by omega, HP5⟩, by simp [intOf]; have := HN.out; omega⟩
    · have hk : k = m := by omega
      subst hk
      have hI : ¬ a < n := by have := HN.out; omega
      clear ha hlt
      go_wp2_with (refine wpList_store_blk rfl 54 (.tmp 4) (.tmp 46) rfl w.heap.size _ #[.int .i64 203, .int .u32 0, .int .u64 0, .int .u32 0, .int .u32 0, .int .u32 0, .slice none 0 0, .slice A k cA, .int .u32 0, .slice none 0 0] _ rfl rfl HPk.out.res rfl (by kernel_rfl) (by simp [Value.oneCell']) ?_; intro w5 hi5 hg5)
      obtain ⟨r0, r1, r2, r3, r4, r5, r6, r7, r8, r9⟩ := ten_cells hi5
      exact bodyPost_ret (v := .agg #[.int .i64 203, .int .u32 0, .int .u64 0, .int .u32 0, .int .u32 0, .int .u32 0, .slice none 0 0, .slice A k cA, .int .u32 0, .slice none 0 0]) (by simp [results, Try.results137, go_sem, r0, r1, r2, r3, r4, r5, r6, r7, r8, r9]) rfl ⟨A, cA, rfl, HPk.out.own.kept hg5 (own_off HPk.out.own HPk.out.res (by decide)), (HPk.out.b.grown hg5 HPk.out.b.size (fun q hq => by injection hq with hq; omega))⟩
theorem getN_split (l : List UInt8) (a : Nat) (h : a + 4 ≤ l.length) : getN l (a : Nat) 4 = getN l (a : Nat) 2 * 65536 + getN l (a + 2 : Nat) 2 := by
  unfold getN
  rw [if_pos (by rw [withinB_iff]; omega), if_pos (by rw [withinB_iff]; omega), if_pos (by rw [withinB_iff]; omega)]
  show beN (part l a 4) = beN (part l a 2) * 65536 + beN (part l (a + 2) 2)
  rw [← part_join l a 2 2, beN_append, part_length (by omega)]
set_option maxRecDepth 20000 in
set_option maxHeartbeats 4000000 in
theorem parts_205 (X : Option Addr) (n c m : Nat) (l : List UInt8) (w : World) (h : Bts w X n c l) (hn : n = 12 + 4 * m) (hm : m ≤ 1000) :
    Calls Try.prog 137 #[.slice X n c, .int .i64 205] w fun e w' => ∃ A cA, e = .returned (.agg #[.int .i64 205, .int .u32 (getN l 4 4), .int .u64 0, .int .u32 0, .int .u32 0, .int .u32 0, .slice none 0 0, .slice none 0 0, .int .u32 (getN l 8 4), .slice A m cA]) ∧ w'.ownsRow w.heap.size 181 2 (.slice A m cA) m (rowP (prG l 12 m)) ∧ Below w.heap.size w w' := by
  have HB := Lib.hid h
  obtain ⟨y1, h1⟩ : ∃ x, getN l 4 4 = x := ⟨_, rfl⟩
  obtain ⟨y2, h2⟩ : ∃ x, getN l 8 4 = x := ⟨_, rfl⟩
  have b1 : y1 < 4294967296 := by rw [← h1]; exact getN_ltS l 4 4
  have b2 : y2 < 4294967296 := by rw [← h2]; exact getN_ltS l 8 4
  rw [h1, h2]
  have H1 := Lib.hid h1
  have H2 := Lib.hid h2
  have HP0 := Lib.hid (prt_start w #[.int .i64 205, .int .u32 y1, .int .u64 0, .int .u32 0, .int .u32 0, .int .u32 0, .slice none 0 0, .slice none 0 0, .int .u32 y2, .slice none 0 0] 181 2)
  have m1 := h.nc
  have m2 := h.cm
  unfold maxLen at m2
  have HN := Lib.hid hn
  have HLN := Lib.hid h.len
  have hbb := ((Below.refl w.heap.size w).alloc (Nat.le_refl _) (.cells #[.int .i64 0, .int .u32 0, .int .u64 0, .int .u32 0, .int .u32 0, .int .u32 0, .slice none 0 0, .slice none 0 0, .int .u32 0, .slice none 0 0] 54)).alloc (by simp) (.cells #[.int .i64 205, .int .u32 0, .int .u64 0, .int .u32 0, .int .u32 0, .int .u32 0, .slice none 0 0, .slice none 0 0, .int .u32 0, .slice none 0 0] 54)
  clear h hn h1 h2
  go_enter Try.func137, Try.ntmps137
  go_wp2_with (first
    | (go_at_call 160; ((with_reducible refine (cnumber_v X n c l 4 4 rfl _ (HB.out.below hbb) (by omega) y1 H1.out).mono ?_); rintro e w2 ⟨rfl, rfl⟩))
    | (go_at_call 160; ((with_reducible refine (cnumber_v X n c l 8 8 rfl _ (HB.out.below hbb) (by omega) y2 H2.out).mono ?_); rintro e w2 ⟨rfl, rfl⟩)))
  generalize (w.alloc (.cells #[.int .i64 0, .int .u32 0, .int .u64 0, .int .u32 0, .int .u32 0, .int .u32 0, .slice none 0 0, .slice none 0 0, .int .u32 0, .slice none 0 0] 54)).alloc (.cells #[.int .i64 205, .int .u32 y1, .int .u64 0, .int .u32 0, .int .u32 0, .int .u32 0, .slice none 0 0, .slice none 0 0, .int .u32 y2, .slice none 0 0] 54) = w1 at *
  clear hbb
  go_loopw [6] (fun s6 wr => ∃ (k a cA : Nat) (A : Option Addr), s6 = .int .i64 a ∧ a = 12 + 4 * k ∧ k ≤ m ∧ Hid (PrtS w wr #[.int .i64 205, .int .u32 y1, .int .u64 0, .int .u32 0, .int .u32 0, .int .u32 0, .slice none 0 0, .slice none 0 0, .int .u32 y2, .slice A k cA] 181 2 A k cA (rowP (prG l 12 k)))) (fun s6 _ => 12 + 4 * m - (intOf s6).toNat)
  case atStart => exact ⟨0, 12, 0, none, rfl, rfl, Nat.zero_le _, HP0⟩
  case round =>
    obtain ⟨k, a, cA, A, rfl, ha, hkm, HPk⟩ := hrel
    obtain ⟨x0, x1, x2, x3, x4, x5, x6, x7, x8, x9⟩ := ten_cells HPk.out.it
    by_cases hlt : k < m
    · have han : a < n := by have := HN.out; omega
      have ha4 : a ≤ 5000 := by omega
      obtain ⟨z, hz⟩ : ∃ z, getN l a 4 = z := ⟨_, rfl⟩
      have hz4 : z < 4294967296 := by rw [← hz]; exact getN_lt4 l a
      have hsp := getN_split l a (by have := HN.out; have := HLN.out; omega)
      have hp1 := getN_ltS l a 2
      have hp2 := getN_ltS l (a + 2) 2
      obtain ⟨p1, hq1⟩ : ∃ z, getN l a 2 = z := ⟨_, rfl⟩
      obtain ⟨p2, hq2⟩ : ∃ z, getN l (a + 2 : Nat) 2 = z := ⟨_, rfl⟩
      have HST : Hid (prG l 12 (k + 1) = prG l 12 k ++ [(p1, p2)]) := by show _ = _; rw [prG_succ, ← ha, hq1, hq2]
      rw [hz, hq1, hq2] at hsp
      replace hp1 : p1 < 65536 := by rw [← hq1]; exact hp1
      replace hp2 : p2 < 65536 := by rw [← hq2]; exact hp2
      have e1 : (z : Int) / 65536 = (p1 : Int) := by omega
      have e2 : IntKind.u16.wrap (z : Int) = (p2 : Int) := by simp [IntKind.wrap, IntKind.bits, IntKind.signed]; omega
      have HZ := Lib.hid hz
      have HAK := Lib.hid ha
      clear hz ha hsp hq1 hq2
      go_wp2_with (first
        | (go_at_call 160; ((with_reducible refine (cnumber_v X n c l a a rfl _ (HB.out.below HPk.out.b) (by omega) z HZ.out).mono ?_); rintro e w2 ⟨rfl, rfl⟩))
        | (at_builtin; go_loud (refine wpList_app slPr rfl _ _ rfl w.heap.size A k cA (rowP (prG l 12 k)) rfl (HPk.out.own.alloc _) (some ⟨wr.heap.size, 0, none⟩) 1 1 (rowP [(p1, p2)]) rfl rfl (lit_pr wr p1 p2) (pr_one p1 p2) (by omega) (HPk.out.alloc _).b.size ?_; intro A4 c4 w4 ho4 hg4 hA4; rw [show rowP (prG l 12 k) ++ rowP [(p1, p2)] = rowP (prG l 12 (k + 1)) by rw [HST.out]; simp [rowP]] at ho4; have HP4 := Lib.hid ((HPk.out.alloc _).app (by decide) hg4 ho4); obtain ⟨⟨u1, u2⟩, hq7, hg7⟩ := ten_set HP4.out.it 9 (.slice A k cA) (.slice A4 (k + 1) c4) rfl rfl; have HP5 := Lib.hid (HP4.out.item (by decide) hq7 hg7); clear ho4 hg4 hA4 hq7 hg7)))
      exact ⟨⟨k + 1, a + 4, c4, A4, rfl, by rw [HAK.out]; omega, by omega, HP5⟩, by simp [intOf]; have := HN.out; omega⟩
    · have hk : k = m := by omega
      subst hk
      have hI : ¬ a < n := by have := HN.out; omega
      clear ha hlt
      go_wp2_with (refine wpList_store_blk rfl 54 (.tmp 4) (.tmp 46) rfl w.heap.size _ #[.int .i64 205, .int .u32 y1, .int .u64 0, .int .u32 0, .int .u32 0, .int .u32 0, .slice none 0 0, .slice none 0 0, .int .u32 y2, .slice A k cA] _ rfl rfl HPk.out.res rfl (by kernel_rfl) (by simp [Value.oneCell']) ?_; intro w5 hi5 hg5)
      obtain ⟨r0, r1, r2, r3, r4, r5, r6, r7, r8, r9⟩ := ten_cells hi5
      exact bodyPost_ret (v := .agg #[.int .i64 205, .int .u32 y1, .int .u64 0, .int .u32 0, .int .u32 0, .int .u32 0, .slice none 0 0, .slice none 0 0, .int .u32 y2, .slice A k cA]) (by simp [results, Try.results137, go_sem, r0, r1, r2, r3, r4, r5, r6, r7, r8, r9]) rfl ⟨A, cA, rfl, HPk.out.own.kept hg5 (own_off HPk.out.own HPk.out.res (by decide)), (HPk.out.b.grown hg5 HPk.out.b.size (fun q hq => by injection hq with hq; omega))⟩
set_option maxRecDepth 20000 in
set_option maxHeartbeats 4000000 in
theorem parts_206 (X : Option Addr) (c : Nat) (l : List UInt8) (w : World) (h : Bts w X 12 c l) :
    Calls Try.prog 137 #[.slice X 12 c, .int .i64 206] w fun e w' => e = .returned (.agg #[.int .i64 206, .int .u32 (getN l 4 4), .int .u64 0, .int .u32 0, .int .u32 0, .int .u32 0, .slice none 0 0, .slice none 0 0, .int .u32 (getN l 8 4), .slice none 0 0]) ∧ Below w.heap.size w w' := by
  have HB := Lib.hid h
  obtain ⟨y1, h1⟩ : ∃ x, getN l 4 4 = x := ⟨_, rfl⟩
  obtain ⟨y2, h2⟩ : ∃ x, getN l 8 4 = x := ⟨_, rfl⟩
  have b1 : y1 < 4294967296 := by rw [← h1]; exact getN_ltS l 4 4
  have b2 : y2 < 4294967296 := by rw [← h2]; exact getN_ltS l 8 4
  rw [h1, h2]
  have H1 := Lib.hid h1
  have H2 := Lib.hid h2
  have HP0 := Lib.hid (prt_start w #[.int .i64 206, .int .u32 y1, .int .u64 0, .int .u32 0, .int .u32 0, .int .u32 0, .slice none 0 0, .slice none 0 0, .int .u32 y2, .slice none 0 0] 181 2)
  have hbb := ((Below.refl w.heap.size w).alloc (Nat.le_refl _) (.cells #[.int .i64 0, .int .u32 0, .int .u64 0, .int .u32 0, .int .u32 0, .int .u32 0, .slice none 0 0, .slice none 0 0, .int .u32 0, .slice none 0 0] 54)).alloc (by simp) (.cells #[.int .i64 206, .int .u32 0, .int .u64 0, .int .u32 0, .int .u32 0, .int .u32 0, .slice none 0 0, .slice none 0 0, .int .u32 0, .slice none 0 0] 54)
  clear h h1 h2
  go_enter Try.func137, Try.ntmps137
  go_wp2_with (first
    | (go_at_call 160; ((with_reducible refine (cnumber_v X 12 c l 4 4 rfl _ (HB.out.below hbb) (by omega) y1 H1.out).mono ?_); rintro e w2 ⟨rfl, rfl⟩))
    | (go_at_call 160; ((with_reducible refine (cnumber_v X 12 c l 8 8 rfl _ (HB.out.below hbb) (by omega) y2 H2.out).mono ?_); rintro e w2 ⟨rfl, rfl⟩)))
  generalize (w.alloc (.cells #[.int .i64 0, .int .u32 0, .int .u64 0, .int .u32 0, .int .u32 0, .int .u32 0, .slice none 0 0, .slice none 0 0, .int .u32 0, .slice none 0 0] 54)).alloc (.cells #[.int .i64 206, .int .u32 y1, .int .u64 0, .int .u32 0, .int .u32 0, .int .u32 0, .slice none 0 0, .slice none 0 0, .int .u32 y2, .slice none 0 0] 54) = w1 at *
  clear hbb
  go_loopw [6] (fun s6 wr => s6 = .int .i64 12 ∧ Hid (PrtS w wr #[.int .i64 206, .int .u32 y1, .int .u64 0, .int .u32 0, .int .u32 0, .int .u32 0, .slice none 0 0, .slice none 0 0, .int .u32 y2, .slice none 0 0] 181 2 none 0 0 [])) (fun _ _ => 0)
  case atStart => exact ⟨rfl, HP0⟩
  case round =>
    obtain ⟨rfl, HPk⟩ := hrel
    obtain ⟨x0, x1, x2, x3, x4, x5, x6, x7, x8, x9⟩ := ten_cells HPk.out.it
    go_wp2_with (refine wpList_store_blk rfl 54 (.tmp 4) (.tmp 46) rfl w.heap.size _ #[.int .i64 206, .int .u32 y1, .int .u64 0, .int .u32 0, .int .u32 0, .int .u32 0, .slice none 0 0, .slice none 0 0, .int .u32 y2, .slice none 0 0] _ rfl rfl HPk.out.res rfl (by kernel_rfl) (by simp [Value.oneCell']) ?_; intro w5 hi5 hg5)
    obtain ⟨r0, r1, r2, r3, r4, r5, r6, r7, r8, r9⟩ := ten_cells hi5
    exact bodyPost_ret (v := .agg #[.int .i64 206, .int .u32 y1, .int .u64 0, .int .u32 0, .int .u32 0, .int .u32 0, .slice none 0 0, .slice none 0 0, .int .u32 y2, .slice none 0 0]) (by simp [results, Try.results137, go_sem, r0, r1, r2, r3, r4, r5, r6, r7, r8, r9]) rfl ⟨rfl, (HPk.out.b.grown hg5 HPk.out.b.size (fun q hq => by injection hq with hq; omega))⟩
end Go.Proofs.Ytknlkmencdlpcaa

namespace Go.Proofs.Ytknlkmencdlpcaa
set_option linter.unusedVariables false
set_option linter.unusedSimpArgs false
open Go Go.RowKit

/-- An item's three rows, each of its own. -/
structure SlO (w : World) (base : Nat) (q : Itm) (A : Option Addr) (k cA : Nat) (G : Option Addr) (gn gc : Nat) (P : Option Addr) (pn pc : Nat) : Prop where
  oa : w.ownsRow base 141 7 (.slice A k cA) k (rowK q.bl)
  og : w.ownsRow base 24 1 (.slice G gn gc) gn (u32s q.go)
  op : w.ownsRow base 181 2 (.slice P pn pc) pn (rowP q.pr)
def RcPost (l : List UInt8) (w : World) (e : Ending) (w' : World) : Prop := ∃ A k cA G gn gc P pn pc, e = .returned (.tuple #[.agg #[.int .i64 (getG l).k, .int .u32 (getG l).s, .int .u64 (getG l).ntp, .int .u32 (getG l).tm, .int .u32 (getG l).pk, .int .u32 (getG l).oc, .slice A k cA, .slice G gn gc, .int .u32 (getG l).me, .slice P pn pc], .int .i64 (gN l : Nat), .int .i64 (gE l : Nat)]) ∧
  Hid (SlO w' w.heap.size (getG l) A k cA G gn gc P pn pc) ∧ Below w.heap.size w w'
theorem slo_zero (w : World) (base : Nat) (k : Int) : SlO w base (bareI k) none 0 0 none 0 0 none 0 0 := ⟨World.ownsRow_nil _ _ _ _, World.ownsRow_nil _ _ _ _, World.ownsRow_nil _ _ _ _⟩
theorem rc_err {l : List UInt8} {w w' : World} (Z : Int) (hZ : Z = (gE l : Nat)) (hne : gE l ≠ 0) (hb : Below w.heap.size w w') : RcPost l w (.returned (.tuple #[.agg #[.int .i64 0, .int .u32 0, .int .u64 0, .int .u32 0, .int .u32 0, .int .u32 0, .slice none 0 0, .slice none 0 0, .int .u32 0, .slice none 0 0], .int .i64 0, .int .i64 Z])) w' := by
  subst hZ
  have h1 : getG l = bareI 0 := by unfold getG; rw [if_pos hne]
  have h2 : gN l = 0 := by unfold gN; rw [if_neg hne]
  refine ⟨none, 0, 0, none, 0, 0, none, 0, 0, ?_, ?_, hb⟩
  · rw [h1, h2]; rfl
  · rw [h1]; exact slo_zero _ _ _
set_option maxRecDepth 20000 in
set_option maxHeartbeats 4000000 in
theorem kind_200 (A : Option Addr) (n c : Nat) (l : List UInt8) (w : World) (h : Bts w A n c l) (h4 : 4 ≤ l.length) (hk : byteN l 1 = 200) :
    Calls Try.prog 134 #[.slice A n c] w fun e w' => e = .returned (.tuple #[.int .i64 200, .bool true]) ∧ Below w.heap.size w w' := by
  have hn := h.len
  obtain ⟨ad, rfl, hc0⟩ := bts_byte h (k := 0) (by omega)
  obtain ⟨ad', hA, hc1⟩ := bts_byte h (k := 1) (by omega)
  injection hA with hA; subst hA
  rw [add_zero'] at hc0
  replace hc1 : w.cell? ⟨ad.block, ad.off + 1, none⟩ = _ := hc1
  have n0 : 0 < n := by omega
  have n1 : 1 < n := by omega
  have n1' : (1 : Int) < n := by omega
  rw [hk] at hc1
  clear h hk h4 hn hc0
  go_enter Try.func134, Try.ntmps134
  go_wp2
  go_ret2
  exact ⟨rfl, Below.refl _ _⟩
set_option maxRecDepth 20000 in
set_option maxHeartbeats 4000000 in
theorem kind_201 (A : Option Addr) (n c : Nat) (l : List UInt8) (w : World) (h : Bts w A n c l) (h4 : 4 ≤ l.length) (hk : byteN l 1 = 201) :
    Calls Try.prog 134 #[.slice A n c] w fun e w' => e = .returned (.tuple #[.int .i64 201, .bool true]) ∧ Below w.heap.size w w' := by
  have hn := h.len
  obtain ⟨ad, rfl, hc0⟩ := bts_byte h (k := 0) (by omega)
  obtain ⟨ad', hA, hc1⟩ := bts_byte h (k := 1) (by omega)
  injection hA with hA; subst hA
  rw [add_zero'] at hc0
  replace hc1 : w.cell? ⟨ad.block, ad.off + 1, none⟩ = _ := hc1
  have n0 : 0 < n := by omega
  have n1 : 1 < n := by omega
  have n1' : (1 : Int) < n := by omega
  rw [hk] at hc1
  clear h hk h4 hn hc0
  go_enter Try.func134, Try.ntmps134
  go_wp2
  go_ret2
  exact ⟨rfl, Below.refl _ _⟩
set_option maxRecDepth 20000 in
set_option maxHeartbeats 4000000 in
theorem kind_203 (A : Option Addr) (n c : Nat) (l : List UInt8) (w : World) (h : Bts w A n c l) (h4 : 4 ≤ l.length) (hk : byteN l 1 = 203) :
    Calls Try.prog 134 #[.slice A n c] w fun e w' => e = .returned (.tuple #[.int .i64 203, .bool true]) ∧ Below w.heap.size w w' := by
  have hn := h.len
  obtain ⟨ad, rfl, hc0⟩ := bts_byte h (k := 0) (by omega)
  obtain ⟨ad', hA, hc1⟩ := bts_byte h (k := 1) (by omega)
  injection hA with hA; subst hA
  rw [add_zero'] at hc0
  replace hc1 : w.cell? ⟨ad.block, ad.off + 1, none⟩ = _ := hc1
  have n0 : 0 < n := by omega
  have n1 : 1 < n := by omega
  have n1' : (1 : Int) < n := by omega
  rw [hk] at hc1
  clear h hk h4 hn hc0
  go_enter Try.func134, Try.ntmps134
  go_wp2
  go_ret2
  exact ⟨rfl, Below.refl _ _⟩
set_option maxRecDepth 20000 in
set_option maxHeartbeats 4000000 in
theorem kind_205y (A : Option Addr) (n c : Nat) (l : List UInt8) (w : World) (h : Bts w A n c l) (h4 : 4 ≤ l.length) (hk : byteN l 1 = 205) (hm : byteN l 0 % 32 = 1) :
    Calls Try.prog 134 #[.slice A n c] w fun e w' => e = .returned (.tuple #[.int .i64 205, .bool true]) ∧ Below w.heap.size w w' := by
  have hn := h.len
  obtain ⟨ad, rfl, hc0⟩ := bts_byte h (k := 0) (by omega)
  obtain ⟨ad', hA, hc1⟩ := bts_byte h (k := 1) (by omega)
  injection hA with hA; subst hA
  rw [add_zero'] at hc0
  replace hc1 : w.cell? ⟨ad.block, ad.off + 1, none⟩ = _ := hc1
  have n0 : 0 < n := by omega
  have n1 : 1 < n := by omega
  have n1' : (1 : Int) < n := by omega
  rw [hk] at hc1
  have x1 := byteN_lt l 0
  have a31 := and31 _ x1
  have hmm : ((((byteN l 0 % 32 : Nat)) : Int) == 1) = true := by simp; omega
  generalize byteN l 0 % 32 = m at *
  generalize byteN l 0 = x at *
  have d0 : ∀ j, (w.drewN j).cell? ad = _ := fun j => hc0
  clear h hk h4 hn hm
  go_enter Try.func134, Try.ntmps134
  go_wp2
  go_quiet (fail)
  go_wp2
  go_ret2
  exact ⟨rfl, below_drewN (Below.refl _ _) _⟩
set_option maxRecDepth 20000 in
set_option maxHeartbeats 4000000 in
theorem kind_205n (A : Option Addr) (n c : Nat) (l : List UInt8) (w : World) (h : Bts w A n c l) (h4 : 4 ≤ l.length) (hk : byteN l 1 = 205) (hm : byteN l 0 % 32 ≠ 1) :
    Calls Try.prog 134 #[.slice A n c] w fun e w' => e = .returned (.tuple #[.int .i64 205, .bool false]) ∧ Below w.heap.size w w' := by
  have hn := h.len
  obtain ⟨ad, rfl, hc0⟩ := bts_byte h (k := 0) (by omega)
  obtain ⟨ad', hA, hc1⟩ := bts_byte h (k := 1) (by omega)
  injection hA with hA; subst hA
  rw [add_zero'] at hc0
  replace hc1 : w.cell? ⟨ad.block, ad.off + 1, none⟩ = _ := hc1
  have n0 : 0 < n := by omega
  have n1 : 1 < n := by omega
  have n1' : (1 : Int) < n := by omega
  rw [hk] at hc1
  have x1 := byteN_lt l 0
  have a31 := and31 _ x1
  have hmm : ((((byteN l 0 % 32 : Nat)) : Int) == 1) = false := by simp; omega
  generalize byteN l 0 % 32 = m at *
  generalize byteN l 0 = x at *
  have d0 : ∀ j, (w.drewN j).cell? ad = _ := fun j => hc0
  clear h hk h4 hn hm
  go_enter Try.func134, Try.ntmps134
  go_wp2
  go_quiet (fail)
  go_wp2
  go_ret2
  exact ⟨rfl, below_drewN (Below.refl _ _) _⟩
set_option maxRecDepth 20000 in
set_option maxHeartbeats 4000000 in
theorem kind_206y (A : Option Addr) (n c : Nat) (l : List UInt8) (w : World) (h : Bts w A n c l) (h4 : 4 ≤ l.length) (hk : byteN l 1 = 206) (hm : byteN l 0 % 32 = 1) :
    Calls Try.prog 134 #[.slice A n c] w fun e w' => e = .returned (.tuple #[.int .i64 206, .bool true]) ∧ Below w.heap.size w w' := by
  have hn := h.len
  obtain ⟨ad, rfl, hc0⟩ := bts_byte h (k := 0) (by omega)
  obtain ⟨ad', hA, hc1⟩ := bts_byte h (k := 1) (by omega)
  injection hA with hA; subst hA
  rw [add_zero'] at hc0
  replace hc1 : w.cell? ⟨ad.block, ad.off + 1, none⟩ = _ := hc1
  have n0 : 0 < n := by omega
  have n1 : 1 < n := by omega
  have n1' : (1 : Int) < n := by omega
  rw [hk] at hc1
  have x1 := byteN_lt l 0
  have a31 := and31 _ x1
  have hmm : ((((byteN l 0 % 32 : Nat)) : Int) == 1) = true := by simp; omega
  generalize byteN l 0 % 32 = m at *
  generalize byteN l 0 = x at *
  have d0 : ∀ j, (w.drewN j).cell? ad = _ := fun j => hc0
  clear h hk h4 hn hm
  go_enter Try.func134, Try.ntmps134
  go_wp2
  go_quiet (fail)
  go_wp2
  go_ret2
  exact ⟨rfl, below_drewN (Below.refl _ _) _⟩
set_option maxRecDepth 20000 in
set_option maxHeartbeats 4000000 in
theorem kind_206n (A : Option Addr) (n c : Nat) (l : List UInt8) (w : World) (h : Bts w A n c l) (h4 : 4 ≤ l.length) (hk : byteN l 1 = 206) (hm : byteN l 0 % 32 ≠ 1) :
    Calls Try.prog 134 #[.slice A n c] w fun e w' => e = .returned (.tuple #[.int .i64 206, .bool false]) ∧ Below w.heap.size w w' := by
  have hn := h.len
  obtain ⟨ad, rfl, hc0⟩ := bts_byte h (k := 0) (by omega)
  obtain ⟨ad', hA, hc1⟩ := bts_byte h (k := 1) (by omega)
  injection hA with hA; subst hA
  rw [add_zero'] at hc0
  replace hc1 : w.cell? ⟨ad.block, ad.off + 1, none⟩ = _ := hc1
  have n0 : 0 < n := by omega
  have n1 : 1 < n := by omega
  have n1' : (1 : Int) < n := by omega
  rw [hk] at hc1
  have x1 := byteN_lt l 0
  have a31 := and31 _ x1
  have hmm : ((((byteN l 0 % 32 : Nat)) : Int) == 1) = false := by simp; omega
  generalize byteN l 0 % 32 = m at *
  generalize byteN l 0 = x at *
  have d0 : ∀ j, (w.drewN j).cell? ad = _ := fun j => hc0
  clear h hk h4 hn hm
  go_enter Try.func134, Try.ntmps134
  go_wp2
  go_quiet (fail)
  go_wp2
  go_ret2
  exact ⟨rfl, below_drewN (Below.refl _ _) _⟩
set_option maxRecDepth 20000 in
set_option maxHeartbeats 4000000 in
theorem kind_no (A : Option Addr) (n c : Nat) (l : List UInt8) (w : World) (h : Bts w A n c l) (h4 : 4 ≤ l.length) (h0 : byteN l 1 ≠ 200) (h1 : byteN l 1 ≠ 201) (h2 : byteN l 1 ≠ 203) (h3 : byteN l 1 ≠ 205) (h5 : byteN l 1 ≠ 206) :
    Calls Try.prog 134 #[.slice A n c] w fun e w' => e = .returned (.tuple #[.int .i64 0, .bool false]) ∧ Below w.heap.size w w' := by
  have hn := h.len
  obtain ⟨ad, rfl, hc0⟩ := bts_byte h (k := 0) (by omega)
  obtain ⟨ad', hA, hc1⟩ := bts_byte h (k := 1) (by omega)
  injection hA with hA; subst hA
  rw [add_zero'] at hc0
  replace hc1 : w.cell? ⟨ad.block, ad.off + 1, none⟩ = _ := hc1
  have n0 : 0 < n := by omega
  have n1 : 1 < n := by omega
  have n1' : (1 : Int) < n := by omega
  have y1 := byteN_lt l 1
  generalize byteN l 1 = y at *
  have e0 : ((y : Int) == 200) = false := by simp; omega
  have e1 : ((y : Int) == 201) = false := by simp; omega
  have e2 : ((y : Int) == 203) = false := by simp; omega
  have e3 : ((y : Int) == 205) = false := by simp; omega
  have e4 : ((y : Int) == 206) = false := by simp; omega
  clear h h4 hn h0 h1 h2 h3 h5 hc0
  go_enter Try.func134, Try.ntmps134
  go_wp2
  go_ret2
  exact ⟨rfl, Below.refl _ _⟩
set_option maxRecDepth 20000 in
set_option maxHeartbeats 4000000 in
theorem length_203 (A : Option Addr) (n c : Nat) (l : List UInt8) (w : World) (h : Bts w A n c l) (h4 : 4 ≤ l.length) (b : Bool) (hb : decide (1 ≤ byteN l 0 % 32 ∧ byteN l 0 % 32 ≤ 15 ∧ getN l 2 2 = byteN l 0 % 32) = b) (N : Nat) (hN : gL l = N) :
    Calls Try.prog 136 #[.slice A n c, .int .i64 203] w fun e w' => e = .returned (.tuple #[.int .i64 N, .bool b]) ∧ w = w' := by
  have HB := Lib.hid h
  have hn := h.len
  obtain ⟨ad, rfl, hc0⟩ := bts_byte h (k := 0) (by omega)
  obtain ⟨ad', hA, hc1⟩ := bts_byte h (k := 1) (by omega)
  injection hA with hA; subst hA
  rw [add_zero'] at hc0
  replace hc1 : w.cell? ⟨ad.block, ad.off + 1, none⟩ = _ := hc1
  have n0 : 0 < n := by omega
  have n1 : 1 < n := by omega
  have n1' : (1 : Int) < n := by omega
  have x1 := byteN_lt l 0
  have a31 := and31 _ x1
  have hz : getN l 2 2 < 65536 := getN_ltS l 2 2
  unfold gL at hN
  obtain ⟨wd, hwd⟩ : ∃ x, getN l 2 2 = x := ⟨_, rfl⟩
  rw [hwd] at hb hN hz
  have HW := Lib.hid hwd
  have hm31 : byteN l 0 % 32 ≤ 31 := by omega
  generalize byteN l 0 % 32 = m at *
  generalize byteN l 0 = x at *
  have hNI : ((wd : Int) + 1) * 4 = (N : Int) := by omega
  have hN4 : 4 ≤ N ∧ N ≤ 262144 := by omega
  have GET : ∀ w1, Bts w1 (some ad) n c l → Calls Try.prog 120 #[.slice (some ad) n c, .int .i64 2, .int .i64 2] w1 fun e w' => e = .returned (.tuple #[.int .u64 wd, .bool (withinB n 2 2)]) ∧ w1 = w' := fun w1 h1 => by
    have := get_same2 (some ad) n c l 2 2 2 2 rfl rfl w1 h1 (by omega) (by omega)
    rw [show getN l ((2 : Nat) : Int) ((2 : Nat) : Int) = wd from HW.out] at this
    exact this.mono fun e w' ⟨a, b⟩ => ⟨a, b.symm⟩
  have HGET := Lib.hid GET
  clear h hwd h4 hn hc1 GET
  have HSZ : Hid (((4 + 4 * m : Nat) : Int) = (szK 203 m : Nat)) := by show _ = _; unfold szK; rw [if_pos rfl]
  have t1 : decide ((1 : Int) ≤ (m : Int)) = decide (1 ≤ m) := by simp; omega
  by_cases q1 : 1 ≤ m
  · by_cases q2 : m ≤ 15
    · have q2' : decide ((m : Int) ≤ 15) = true := by simp; omega
      have q1' : decide ((1 : Int) ≤ (m : Int)) = true := by simp; omega
      have hbb : b = ((N : Int) == (4 + 4 * m : Nat)) := by rw [← hb, Bool.eq_iff_iff]; simp; omega
      have HBB := Lib.hid hbb
      clear hbb hb t1 hN
      go_enter Try.func136, Try.ntmps136
      go_wp2_with (first
        | (go_at_call 120; ((with_reducible refine (HGET.out _ HB.out).mono ?_); rintro e w2 ⟨rfl, rfl⟩))
        | (go_at_call 130; ((with_reducible refine (rcsize_any 203 m _ ((4 + 4 * m : Nat) : Int) rfl HSZ.out _ (by omega)).mono ?_); rintro e w2 ⟨rfl, hw2⟩; replace hw2 := hw2.symm; subst hw2)))
      go_ret2
      exact ⟨by rw [HBB.out]; rfl, rfl⟩
    · have q2' : decide ((m : Int) ≤ 15) = false := by simp; omega
      have q1' : decide ((1 : Int) ≤ (m : Int)) = true := by simp; omega
      have hbb : b = false := by rw [← hb]; simp; omega
      subst hbb
      clear hb t1 hN q2
      go_enter Try.func136, Try.ntmps136
      go_wp2_with (go_at_call 120; ((with_reducible refine (HGET.out _ HB.out).mono ?_); rintro e w2 ⟨rfl, rfl⟩))
      go_ret2
      exact ⟨rfl, rfl⟩
  · have q1' : decide ((1 : Int) ≤ (m : Int)) = false := by simp; omega
    have hbb : b = false := by rw [← hb]; simp; omega
    subst hbb
    clear hb t1 hN q1
    go_enter Try.func136, Try.ntmps136
    go_wp2_with (go_at_call 120; ((with_reducible refine (HGET.out _ HB.out).mono ?_); rintro e w2 ⟨rfl, rfl⟩))
    go_ret2
    exact ⟨rfl, rfl⟩
set_option maxRecDepth 20000 in
set_option maxHeartbeats 4000000 in
theorem length_205 (A : Option Addr) (n c : Nat) (l : List UInt8) (w : World) (h : Bts w A n c l) (h4 : 4 ≤ l.length) (b : Bool) (hb : decide (3 ≤ getN l 2 2 ∧ getN l 2 2 ≤ 18) = b) (N : Nat) (hN : gL l = N) :
    Calls Try.prog 136 #[.slice A n c, .int .i64 205] w fun e w' => e = .returned (.tuple #[.int .i64 N, .bool b]) ∧ w = w' := by
  have HB := Lib.hid h
  have hn := h.len
  obtain ⟨ad, rfl, hc0⟩ := bts_byte h (k := 0) (by omega)
  obtain ⟨ad', hA, hc1⟩ := bts_byte h (k := 1) (by omega)
  injection hA with hA; subst hA
  rw [add_zero'] at hc0
  replace hc1 : w.cell? ⟨ad.block, ad.off + 1, none⟩ = _ := hc1
  have n0 : 0 < n := by omega
  have n1 : 1 < n := by omega
  have n1' : (1 : Int) < n := by omega
  have x1 := byteN_lt l 0
  have a31 := and31 _ x1
  have hz : getN l 2 2 < 65536 := getN_ltS l 2 2
  unfold gL at hN
  obtain ⟨wd, hwd⟩ : ∃ x, getN l 2 2 = x := ⟨_, rfl⟩
  rw [hwd] at hb hN hz
  have HW := Lib.hid hwd
  have hm31 : byteN l 0 % 32 ≤ 31 := by omega
  generalize byteN l 0 % 32 = m at *
  generalize byteN l 0 = x at *
  have hNI : ((wd : Int) + 1) * 4 = (N : Int) := by omega
  have hN4 : 4 ≤ N ∧ N ≤ 262144 := by omega
  have GET : ∀ w1, Bts w1 (some ad) n c l → Calls Try.prog 120 #[.slice (some ad) n c, .int .i64 2, .int .i64 2] w1 fun e w' => e = .returned (.tuple #[.int .u64 wd, .bool (withinB n 2 2)]) ∧ w1 = w' := fun w1 h1 => by
    have := get_same2 (some ad) n c l 2 2 2 2 rfl rfl w1 h1 (by omega) (by omega)
    rw [show getN l ((2 : Nat) : Int) ((2 : Nat) : Int) = wd from HW.out] at this
    exact this.mono fun e w' ⟨a, b⟩ => ⟨a, b.symm⟩
  have HGET := Lib.hid GET
  clear h hwd h4 hn hc1 GET
  by_cases q1 : 3 ≤ wd
  · have q1' : decide ((16 : Int) ≤ (N : Int)) = true := by simp; omega
    have hbb : b = decide ((N : Int) ≤ 76) := by rw [← hb, Bool.eq_iff_iff]; simp; omega
    have HBB := Lib.hid hbb
    clear hbb hb hN q1
    go_enter Try.func136, Try.ntmps136
    go_wp2_with (first
      | (go_at_call 120; ((with_reducible refine (HGET.out _ HB.out).mono ?_); rintro e w2 ⟨rfl, rfl⟩))
      | (go_at_call 130; ((with_reducible refine (rcsize_any 205 1 _ 16 (by omega) (by decide) _ (by omega)).mono ?_); rintro e w2 ⟨rfl, hw2⟩; replace hw2 := hw2.symm; subst hw2))
      | (go_at_call 130; ((with_reducible refine (rcsize_any 205 16 _ 76 (by omega) (by decide) _ (by omega)).mono ?_); rintro e w2 ⟨rfl, hw2⟩; replace hw2 := hw2.symm; subst hw2)))
    go_ret2
    exact ⟨by rw [HBB.out]; rfl, rfl⟩
  · have q1' : decide ((16 : Int) ≤ (N : Int)) = false := by simp; omega
    have hbb : b = false := by rw [← hb]; simp; omega
    subst hbb
    clear hb hN q1
    go_enter Try.func136, Try.ntmps136
    go_wp2_with (first
      | (go_at_call 120; ((with_reducible refine (HGET.out _ HB.out).mono ?_); rintro e w2 ⟨rfl, rfl⟩))
      | (go_at_call 130; ((with_reducible refine (rcsize_any 205 1 _ 16 (by omega) (by decide) _ (by omega)).mono ?_); rintro e w2 ⟨rfl, hw2⟩; replace hw2 := hw2.symm; subst hw2)))
    go_ret2
    exact ⟨rfl, rfl⟩
set_option maxRecDepth 20000 in
set_option maxHeartbeats 4000000 in
theorem length_206 (A : Option Addr) (n c : Nat) (l : List UInt8) (w : World) (h : Bts w A n c l) (h4 : 4 ≤ l.length) (b : Bool) (hb : decide (getN l 2 2 = 2) = b) (N : Nat) (hN : gL l = N) :
    Calls Try.prog 136 #[.slice A n c, .int .i64 206] w fun e w' => e = .returned (.tuple #[.int .i64 N, .bool b]) ∧ w = w' := by
  have HB := Lib.hid h
  have hn := h.len
  obtain ⟨ad, rfl, hc0⟩ := bts_byte h (k := 0) (by omega)
  obtain ⟨ad', hA, hc1⟩ := bts_byte h (k := 1) (by omega)
  injection hA with hA; subst hA
  rw [add_zero'] at hc0
  replace hc1 : w.cell? ⟨ad.block, ad.off + 1, none⟩ = _ := hc1
  have n0 : 0 < n := by omega
  have n1 : 1 < n := by omega
  have n1' : (1 : Int) < n := by omega
  have x1 := byteN_lt l 0
  have a31 := and31 _ x1
  have hz : getN l 2 2 < 65536 := getN_ltS l 2 2
  unfold gL at hN
  obtain ⟨wd, hwd⟩ : ∃ x, getN l 2 2 = x := ⟨_, rfl⟩
  rw [hwd] at hb hN hz
  have HW := Lib.hid hwd
  have hm31 : byteN l 0 % 32 ≤ 31 := by omega
  generalize byteN l 0 % 32 = m at *
  generalize byteN l 0 = x at *
  have hNI : ((wd : Int) + 1) * 4 = (N : Int) := by omega
  have hN4 : 4 ≤ N ∧ N ≤ 262144 := by omega
  have GET : ∀ w1, Bts w1 (some ad) n c l → Calls Try.prog 120 #[.slice (some ad) n c, .int .i64 2, .int .i64 2] w1 fun e w' => e = .returned (.tuple #[.int .u64 wd, .bool (withinB n 2 2)]) ∧ w1 = w' := fun w1 h1 => by
    have := get_same2 (some ad) n c l 2 2 2 2 rfl rfl w1 h1 (by omega) (by omega)
    rw [show getN l ((2 : Nat) : Int) ((2 : Nat) : Int) = wd from HW.out] at this
    exact this.mono fun e w' ⟨a, b⟩ => ⟨a, b.symm⟩
  have HGET := Lib.hid GET
  clear h hwd h4 hn hc1 GET
  have hbb : b = ((N : Int) == 12) := by rw [← hb, Bool.eq_iff_iff]; simp; omega
  have HBB := Lib.hid hbb
  clear hbb hb hN
  go_enter Try.func136, Try.ntmps136
  go_wp2_with (first
    | (go_at_call 120; ((with_reducible refine (HGET.out _ HB.out).mono ?_); rintro e w2 ⟨rfl, rfl⟩))
    | (go_at_call 130; ((with_reducible refine (rcsize_any 206 0 _ 12 (by omega) (by decide) _ (by omega)).mono ?_); rintro e w2 ⟨rfl, hw2⟩; replace hw2 := hw2.symm; subst hw2)))
  go_ret2
  exact ⟨by rw [HBB.out]; rfl, rfl⟩
end Go.Proofs.Ytknlkmencdlpcaa
