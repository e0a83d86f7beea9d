/-
What package rtcp reads of bytes: kind, length, number, parts, item.
-/
import Derived.Test.YtaomdinddccpeaaRc1
import Derived.Test.YtaomdinddccpeaaRepP
import Derived.Test.YtaomdinddccpeaaCells
import Derived.Deep.QuietTactic
import Derived.BigQuiet
import Derived.Deep.CutBlock
namespace Go.Proofs.Ytaomdinddccpeaa
set_option linter.unusedVariables false
set_option linter.unusedSimpArgs false
open Go Go.RowKit

theorem slU32 : SliceT Try.prog 37 24 (.int .u32 0) 1 4 := sliceT_of Try.underlying37 (by kernel_rfl) rfl (by decide) (by decide)
theorem slPr : SliceT Try.prog 62 111 (.agg #[.int .u16 0, .int .u16 0]) 2 4 := sliceT_of Try.underlying62 (by kernel_rfl) rfl (by decide) (by decide)
theorem number_v (X : Option Addr) (n c : Nat) (l : List UInt8) (Z : Int) (a : Nat) (hZ : Z = a) (w : World) (h : Bts w X n c l) (h1 : a ≤ 1000000) (x : Nat) (hx : getN l Z 4 = x) :
    Calls Try.prog 98 #[.slice X n c, .int .i64 Z] w fun e w' => e = .returned (.int .u32 x) ∧ w = w' := by
  subst hZ hx
  have HB := Lib.hid h
  have hlt : getN l (a : Nat) 4 < 4294967296 := getN_lt4 l a
  clear h
  go_enter Try.func98, Try.ntmps98
  go_wp2_with (go_at_call 66; (with_reducible refine (get_same X n c l a 4 4 rfl w HB.out (by omega) (by omega)).mono ?_); rintro e w1 ⟨rfl, rfl⟩)
  go_ret
  exact ⟨rfl, rfl⟩
theorem lit_pr (w : World) (a b : Nat) : Rd (w.alloc (.cells #[.int .u16 a, .int .u16 b] 111)) (some ⟨w.heap.size, 0, none⟩) (rowP [(a, b)]) := by
  intro j u hu
  refine ⟨_, rfl, ?_⟩
  have h := blk_alloc w (.cells #[.int .u16 a, .int .u16 b] 111)
  match j with
  | 0 => rw [add_zero']; rw [cell_of_row _ _ _ _ _ _ h]; simpa [rowP, prV] using hu
  | 1 => rw [add_lit, cell_of_row _ _ _ _ _ _ h]; simpa [rowP, prV] using hu
  | j + 2 => simp [rowP, prV] at hu
theorem pr_one (a b : Nat) : ∀ u ∈ rowP [(a, b)], u.oneCell' = true := by
  intro u hu
  simp only [rowP, prV, List.flatMap_cons, List.flatMap_nil, List.append_nil, List.mem_cons, List.not_mem_nil, or_false] at hu
  rcases hu with rfl | rfl <;> rfl
/-- What parts keeps between its steps. -/
structure PrtS (w0 w : World) (it : Array Value) (E : TypeId) (size : Nat) (A : Option Addr) (k cA : Nat) (xs : List Value) : Prop where
  res : w.heap[w0.heap.size]? = some (.cells #[.int .i64 0, .int .u32 0, .int .u64 0, .int .u32 0, .int .u32 0, .int .u32 0, .slice none 0 0, .slice none 0 0, .int .u32 0, .slice none 0 0] 64 (0, 0))
  it : w.heap[w0.heap.size + 1]? = some (.cells it 64 (0, 0))
  own : w.ownsRow w0.heap.size E size (.slice A k cA) k xs
  b : Below w0.heap.size w0 w
section
variable {w0 w w' : World} {it : Array Value} {E : TypeId} {size : Nat} {A : Option Addr} {k cA : Nat} {xs : List Value}
theorem PrtS.below (h : PrtS w0 w it E size A k cA xs) (hb : Below w.heap.size w w') : PrtS w0 w' it E size A k cA xs :=
  ⟨blk_below h.res hb, blk_below h.it hb, h.own.kept (own_below hb) (own_none _), h.b.trans (hb.mono h.b.size)⟩
theorem PrtS.alloc (h : PrtS w0 w it E size A k cA xs) (o : Obj) : PrtS w0 (w.alloc o) it E size A k cA xs := h.below ((Below.refl _ _).alloc (Nat.le_refl _) o)
theorem PrtS.item {it' : Array Value} (hE : E ≠ 64) (h : PrtS w0 w it E size A k cA xs) (hi : w'.heap[w0.heap.size + 1]? = some (.cells it' 64 (0, 0))) (hg : w.grownBy w' (some (w0.heap.size + 1))) : PrtS w0 w' it' E size A k cA xs :=
  ⟨(hg.block _ (blk_in h.res) (fun e => by injection e with e; omega)).trans h.res, hi, h.own.kept hg (own_off h.own h.it hE), h.b.grown hg h.b.size (fun q hq => by injection hq with hq; omega)⟩
theorem PrtS.app {A1 : Option Addr} {c1 k1 : Nat} {ys : List Value} (hE : E ≠ 64) (h : PrtS w0 w it E size A k cA xs) (hg : w.grownBy w' (A.map Addr.block)) (ho : w'.ownsRow w0.heap.size E size (.slice A1 k1 c1) k1 ys) :
    PrtS w0 w' it E size A1 k1 c1 ys := by
  have hi := own_off h.own h.it hE
  have he := own_off h.own h.res hE
  rw [ownBlock_slice] at hi he
  refine ⟨(hg.block _ (blk_in h.res) (fun e => ?_)).trans h.res, (hg.block _ (blk_in h.it) (fun e => ?_)).trans h.it, ho, h.b.grown hg h.b.size (fun q hq => own_from h.own q hq)⟩
  · rcases he with he | he
    · rw [he] at e; cases e
    · exact he e.symm
  · rcases hi with hi | hi
    · rw [hi] at e; cases e
    · exact hi e.symm
end
theorem two_newR (w : World) (o1 o2 : Obj) : Below w.heap.size w ((w.alloc o1).alloc o2) ∧ ((w.alloc o1).alloc o2).heap[w.heap.size]? = some o1 ∧ ((w.alloc o1).alloc o2).heap[w.heap.size + 1]? = some o2 := by
  have h2 := heap_alloc_new (w.alloc o1) o2
  rw [show (w.alloc o1).heap.size = w.heap.size + 1 by simp] at h2
  exact ⟨((Below.refl _ _).alloc (Nat.le_refl _) _).alloc (by simp) _, blk_below (blk_alloc w _) ((Below.refl _ _).alloc (Nat.le_refl _) _), h2⟩
theorem prt_start (w : World) (it : Array Value) (E : TypeId) (size : Nat) : PrtS w ((w.alloc (.cells #[.int .i64 0, .int .u32 0, .int .u64 0, .int .u32 0, .int .u32 0, .int .u32 0, .slice none 0 0, .slice none 0 0, .int .u32 0, .slice none 0 0] 64)).alloc (.cells it 64)) it E size none 0 0 [] := by
  have hT := two_newR w (.cells #[.int .i64 0, .int .u32 0, .int .u64 0, .int .u32 0, .int .u32 0, .int .u32 0, .slice none 0 0, .slice none 0 0, .int .u32 0, .slice none 0 0] 64) (.cells it 64)
  exact ⟨hT.2.1, hT.2.2, World.ownsRow_nil _ _ _ _, hT.1⟩
/-- One cell of ten, written. -/
theorem ten_set {w : World} {g : Nat} {cs : Array Value} {t : TypeId} (h : w.heap[g]? = some (.cells cs t (0, 0))) (j : Nat) (u v : Value) (hu : cs[j]? = some u) {cs' : Array Value} (hc : cs.setIfInBounds j v = cs') :
    (w.cell? ⟨g, j, none⟩ = some u ∧ w.frozen? ⟨g, j, none⟩ = false) ∧ (w.setCell ⟨g, j, none⟩ v).heap[g]? = some (.cells cs' t (0, 0)) ∧ w.grownBy (w.setCell ⟨g, j, none⟩ v) (some g) := by
  subst hc
  exact cell_set h j u v hu
set_option maxRecDepth 20000 in
set_option maxHeartbeats 4000000 in
theorem parts_203 (X : Option Addr) (n c m : Nat) (l : List UInt8) (w : World) (h : Bts w X n c l) (hn : n = 4 + 4 * m) (hm : m ≤ 1000) :
    Calls Try.prog 81 #[.slice X n c, .int .i64 203] w fun e w' => ∃ A cA, e = .returned (.agg #[.int .i64 203, .int .u32 0, .int .u64 0, .int .u32 0, .int .u32 0, .int .u32 0, .slice none 0 0, .slice A m cA, .int .u32 0, .slice none 0 0]) ∧ w'.ownsRow w.heap.size 24 1 (.slice A m cA) m (u32s (csG l 4 m)) ∧ Below w.heap.size w w' := by
  have HB := Lib.hid h
  have HP0 := Lib.hid (prt_start w #[.int .i64 203, .int .u32 0, .int .u64 0, .int .u32 0, .int .u32 0, .int .u32 0, .slice none 0 0, .slice none 0 0, .int .u32 0, .slice none 0 0] 24 1)
  have m1 := h.nc
  have m2 := h.cm
  unfold maxLen at m2
  have HN := Lib.hid hn
  clear h hn
  go_enter Try.func81, Try.ntmps81
  go_wp2
  generalize (w.alloc (.cells #[.int .i64 0, .int .u32 0, .int .u64 0, .int .u32 0, .int .u32 0, .int .u32 0, .slice none 0 0, .slice none 0 0, .int .u32 0, .slice none 0 0] 64)).alloc (.cells #[.int .i64 203, .int .u32 0, .int .u64 0, .int .u32 0, .int .u32 0, .int .u32 0, .slice none 0 0, .slice none 0 0, .int .u32 0, .slice none 0 0] 64) = w1 at *
  go_loopw [6] (fun s6 wr => ∃ (k a cA : Nat) (A : Option Addr), s6 = .int .i64 a ∧ a = 4 + 4 * k ∧ k ≤ m ∧ Hid (PrtS w wr #[.int .i64 203, .int .u32 0, .int .u64 0, .int .u32 0, .int .u32 0, .int .u32 0, .slice none 0 0, .slice A k cA, .int .u32 0, .slice none 0 0] 24 1 A k cA (u32s (csG l 4 k)))) (fun s6 _ => 4 + 4 * m - (intOf s6).toNat)
  case atStart => exact ⟨0, 4, 0, none, rfl, rfl, Nat.zero_le _, HP0⟩
  case round =>
    obtain ⟨k, a, cA, A, rfl, ha, hkm, HPk⟩ := hrel
    obtain ⟨x0, x1, x2, x3, x4, x5, x6, x7, x8, x9⟩ := ten_cells HPk.out.it
    by_cases hlt : k < m
    · have han : a < n := by have := HN.out; omega
      have ha4 : a ≤ 5000 := by omega
      obtain ⟨z, hz⟩ : ∃ z, getN l a 4 = z := ⟨_, rfl⟩
      have hz4 : z < 4294967296 := by rw [← hz]; exact getN_lt4 l a
      have HST : Hid (csG l 4 (k + 1) = csG l 4 k ++ [z]) := by show _ = _; rw [csG_succ, ← ha, hz]
      have HZ := Lib.hid hz
      have HAK := Lib.hid ha
      clear hz ha
      go_wp2_with (first
        | (go_at_call 98; ((with_reducible refine (number_v X n c l a a rfl _ (HB.out.below HPk.out.b) (by omega) z HZ.out).mono ?_); rintro e w2 ⟨rfl, rfl⟩))
        | (at_builtin; (refine wpList_app slU32 rfl _ _ rfl w.heap.size A k cA (u32s (csG l 4 k)) rfl (HPk.out.own.alloc _) (some ⟨wr.heap.size, 0, none⟩) 1 1 (u32s [z]) rfl rfl (Rd.own (World.ownsRow_lit (base := 0) (e := 24) (size := 1) wr #[.int .u32 z] 1 (Nat.zero_le _) (by unfold maxLen; omega) rfl)) (by intro u hu; simp [u32s] at hu; subst hu; rfl) (by omega) (HPk.out.alloc _).b.size ?_; intro A4 c4 w4 ho4 hg4 hA4; rw [show u32s (csG l 4 k) ++ u32s [z] = u32s (csG l 4 (k + 1)) by rw [HST.out]; simp [u32s]] at ho4; have HP4 := Lib.hid ((HPk.out.alloc _).app (by decide) hg4 ho4); obtain ⟨⟨u1, u2⟩, hq7, hg7⟩ := ten_set HP4.out.it 7 (.slice A k cA) (.slice A4 (k + 1) c4) rfl rfl; have HP5 := Lib.hid (HP4.out.item (by decide) hq7 hg7); clear ho4 hg4 hA4 hq7 hg7)))
      exact ⟨⟨k + 1, a + 4, c4, A4, rfl, by rw [HAK.out]; omega, by omega, HP5⟩, by simp [intOf]; have := HN.out; omega⟩
    · have hk : k = m := by omega
      subst hk
      have hI : ¬ a < n := by have := HN.out; omega
      clear ha hlt
      go_wp2_with (refine wpList_store_blk rfl 64 (.tmp 4) (.tmp 46) rfl w.heap.size _ #[.int .i64 203, .int .u32 0, .int .u64 0, .int .u32 0, .int .u32 0, .int .u32 0, .slice none 0 0, .slice A k cA, .int .u32 0, .slice none 0 0] _ rfl rfl HPk.out.res rfl (by kernel_rfl) (by simp [Value.oneCell']) ?_; intro w5 hi5 hg5)
      obtain ⟨r0, r1, r2, r3, r4, r5, r6, r7, r8, r9⟩ := ten_cells hi5
      exact bodyPost_ret (v := .agg #[.int .i64 203, .int .u32 0, .int .u64 0, .int .u32 0, .int .u32 0, .int .u32 0, .slice none 0 0, .slice A k cA, .int .u32 0, .slice none 0 0]) (by simp [results, Try.results81, go_sem, r0, r1, r2, r3, r4, r5, r6, r7, r8, r9]) rfl ⟨A, cA, rfl, HPk.out.own.kept hg5 (own_off HPk.out.own HPk.out.res (by decide)), (HPk.out.b.grown hg5 HPk.out.b.size (fun q hq => by injection hq with hq; omega))⟩
theorem getN_split (l : List UInt8) (a : Nat) (h : a + 4 ≤ l.length) : getN l (a : Nat) 4 = getN l (a : Nat) 2 * 65536 + getN l (a + 2 : Nat) 2 := by
  unfold getN
  rw [if_pos (by rw [withinB_iff]; omega), if_pos (by rw [withinB_iff]; omega), if_pos (by rw [withinB_iff]; omega)]
  show beN (part l a 4) = beN (part l a 2) * 65536 + beN (part l (a + 2) 2)
  rw [← part_join l a 2 2, beN_append, part_length (by omega)]
set_option maxRecDepth 20000 in
set_option maxHeartbeats 4000000 in
theorem parts_205 (X : Option Addr) (n c m : Nat) (l : List UInt8) (w : World) (h : Bts w X n c l) (hn : n = 12 + 4 * m) (hm : m ≤ 1000) :
    Calls Try.prog 81 #[.slice X n c, .int .i64 205] w fun e w' => ∃ A cA, e = .returned (.agg #[.int .i64 205, .int .u32 (getN l 4 4), .int .u64 0, .int .u32 0, .int .u32 0, .int .u32 0, .slice none 0 0, .slice none 0 0, .int .u32 (getN l 8 4), .slice A m cA]) ∧ w'.ownsRow w.heap.size 111 2 (.slice A m cA) m (rowP (prG l 12 m)) ∧ Below w.heap.size w w' := by
  have HB := Lib.hid h
  obtain ⟨y1, h1⟩ : ∃ x, getN l 4 4 = x := ⟨_, rfl⟩
  obtain ⟨y2, h2⟩ : ∃ x, getN l 8 4 = x := ⟨_, rfl⟩
  have b1 : y1 < 4294967296 := by rw [← h1]; exact getN_ltS l 4 4
  have b2 : y2 < 4294967296 := by rw [← h2]; exact getN_ltS l 8 4
  rw [h1, h2]
  have H1 := Lib.hid h1
  have H2 := Lib.hid h2
  have HP0 := Lib.hid (prt_start w #[.int .i64 205, .int .u32 y1, .int .u64 0, .int .u32 0, .int .u32 0, .int .u32 0, .slice none 0 0, .slice none 0 0, .int .u32 y2, .slice none 0 0] 111 2)
  have m1 := h.nc
  have m2 := h.cm
  unfold maxLen at m2
  have HN := Lib.hid hn
  have HLN := Lib.hid h.len
  have hbb := ((Below.refl w.heap.size w).alloc (Nat.le_refl _) (.cells #[.int .i64 0, .int .u32 0, .int .u64 0, .int .u32 0, .int .u32 0, .int .u32 0, .slice none 0 0, .slice none 0 0, .int .u32 0, .slice none 0 0] 64)).alloc (by simp) (.cells #[.int .i64 205, .int .u32 0, .int .u64 0, .int .u32 0, .int .u32 0, .int .u32 0, .slice none 0 0, .slice none 0 0, .int .u32 0, .slice none 0 0] 64)
  clear h hn h1 h2
  go_enter Try.func81, Try.ntmps81
  go_wp2_with (first
    | (go_at_call 98; ((with_reducible refine (number_v X n c l 4 4 rfl _ (HB.out.below hbb) (by omega) y1 H1.out).mono ?_); rintro e w2 ⟨rfl, rfl⟩))
    | (go_at_call 98; ((with_reducible refine (number_v X n c l 8 8 rfl _ (HB.out.below hbb) (by omega) y2 H2.out).mono ?_); rintro e w2 ⟨rfl, rfl⟩)))
  generalize (w.alloc (.cells #[.int .i64 0, .int .u32 0, .int .u64 0, .int .u32 0, .int .u32 0, .int .u32 0, .slice none 0 0, .slice none 0 0, .int .u32 0, .slice none 0 0] 64)).alloc (.cells #[.int .i64 205, .int .u32 y1, .int .u64 0, .int .u32 0, .int .u32 0, .int .u32 0, .slice none 0 0, .slice none 0 0, .int .u32 y2, .slice none 0 0] 64) = w1 at *
  clear hbb
  go_loopw [6] (fun s6 wr => ∃ (k a cA : Nat) (A : Option Addr), s6 = .int .i64 a ∧ a = 12 + 4 * k ∧ k ≤ m ∧ Hid (PrtS w wr #[.int .i64 205, .int .u32 y1, .int .u64 0, .int .u32 0, .int .u32 0, .int .u32 0, .slice none 0 0, .slice none 0 0, .int .u32 y2, .slice A k cA] 111 2 A k cA (rowP (prG l 12 k)))) (fun s6 _ => 12 + 4 * m - (intOf s6).toNat)
  case atStart => exact ⟨0, 12, 0, none, rfl, rfl, Nat.zero_le _, HP0⟩
  case round =>
    obtain ⟨k, a, cA, A, rfl, ha, hkm, HPk⟩ := hrel
    obtain ⟨x0, x1, x2, x3, x4, x5, x6, x7, x8, x9⟩ := ten_cells HPk.out.it
    by_cases hlt : k < m
    · have han : a < n := by have := HN.out; omega
      have ha4 : a ≤ 5000 := by omega
      obtain ⟨z, hz⟩ : ∃ z, getN l a 4 = z := ⟨_, rfl⟩
      have hz4 : z < 4294967296 := by rw [← hz]; exact getN_lt4 l a
      have hsp := getN_split l a (by have := HN.out; have := HLN.out; omega)
      have hp1 := getN_ltS l a 2
      have hp2 := getN_ltS l (a + 2) 2
      obtain ⟨p1, hq1⟩ : ∃ z, getN l a 2 = z := ⟨_, rfl⟩
      obtain ⟨p2, hq2⟩ : ∃ z, getN l (a + 2 : Nat) 2 = z := ⟨_, rfl⟩
      have HST : Hid (prG l 12 (k + 1) = prG l 12 k ++ [(p1, p2)]) := by show _ = _; rw [prG_succ, ← ha, hq1, hq2]
      rw [hz, hq1, hq2] at hsp
      replace hp1 : p1 < 65536 := by rw [← hq1]; exact hp1
      replace hp2 : p2 < 65536 := by rw [← hq2]; exact hp2
      have e1 : (z : Int) / 65536 = (p1 : Int) := by omega
      have e2 : IntKind.u16.wrap (z : Int) = (p2 : Int) := by simp [IntKind.wrap, IntKind.bits, IntKind.signed]; omega
      have HZ := Lib.hid hz
      have HAK := Lib.hid ha
      clear hz ha hsp hq1 hq2
      go_wp2_with (first
        | (go_at_call 98; ((with_reducible refine (number_v X n c l a a rfl _ (HB.out.below HPk.out.b) (by omega) z HZ.out).mono ?_); rintro e w2 ⟨rfl, rfl⟩))
        | (at_builtin; go_loud (refine wpList_app slPr rfl _ _ rfl w.heap.size A k cA (rowP (prG l 12 k)) rfl (HPk.out.own.alloc _) (some ⟨wr.heap.size, 0, none⟩) 1 1 (rowP [(p1, p2)]) rfl rfl (lit_pr wr p1 p2) (pr_one p1 p2) (by omega) (HPk.out.alloc _).b.size ?_; intro A4 c4 w4 ho4 hg4 hA4; rw [show rowP (prG l 12 k) ++ rowP [(p1, p2)] = rowP (prG l 12 (k + 1)) by rw [HST.out]; simp [rowP]] at ho4; have HP4 := Lib.hid ((HPk.out.alloc _).app (by decide) hg4 ho4); obtain ⟨⟨u1, u2⟩, hq7, hg7⟩ := ten_set HP4.out.it 9 (.slice A k cA) (.slice A4 (k + 1) c4) rfl rfl; have HP5 := Lib.hid (HP4.out.item (by decide) hq7 hg7); clear ho4 hg4 hA4 hq7 hg7)))
      exact ⟨⟨k + 1, a + 4, c4, A4, rfl, by rw [HAK.out]; omega, by omega, HP5⟩, by simp [intOf]; have := HN.out; omega⟩
    · have hk : k = m := by omega
      subst hk
      have hI : ¬ a < n := by have := HN.out; omega
      clear ha hlt
      go_wp2_with (refine wpList_store_blk rfl 64 (.tmp 4) (.tmp 46) rfl w.heap.size _ #[.int .i64 205, .int .u32 y1, .int .u64 0, .int .u32 0, .int .u32 0, .int .u32 0, .slice none 0 0, .slice none 0 0, .int .u32 y2, .slice A k cA] _ rfl rfl HPk.out.res rfl (by kernel_rfl) (by simp [Value.oneCell']) ?_; intro w5 hi5 hg5)
      obtain ⟨r0, r1, r2, r3, r4, r5, r6, r7, r8, r9⟩ := ten_cells hi5
      exact bodyPost_ret (v := .agg #[.int .i64 205, .int .u32 y1, .int .u64 0, .int .u32 0, .int .u32 0, .int .u32 0, .slice none 0 0, .slice none 0 0, .int .u32 y2, .slice A k cA]) (by simp [results, Try.results81, go_sem, r0, r1, r2, r3, r4, r5, r6, r7, r8, r9]) rfl ⟨A, cA, rfl, HPk.out.own.kept hg5 (own_off HPk.out.own HPk.out.res (by decide)), (HPk.out.b.grown hg5 HPk.out.b.size (fun q hq => by injection hq with hq; omega))⟩
set_option maxRecDepth 20000 in
set_option maxHeartbeats 4000000 in
theorem parts_206 (X : Option Addr) (c : Nat) (l : List UInt8) (w : World) (h : Bts w X 12 c l) :
    Calls Try.prog 81 #[.slice X 12 c, .int .i64 206] w fun e w' => e = .returned (.agg #[.int .i64 206, .int .u32 (getN l 4 4), .int .u64 0, .int .u32 0, .int .u32 0, .int .u32 0, .slice none 0 0, .slice none 0 0, .int .u32 (getN l 8 4), .slice none 0 0]) ∧ Below w.heap.size w w' := by
  have HB := Lib.hid h
  obtain ⟨y1, h1⟩ : ∃ x, getN l 4 4 = x := ⟨_, rfl⟩
  obtain ⟨y2, h2⟩ : ∃ x, getN l 8 4 = x := ⟨_, rfl⟩
  have b1 : y1 < 4294967296 := by rw [← h1]; exact getN_ltS l 4 4
  have b2 : y2 < 4294967296 := by rw [← h2]; exact getN_ltS l 8 4
  rw [h1, h2]
  have H1 := Lib.hid h1
  have H2 := Lib.hid h2
  have HP0 := Lib.hid (prt_start w #[.int .i64 206, .int .u32 y1, .int .u64 0, .int .u32 0, .int .u32 0, .int .u32 0, .slice none 0 0, .slice none 0 0, .int .u32 y2, .slice none 0 0] 111 2)
  have hbb := ((Below.refl w.heap.size w).alloc (Nat.le_refl _) (.cells #[.int .i64 0, .int .u32 0, .int .u64 0, .int .u32 0, .int .u32 0, .int .u32 0, .slice none 0 0, .slice none 0 0, .int .u32 0, .slice none 0 0] 64)).alloc (by simp) (.cells #[.int .i64 206, .int .u32 0, .int .u64 0, .int .u32 0, .int .u32 0, .int .u32 0, .slice none 0 0, .slice none 0 0, .int .u32 0, .slice none 0 0] 64)
  clear h h1 h2
  go_enter Try.func81, Try.ntmps81
  go_wp2_with (first
    | (go_at_call 98; ((with_reducible refine (number_v X 12 c l 4 4 rfl _ (HB.out.below hbb) (by omega) y1 H1.out).mono ?_); rintro e w2 ⟨rfl, rfl⟩))
    | (go_at_call 98; ((with_reducible refine (number_v X 12 c l 8 8 rfl _ (HB.out.below hbb) (by omega) y2 H2.out).mono ?_); rintro e w2 ⟨rfl, rfl⟩)))
  generalize (w.alloc (.cells #[.int .i64 0, .int .u32 0, .int .u64 0, .int .u32 0, .int .u32 0, .int .u32 0, .slice none 0 0, .slice none 0 0, .int .u32 0, .slice none 0 0] 64)).alloc (.cells #[.int .i64 206, .int .u32 y1, .int .u64 0, .int .u32 0, .int .u32 0, .int .u32 0, .slice none 0 0, .slice none 0 0, .int .u32 y2, .slice none 0 0] 64) = w1 at *
  clear hbb
  go_loopw [6] (fun s6 wr => s6 = .int .i64 12 ∧ Hid (PrtS w wr #[.int .i64 206, .int .u32 y1, .int .u64 0, .int .u32 0, .int .u32 0, .int .u32 0, .slice none 0 0, .slice none 0 0, .int .u32 y2, .slice none 0 0] 111 2 none 0 0 [])) (fun _ _ => 0)
  case atStart => exact ⟨rfl, HP0⟩
  case round =>
    obtain ⟨rfl, HPk⟩ := hrel
    obtain ⟨x0, x1, x2, x3, x4, x5, x6, x7, x8, x9⟩ := ten_cells HPk.out.it
    go_wp2_with (refine wpList_store_blk rfl 64 (.tmp 4) (.tmp 46) rfl w.heap.size _ #[.int .i64 206, .int .u32 y1, .int .u64 0, .int .u32 0, .int .u32 0, .int .u32 0, .slice none 0 0, .slice none 0 0, .int .u32 y2, .slice none 0 0] _ rfl rfl HPk.out.res rfl (by kernel_rfl) (by simp [Value.oneCell']) ?_; intro w5 hi5 hg5)
    obtain ⟨r0, r1, r2, r3, r4, r5, r6, r7, r8, r9⟩ := ten_cells hi5
    exact bodyPost_ret (v := .agg #[.int .i64 206, .int .u32 y1, .int .u64 0, .int .u32 0, .int .u32 0, .int .u32 0, .slice none 0 0, .slice none 0 0, .int .u32 y2, .slice none 0 0]) (by simp [results, Try.results81, go_sem, r0, r1, r2, r3, r4, r5, r6, r7, r8, r9]) rfl ⟨rfl, (HPk.out.b.grown hg5 HPk.out.b.size (fun q hq => by injection hq with hq; omega))⟩
end Go.Proofs.Ytaomdinddccpeaa
