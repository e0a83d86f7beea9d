/-
What Get of package rtp reads: lemmas of memory.
-/
import Derived.Test.YtnkclbaeamcplaaRtp8
import Derived.Test.YtnkclbaeamcplaaRtp4
import Derived.Deep.QuietTactic
import Derived.BigQuiet
namespace Go.Proofs.Ytnkclbaeamcplaa
set_option linter.unusedVariables false
set_option linter.unusedSimpArgs false
open Go Go.RowKit

/-- What Get keeps between its steps: the result's block, the shape's (g4), the packet's (g6), and the row of sources. -/
structure GP (w0 w : World) (g4 g6 : Nat) (sh it : Array Value) (C : Option Addr) (cn cc : Nat) (cs : List Nat) : Prop where
  res : w.heap[w0.heap.size]? = some (.cells #[.bool false, .int .i64 0, .int .u16 0, .int .u32 0, .int .u32 0, .slice none 0 0, .bool false, .int .u16 0, .slice none 0 0, .slice none 0 0, .int .i64 0] 44 (0, 0))
  sh : w.heap[g4]? = some (.cells sh 81 (0, 0))
  pk : w.heap[g6]? = some (.cells it 44 (0, 0))
  own : w.ownsRow w0.heap.size 22 1 (.slice C cn cc) cn (u32s cs)
  b : Below w0.heap.size w0 w
  l4 : w0.heap.size < g4
  l6 : w0.heap.size < g6
section
variable {w0 w w' : World} {g4 g6 : Nat} {sh it it' : Array Value} {C : Option Addr} {cn cc : Nat} {cs : List Nat}
theorem GP.below (h : GP w0 w g4 g6 sh it C cn cc cs) (hb : Below w.heap.size w w') : GP w0 w' g4 g6 sh it C cn cc cs :=
  ⟨blk_below h.res hb, blk_below h.sh hb, blk_below h.pk hb, h.own.kept (own_below hb) (own_none _), h.b.trans (hb.mono h.b.size), h.l4, h.l6⟩
theorem GP.alloc (h : GP w0 w g4 g6 sh it C cn cc cs) (o : Obj) : GP w0 (w.alloc o) g4 g6 sh it C cn cc cs := h.below ((Below.refl _ _).alloc (Nat.le_refl _) _)
theorem GP.drew (h : GP w0 w g4 g6 sh it C cn cc cs) : GP w0 w.drew g4 g6 sh it C cn cc cs := h.below ((Below.refl _ _).drew)
theorem GP.item (h : GP w0 w g4 g6 sh it C cn cc cs) (hi : w'.heap[g6]? = some (.cells it' 44 (0, 0))) (hg : w.grownBy w' (some g6)) : GP w0 w' g4 g6 sh it' C cn cc cs := by
  have h46 : g4 ≠ g6 := ne_kinds h.sh h.pk (by decide)
  have l6 := h.l6
  refine ⟨(hg.block _ (blk_in h.res) (fun e => by injection e with e; omega)).trans h.res, (hg.block _ (blk_in h.sh) (fun e => by injection e with e; exact h46 e)).trans h.sh, hi, h.own.kept hg (own_off h.own h.pk (by decide)), h.b.grown hg h.b.size (fun q hq => by injection hq with hq; omega), h.l4, h.l6⟩
end
/-- Ahead of the packet's own block. -/
structure Pre4 (w0 w : World) (g4 : Nat) (sh : Array Value) : Prop where
  res : w.heap[w0.heap.size]? = some (.cells #[.bool false, .int .i64 0, .int .u16 0, .int .u32 0, .int .u32 0, .slice none 0 0, .bool false, .int .u16 0, .slice none 0 0, .slice none 0 0, .int .i64 0] 44 (0, 0))
  sh : w.heap[g4]? = some (.cells sh 81 (0, 0))
  b : Below w0.heap.size w0 w
  l4 : w0.heap.size < g4
theorem Pre4.below {w0 w w' : World} {g4 : Nat} {sh : Array Value} (h : Pre4 w0 w g4 sh) (hb : Below w.heap.size w w') : Pre4 w0 w' g4 sh := ⟨blk_below h.res hb, blk_below h.sh hb, h.b.trans (hb.mono h.b.size), h.l4⟩
theorem Pre4.get {w0 w w' : World} {g4 : Nat} {sh it it0 : Array Value} (h : Pre4 w0 w g4 sh) (hi : w'.heap[w.heap.size]? = some (.cells it 44 (0, 0))) (hg : (w.alloc (.cells it0 44)).grownBy w' (some w.heap.size)) :
    GP w0 w' g4 w.heap.size sh it none 0 0 [] := by
  have hl : w0.heap.size < w.heap.size := Nat.lt_trans h.l4 (blk_in h.sh)
  have h1 : GP w0 (w.alloc (.cells it0 44)) g4 w.heap.size sh it0 none 0 0 [] :=
    ⟨blk_below h.res ((Below.refl _ _).alloc (Nat.le_refl _) _), blk_below h.sh ((Below.refl _ _).alloc (Nat.le_refl _) _), heap_alloc_new w _, World.ownsRow_nil _ _ _ _, h.b.alloc h.b.size _, h.l4, hl⟩
  exact h1.item hi hg
theorem number_v (A : Option Addr) (n c : Nat) (l : List UInt8) (Z S : Int) (a s : Nat) (hZ : Z = a) (hS : S = s) (w : World) (h : Bts w A n c l) (h1 : a ≤ 9223372036854775807) (h2 : s ≤ 9223372036854775807) (x : Nat) (hx : getN l a s = x) :
    Calls Try.prog 52 #[.slice A n c, .int .i64 Z, .int .i64 S] w fun e w' => e = .returned (.int .u64 x) ∧ w' = w := by
  subst hx; exact number_any A n c l Z S a s hZ hS w h h1 h2
theorem slU32R : SliceT Try.prog 25 22 (.int .u32 0) 1 4 := sliceT_of Try.underlying25 (by kernel_rfl) rfl (by omega) (by omega)
theorem u32s_snoc (l : List Nat) (z : Nat) : u32s (l ++ [z]) = u32s l ++ [.int .u32 z] := by simp [u32s]
theorem lit_u32 (w : World) (z : Nat) : Rd (w.alloc (.cells #[.int .u32 z] 22)) (some ⟨w.heap.size, 0, none⟩) [.int .u32 z] := by
  intro j u hu
  refine ⟨_, rfl, ?_⟩
  rw [add_lit, cell_of_row _ _ _ _ _ _ (heap_alloc_new w _)]
  rw [← hu]
  show (([Value.int .u32 z]).toArray)[j]? = _
  exact List.getElem?_toArray
theorem GP.app {w0 w w' : World} {g4 g6 : Nat} {sh it : Array Value} {C C1 : Option Addr} {k cC c1 : Nat} {cs : List Nat} {z : Nat} (h : GP w0 w g4 g6 sh it C k cC cs) {lit : Obj} (hg : (w.alloc lit).grownBy w' (C.map Addr.block)) (ho : w'.ownsRow w0.heap.size 22 1 (.slice C1 (k + 1) c1) (k + 1) (u32s cs ++ [.int .u32 z])) :
    GP w0 w' g4 g6 sh it C1 (k + 1) c1 (cs ++ [z]) := by
  have h' := h.alloc lit
  have hr := own_off h'.own h'.res (by decide)
  have hs := own_off h'.own h'.sh (by decide)
  have hp := own_off h'.own h'.pk (by decide)
  rw [ownBlock_slice] at hr hs hp
  have ne : ∀ {q : Nat}, (C.map Addr.block = none ∨ C.map Addr.block ≠ some q) → some q ≠ C.map Addr.block := fun h e => by
    rcases h with h | h
    · rw [h] at e; cases e
    · exact h e.symm
  exact ⟨(hg.block _ (blk_in h'.res) (ne hr)).trans h'.res, (hg.block _ (blk_in h'.sh) (ne hs)).trans h'.sh, (hg.block _ (blk_in h'.pk) (ne hp)).trans h'.pk, by rw [u32s_snoc]; exact ho, h'.b.grown hg h'.b.size (fun q hq => own_from h'.own q hq), h'.l4, h'.l6⟩
theorem three_cells {w : World} {g : Nat} {t : TypeId} {fr : Nat × Nat} {a0 a1 a2 : Value} (h : w.heap[g]? = some (.cells #[a0, a1, a2] t fr)) : w.cell? ⟨g, 0, none⟩ = some a0 ∧ w.cell? ⟨g, 1, none⟩ = some a1 ∧ w.cell? ⟨g, 2, none⟩ = some a2 := by
  refine ⟨?_, ?_, ?_⟩ <;> (rw [cell_of_row _ _ _ _ _ _ h]; rfl)
theorem own_mono {w : World} {base base' : Nat} {e : TypeId} {size : Nat} {v : Value} {n : Nat} {xs : List Value} (h : w.ownsRow base e size v n xs) (hb : base' ≤ base) : w.ownsRow base' e size v n xs :=
  ⟨h.1, h.2.imp id fun ⟨g, c, cur, a, b, r⟩ => ⟨g, c, cur, a, Nat.le_trans hb b, r⟩⟩
/-- A part of bytes, as Go's slice of them has it. -/
theorem part_rd {w : World} {ad : Addr} {n c : Nat} {l : List UInt8} (h : Bts w (some ad) n c l) (lo k : Nat) (hlo : lo + k ≤ n) : Rd w (some (ad.add lo)) (bys ((l.drop lo).take k)) := by
  have h1 := (h.rd.drop lo).take k
  rw [bys_drop, bys_take] at h1
  exact h1
theorem part_nil {w : World} {ad : Addr} {n c : Nat} {l : List UInt8} (h : Bts w (some ad) n c l) (lo k : Nat) (hlo : lo + k ≤ n) (hc : c = lo) : Rd w (some ad) (bys ((l.drop lo).take k)) := by
  have : k = 0 := by have := h.nc; omega
  subst this
  rw [List.take_zero]
  exact Rd.nil _ _
theorem part_if {w : World} {ad : Addr} {n c : Nat} {l : List UInt8} (h : Bts w (some ad) n c l) (lo k : Nat) (hlo : lo + k ≤ n) : Rd w (if c = lo then some ad else some (ad.add lo)) (bys ((l.drop lo).take k)) := by
  split
  · exact part_nil h lo k hlo (by assumption)
  · exact part_rd h lo k hlo
theorem if_some {c lo : Nat} {ad : Addr} {n d : Nat} (h : (if c = lo then some ad else some (ad.add lo)) = none) : n = 0 ∧ d = 0 := by split at h <;> cases h
theorem cell_set {w : World} {g : Nat} {cs : Array Value} {t : TypeId} (h : w.heap[g]? = some (.cells cs t (0, 0))) (j : Nat) (u v : Value) (hu : cs[j]? = some u) :
    (w.cell? ⟨g, j, none⟩ = some u ∧ w.frozen? ⟨g, j, none⟩ = false) ∧ (w.setCell ⟨g, j, none⟩ v).heap[g]? = some (.cells (cs.setIfInBounds j v) t (0, 0)) ∧ w.grownBy (w.setCell ⟨g, j, none⟩ v) (some g) :=
  ⟨⟨by rw [cell_of_row _ _ _ _ _ _ h]; exact hu, frozen_of_row _ _ _ _ _ h⟩, heap_setCell_same w g j _ t v h, set_one w g j v⟩
theorem eleven_234 {w : World} {g : Nat} {t : TypeId} {a0 a1 a2 a3 a4 a5 a6 a7 a8 a9 a10 : Value} (h : w.heap[g]? = some (.cells #[a0, a1, a2, a3, a4, a5, a6, a7, a8, a9, a10] t (0, 0))) (v2 v3 v4 : Value) :
    ((w).cell? ⟨g, 2, none⟩ = some a2 ∧ (w).frozen? ⟨g, 2, none⟩ = false) ∧ ((((w).setCell ⟨g, 2, none⟩ v2)).cell? ⟨g, 3, none⟩ = some a3 ∧ (((w).setCell ⟨g, 2, none⟩ v2)).frozen? ⟨g, 3, none⟩ = false) ∧ ((((((w).setCell ⟨g, 2, none⟩ v2)).setCell ⟨g, 3, none⟩ v3)).cell? ⟨g, 4, none⟩ = some a4 ∧ (((((w).setCell ⟨g, 2, none⟩ v2)).setCell ⟨g, 3, none⟩ v3)).frozen? ⟨g, 4, none⟩ = false) ∧ (((((((w).setCell ⟨g, 2, none⟩ v2)).setCell ⟨g, 3, none⟩ v3)).setCell ⟨g, 4, none⟩ v4)).heap[g]? = some (.cells #[a0, a1, v2, v3, v4, a5, a6, a7, a8, a9, a10] t (0, 0)) ∧ w.grownBy ((((((w).setCell ⟨g, 2, none⟩ v2)).setCell ⟨g, 3, none⟩ v3)).setCell ⟨g, 4, none⟩ v4) (some g) := by
  obtain ⟨c2, h2, g2⟩ := cell_set h 2 a2 v2 rfl
  obtain ⟨c3, h3, g3⟩ := cell_set h2 3 a3 v3 rfl
  obtain ⟨c4, h4, g4⟩ := cell_set h3 4 a4 v4 rfl
  exact ⟨c2, c3, c4, h4, (grown_tr (grown_tr g2 g3) g4)⟩
theorem eleven_5 {w : World} {g : Nat} {t : TypeId} {a0 a1 a2 a3 a4 a5 a6 a7 a8 a9 a10 : Value} (h : w.heap[g]? = some (.cells #[a0, a1, a2, a3, a4, a5, a6, a7, a8, a9, a10] t (0, 0))) (v5 : Value) :
    ((w).cell? ⟨g, 5, none⟩ = some a5 ∧ (w).frozen? ⟨g, 5, none⟩ = false) ∧ (((w).setCell ⟨g, 5, none⟩ v5)).heap[g]? = some (.cells #[a0, a1, a2, a3, a4, v5, a6, a7, a8, a9, a10] t (0, 0)) ∧ w.grownBy ((w).setCell ⟨g, 5, none⟩ v5) (some g) := by
  obtain ⟨c5, h5, g5⟩ := cell_set h 5 a5 v5 rfl
  exact ⟨c5, h5, g5⟩
theorem eleven_678 {w : World} {g : Nat} {t : TypeId} {a0 a1 a2 a3 a4 a5 a6 a7 a8 a9 a10 : Value} (h : w.heap[g]? = some (.cells #[a0, a1, a2, a3, a4, a5, a6, a7, a8, a9, a10] t (0, 0))) (v6 v7 v8 : Value) :
    ((w).cell? ⟨g, 6, none⟩ = some a6 ∧ (w).frozen? ⟨g, 6, none⟩ = false) ∧ ((((w).setCell ⟨g, 6, none⟩ v6)).cell? ⟨g, 7, none⟩ = some a7 ∧ (((w).setCell ⟨g, 6, none⟩ v6)).frozen? ⟨g, 7, none⟩ = false) ∧ ((((((w).setCell ⟨g, 6, none⟩ v6)).setCell ⟨g, 7, none⟩ v7)).cell? ⟨g, 8, none⟩ = some a8 ∧ (((((w).setCell ⟨g, 6, none⟩ v6)).setCell ⟨g, 7, none⟩ v7)).frozen? ⟨g, 8, none⟩ = false) ∧ (((((((w).setCell ⟨g, 6, none⟩ v6)).setCell ⟨g, 7, none⟩ v7)).setCell ⟨g, 8, none⟩ v8)).heap[g]? = some (.cells #[a0, a1, a2, a3, a4, a5, v6, v7, v8, a9, a10] t (0, 0)) ∧ w.grownBy ((((((w).setCell ⟨g, 6, none⟩ v6)).setCell ⟨g, 7, none⟩ v7)).setCell ⟨g, 8, none⟩ v8) (some g) := by
  obtain ⟨c6, h6, g6⟩ := cell_set h 6 a6 v6 rfl
  obtain ⟨c7, h7, g7⟩ := cell_set h6 7 a7 v7 rfl
  obtain ⟨c8, h8, g8⟩ := cell_set h7 8 a8 v8 rfl
  exact ⟨c6, c7, c8, h8, (grown_tr (grown_tr g6 g7) g8)⟩
theorem eleven_9 {w : World} {g : Nat} {t : TypeId} {a0 a1 a2 a3 a4 a5 a6 a7 a8 a9 a10 : Value} (h : w.heap[g]? = some (.cells #[a0, a1, a2, a3, a4, a5, a6, a7, a8, a9, a10] t (0, 0))) (v9 : Value) :
    ((w).cell? ⟨g, 9, none⟩ = some a9 ∧ (w).frozen? ⟨g, 9, none⟩ = false) ∧ (((w).setCell ⟨g, 9, none⟩ v9)).heap[g]? = some (.cells #[a0, a1, a2, a3, a4, a5, a6, a7, a8, v9, a10] t (0, 0)) ∧ w.grownBy ((w).setCell ⟨g, 9, none⟩ v9) (some g) := by
  obtain ⟨c9, h9, g9⟩ := cell_set h 9 a9 v9 rfl
  exact ⟨c9, h9, g9⟩
set_option maxRecDepth 20000 in
set_option maxHeartbeats 4000000 in
theorem pget_no (A : Option Addr) (n c : Nat) (l : List UInt8) (w : World) (h : Bts w A n c l) (he : lookE l ≠ 0) :
    Calls Try.prog 30 #[.slice A n c] w fun e w' => e = .returned (.tuple #[.agg #[.bool false, .int .i64 0, .int .u16 0, .int .u32 0, .int .u32 0, .slice none 0 0, .bool false, .int .u16 0, .slice none 0 0, .slice none 0 0, .int .i64 0], .int .i64 (lookE l : Nat)]) ∧ Below w.heap.size w w' := by
  have HB := Lib.hid h
  have hne : ((((lookE l : Nat) : Int)) != 0) = true := by simp; omega
  clear h he
  go_enter Try.func30, Try.ntmps30
  go_wp2_with (first
    | (go_at_call 51; (with_reducible refine (look_any A n c l _ (HB.out.below ((Below.refl _ _).alloc (Nat.le_refl _) _))).mono ?_); rintro e w1 ⟨rfl, hb1⟩; have hb2 := ((Below.refl w.heap.size w).alloc (Nat.le_refl _) _).trans (hb1.mono (by simp)); have hit := blk_below (blk_alloc _ _) hb1; have hit2 := fun o => blk_below hit ((Below.refl w1.heap.size w1).alloc (Nat.le_refl _) o))
    | (refine wpList_store_blk rfl 44 (.tmp 2) (.tmp 15) rfl w.heap.size _ #[.bool false, .int .i64 0, .int .u16 0, .int .u32 0, .int .u32 0, .slice none 0 0, .bool false, .int .u16 0, .slice none 0 0, .slice none 0 0, .int .i64 0] _ rfl rfl (hit2 _) rfl (by kernel_rfl) (by simp [Value.oneCell']) ?_; intro w5 hi5 hg5; obtain ⟨r0, r1, r2, r3, r4, r5, r6, r7, r8, r9, r10⟩ := eleven_cells hi5))
  exact bodyPost_ret (v := .tuple #[.agg #[.bool false, .int .i64 0, .int .u16 0, .int .u32 0, .int .u32 0, .slice none 0 0, .bool false, .int .u16 0, .slice none 0 0, .slice none 0 0, .int .i64 0], .int .i64 (lookE l : Nat)]) (by simp [results, Try.results30, go_sem, r0, r1, r2, r3, r4, r5, r6, r7, r8, r9, r10]) rfl
    ⟨rfl, (hb2.alloc hb2.size _).grown hg5 (hb2.alloc hb2.size _).size (fun q hq => by injection hq with hq; omega)⟩
end Go.Proofs.Ytnkclbaeamcplaa
