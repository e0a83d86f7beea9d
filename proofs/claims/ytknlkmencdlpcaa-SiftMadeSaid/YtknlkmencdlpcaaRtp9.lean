/-
What number of package rtp tells.
What Get of package rtp reads: lemmas of memory.
-/
import Derived.Test.YtknlkmencdlpcaaRtpG
import Derived.Test.YtknlkmencdlpcaaRtp4
import Derived.Test.YtknlkmencdlpcaaRtp7
import Derived.Deep.QuietTactic
import Derived.BigQuiet
import Derived.Test.YtknlkmencdlpcaaCells
namespace Go.Proofs.Ytknlkmencdlpcaa
set_option linter.unusedVariables false
set_option linter.unusedSimpArgs false
open Go Go.RowKit

theorem number_any (A : Option Addr) (n c : Nat) (l : List UInt8) (Z S : Int) (a s : Nat) (hZ : Z = a) (hS : S = s) (w : World) (h : Bts w A n c l) (h1 : a ≤ 9223372036854775807) (h2 : s ≤ 9223372036854775807) :
    Calls Try.prog 115 #[.slice A n c, .int .i64 Z, .int .i64 S] w fun e w' => e = .returned (.int .u64 (getN l a s : Nat)) ∧ w' = w := by
  subst hZ hS
  have HB := Lib.hid h
  clear h
  go_enter Try.func115, Try.ntmps115
  go_wp2_with (go_at_call 120; (with_reducible refine (get_same A n c l a s s rfl _ HB.out h1 h2).mono ?_); rintro e w1 ⟨rfl, rfl⟩)
  go_ret
  exact ⟨rfl, rfl⟩
end Go.Proofs.Ytknlkmencdlpcaa

namespace Go.Proofs.Ytknlkmencdlpcaa
set_option linter.unusedVariables false
set_option linter.unusedSimpArgs false
open Go Go.RowKit

/-- What Get keeps between its steps: the result's block, the shape's (g4), the packet's (g6), and the row of sources. -/
structure GP (w0 w : World) (g4 g6 : Nat) (sh it : Array Value) (C : Option Addr) (cn cc : Nat) (cs : List Nat) : Prop where
  res : w.heap[w0.heap.size]? = some (.cells #[.bool false, .int .i64 0, .int .u16 0, .int .u32 0, .int .u32 0, .slice none 0 0, .bool false, .int .u16 0, .slice none 0 0, .slice none 0 0, .int .i64 0] 39 (0, 0))
  sh : w.heap[g4]? = some (.cells sh 164 (0, 0))
  pk : w.heap[g6]? = some (.cells it 39 (0, 0))
  own : w.ownsRow w0.heap.size 24 1 (.slice C cn cc) cn (u32s cs)
  b : Below w0.heap.size w0 w
  l4 : w0.heap.size < g4
  l6 : w0.heap.size < g6
section
variable {w0 w w' : World} {g4 g6 : Nat} {sh it it' : Array Value} {C : Option Addr} {cn cc : Nat} {cs : List Nat}
theorem GP.below (h : GP w0 w g4 g6 sh it C cn cc cs) (hb : Below w.heap.size w w') : GP w0 w' g4 g6 sh it C cn cc cs :=
  ⟨blk_below h.res hb, blk_below h.sh hb, blk_below h.pk hb, h.own.kept (own_below hb) (own_none _), h.b.trans (hb.mono h.b.size), h.l4, h.l6⟩
theorem GP.alloc (h : GP w0 w g4 g6 sh it C cn cc cs) (o : Obj) : GP w0 (w.alloc o) g4 g6 sh it C cn cc cs := h.below ((Below.refl _ _).alloc (Nat.le_refl _) _)
theorem GP.drew (h : GP w0 w g4 g6 sh it C cn cc cs) : GP w0 w.drew g4 g6 sh it C cn cc cs := h.below ((Below.refl _ _).drew)
theorem GP.item (h : GP w0 w g4 g6 sh it C cn cc cs) (hi : w'.heap[g6]? = some (.cells it' 39 (0, 0))) (hg : w.grownBy w' (some g6)) : GP w0 w' g4 g6 sh it' C cn cc cs := by
  have h46 : g4 ≠ g6 := ne_kinds h.sh h.pk (by decide)
  have l6 := h.l6
  refine ⟨(hg.block _ (blk_in h.res) (fun e => by injection e with e; omega)).trans h.res, (hg.block _ (blk_in h.sh) (fun e => by injection e with e; exact h46 e)).trans h.sh, hi, h.own.kept hg (own_off h.own h.pk (by decide)), h.b.grown hg h.b.size (fun q hq => by injection hq with hq; omega), h.l4, h.l6⟩
end
/-- Ahead of the packet's own block. -/
structure Pre4 (w0 w : World) (g4 : Nat) (sh : Array Value) : Prop where
  res : w.heap[w0.heap.size]? = some (.cells #[.bool false, .int .i64 0, .int .u16 0, .int .u32 0, .int .u32 0, .slice none 0 0, .bool false, .int .u16 0, .slice none 0 0, .slice none 0 0, .int .i64 0] 39 (0, 0))
  sh : w.heap[g4]? = some (.cells sh 164 (0, 0))
  b : Below w0.heap.size w0 w
  l4 : w0.heap.size < g4
theorem Pre4.below {w0 w w' : World} {g4 : Nat} {sh : Array Value} (h : Pre4 w0 w g4 sh) (hb : Below w.heap.size w w') : Pre4 w0 w' g4 sh := ⟨blk_below h.res hb, blk_below h.sh hb, h.b.trans (hb.mono h.b.size), h.l4⟩
theorem Pre4.get {w0 w w' : World} {g4 : Nat} {sh it it0 : Array Value} (h : Pre4 w0 w g4 sh) (hi : w'.heap[w.heap.size]? = some (.cells it 39 (0, 0))) (hg : (w.alloc (.cells it0 39)).grownBy w' (some w.heap.size)) :
    GP w0 w' g4 w.heap.size sh it none 0 0 [] := by
  have hl : w0.heap.size < w.heap.size := Nat.lt_trans h.l4 (blk_in h.sh)
  have h1 : GP w0 (w.alloc (.cells it0 39)) g4 w.heap.size sh it0 none 0 0 [] :=
    ⟨blk_below h.res ((Below.refl _ _).alloc (Nat.le_refl _) _), blk_below h.sh ((Below.refl _ _).alloc (Nat.le_refl _) _), heap_alloc_new w _, World.ownsRow_nil _ _ _ _, h.b.alloc h.b.size _, h.l4, hl⟩
  exact h1.item hi hg
theorem number_v (A : Option Addr) (n c : Nat) (l : List UInt8) (Z S : Int) (a s : Nat) (hZ : Z = a) (hS : S = s) (w : World) (h : Bts w A n c l) (h1 : a ≤ 9223372036854775807) (h2 : s ≤ 9223372036854775807) (x : Nat) (hx : getN l a s = x) :
    Calls Try.prog 115 #[.slice A n c, .int .i64 Z, .int .i64 S] w fun e w' => e = .returned (.int .u64 x) ∧ w' = w := by
  subst hx; exact number_any A n c l Z S a s hZ hS w h h1 h2
theorem GP.app {w0 w w' : World} {g4 g6 : Nat} {sh it : Array Value} {C C1 : Option Addr} {k cC c1 : Nat} {cs : List Nat} {z : Nat} (h : GP w0 w g4 g6 sh it C k cC cs) {lit : Obj} (hg : (w.alloc lit).grownBy w' (C.map Addr.block)) (ho : w'.ownsRow w0.heap.size 24 1 (.slice C1 (k + 1) c1) (k + 1) (u32s cs ++ [.int .u32 z])) :
    GP w0 w' g4 g6 sh it C1 (k + 1) c1 (cs ++ [z]) := by
  have h' := h.alloc lit
  have hr := own_off h'.own h'.res (by decide)
  have hs := own_off h'.own h'.sh (by decide)
  have hp := own_off h'.own h'.pk (by decide)
  rw [ownBlock_slice] at hr hs hp
  have ne : ∀ {q : Nat}, (C.map Addr.block = none ∨ C.map Addr.block ≠ some q) → some q ≠ C.map Addr.block := fun h e => by
    rcases h with h | h
    · rw [h] at e; cases e
    · exact h e.symm
  exact ⟨(hg.block _ (blk_in h'.res) (ne hr)).trans h'.res, (hg.block _ (blk_in h'.sh) (ne hs)).trans h'.sh, (hg.block _ (blk_in h'.pk) (ne hp)).trans h'.pk, by rw [u32s_snoc]; exact ho, h'.b.grown hg h'.b.size (fun q hq => own_from h'.own q hq), h'.l4, h'.l6⟩
set_option maxRecDepth 20000 in
set_option maxHeartbeats 4000000 in
theorem pget_no (A : Option Addr) (n c : Nat) (l : List UInt8) (w : World) (h : Bts w A n c l) (he : lookE l ≠ 0) :
    Calls Try.prog 72 #[.slice A n c] w fun e w' => e = .returned (.tuple #[.agg #[.bool false, .int .i64 0, .int .u16 0, .int .u32 0, .int .u32 0, .slice none 0 0, .bool false, .int .u16 0, .slice none 0 0, .slice none 0 0, .int .i64 0], .int .i64 (lookE l : Nat)]) ∧ Below w.heap.size w w' := by
  have HB := Lib.hid h
  have hne : ((((lookE l : Nat) : Int)) != 0) = true := by simp; omega
  clear h he
  go_enter Try.func72, Try.ntmps72
  go_wp2_with (first
    | (go_at_call 114; (with_reducible refine (look_any A n c l _ (HB.out.below ((Below.refl _ _).alloc (Nat.le_refl _) _))).mono ?_); rintro e w1 ⟨rfl, hb1⟩; have hb2 := ((Below.refl w.heap.size w).alloc (Nat.le_refl _) _).trans (hb1.mono (by simp)); have hit := blk_below (blk_alloc _ _) hb1; have hit2 := fun o => blk_below hit ((Below.refl w1.heap.size w1).alloc (Nat.le_refl _) o))
    | (refine wpList_store_blk rfl 39 (.tmp 2) (.tmp 15) rfl w.heap.size _ #[.bool false, .int .i64 0, .int .u16 0, .int .u32 0, .int .u32 0, .slice none 0 0, .bool false, .int .u16 0, .slice none 0 0, .slice none 0 0, .int .i64 0] _ rfl rfl (hit2 _) rfl (by kernel_rfl) (by simp [Value.oneCell']) ?_; intro w5 hi5 hg5; obtain ⟨r0, r1, r2, r3, r4, r5, r6, r7, r8, r9, r10⟩ := eleven_cells hi5))
  exact bodyPost_ret (v := .tuple #[.agg #[.bool false, .int .i64 0, .int .u16 0, .int .u32 0, .int .u32 0, .slice none 0 0, .bool false, .int .u16 0, .slice none 0 0, .slice none 0 0, .int .i64 0], .int .i64 (lookE l : Nat)]) (by simp [results, Try.results72, go_sem, r0, r1, r2, r3, r4, r5, r6, r7, r8, r9, r10]) rfl
    ⟨rfl, (hb2.alloc hb2.size _).grown hg5 (hb2.alloc hb2.size _).size (fun q hq => by injection hq with hq; omega)⟩
end Go.Proofs.Ytknlkmencdlpcaa
