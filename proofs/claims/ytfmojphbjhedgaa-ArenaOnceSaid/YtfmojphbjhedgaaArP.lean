/-
What a round of ArenaPlays keeps.
-/
import Derived.Test.YtfmojphbjhedgaaAr9
namespace Go.Proofs.Ytfmojphbjhedgaa
set_option linter.unusedVariables false
set_option linter.unusedSimpArgs false
open Go.RowKit

theorem slH : SliceT Try.prog 28 31 (.agg #[.int .i64 0, .int .u32 0]) 2 16 := sliceT_of Try.underlying28 (by kernel_rfl) rfl (by omega) (by omega)
/-- The arena, the document's store, the handles that were told. -/
structure Play (w0 w : World) (B p q n c p' q' c' : Nat) (r : List Value) (S R : List Slo) (A : Option Addr) (t ct : Nat) (hds : List Slo) : Prop where
  a : ArAt 57 [] w B p q n c S
  s : ArAt 46 r w B p' q' n c' R
  qq : q ≠ q'
  told : w.ownsRow B 31 2 (.slice A t ct) t (rowH hds)
  b : Below w0.heap.size w0 w
  hB : w0.heap.size ≤ B
/-- A handle's variable. -/
def HBlk (w : World) (hb : Nat) (i g : Int) : Prop := w.heap[hb]? = some (.cells #[.int .i64 i, .int .u32 g] 31 (0, 0))
section
variable {w0 w w' : World} {B p q n c p' q' c' : Nat} {r : List Value} {S R S' : List Slo} {A : Option Addr} {t ct : Nat} {hds : List Slo} {hb : Nat} {i g : Int}
theorem ArAt.kind {T : TypeId} (h : ArAt T r w B p q n c S) : ∃ cur, w.heap[q]? = some (.cells cur 53 (0, 0)) := own_kind h.own rfl
theorem told_ne {e : TypeId} (ho : w.ownsRow B 31 2 (.slice A t ct) t (rowH hds)) {cur : Array Value} (hq : w.heap[q]? = some (.cells cur e (0, 0))) (hne : 31 ≠ e) : (Value.slice A t ct).ownBlock = none ∨ (Value.slice A t ct).ownBlock ≠ some q := row_ne_cell ho hq hne
theorem Play.below (h : Play w0 w B p q n c p' q' c' r S R A t ct hds) (hb : Below w.heap.size w w') : Play w0 w' B p q n c p' q' c' r S R A t ct hds :=
  ⟨h.a.below hb, h.s.below hb, h.qq, h.told.kept (own_below hb) (own_none _), h.b.trans (hb.mono h.b.size), h.hB⟩
theorem Play.drew (h : Play w0 w B p q n c p' q' c' r S R A t ct hds) : Play w0 w.drew B p q n c p' q' c' r S R A t ct hds := h.below ((Below.refl _ _).drew)
theorem Play.alloc (h : Play w0 w B p q n c p' q' c' r S R A t ct hds) (o : Obj) : Play w0 (w.alloc o) B p q n c p' q' c' r S R A t ct hds := h.below ((Below.refl _ _).alloc (Nat.le_refl _) o)
theorem Play.stepA (h : Play w0 w B p q n c p' q' c' r S R A t ct hds) (hA : ArAt 57 [] w' B p q n c S') (hg : w.grownBy w' (some q)) : Play w0 w' B p q n c p' q' c' r S' R A t ct hds := by
  obtain ⟨cur, hk⟩ := h.a.kind
  refine ⟨hA, h.s.kept hg ?_ ?_, h.qq, h.told.kept hg (told_ne h.told hk (by decide)), h.b.grown hg h.b.size ?_, h.hB⟩
  · intro e; injection e with e
    exact kinds_ne hk h.s.head (by decide) e
  · intro e; injection e with e
    exact h.qq e
  · intro k hk; injection hk with hk; have := h.a.qlt; have := h.hB; omega
theorem Play.stepR (h : Play w0 w B p q n c p' q' c' r S R A t ct hds) (hR : ArAt 46 r w' B p' q' n c' S') (hg : w.grownBy w' (some q')) : Play w0 w' B p q n c p' q' c' r S S' A t ct hds := by
  obtain ⟨cur, hk⟩ := h.s.kind
  refine ⟨h.a.kept hg ?_ ?_, hR, h.qq, h.told.kept hg (told_ne h.told hk (by decide)), h.b.grown hg h.b.size ?_, h.hB⟩
  · intro e; injection e with e
    exact kinds_ne hk h.a.head (by decide) e
  · intro e; injection e with e
    exact h.qq e.symm
  · intro k hk; injection hk with hk; have := h.s.qlt; have := h.hB; omega
theorem HBlk.below (h : HBlk w hb i g) (hw : Below w.heap.size w w') : HBlk w' hb i g := (hw.block hb (block_lt h)).trans h
theorem HBlk.drew (h : HBlk w hb i g) : HBlk w.drew hb i g := h
theorem HBlk.alloc (h : HBlk w hb i g) (o : Obj) : HBlk (w.alloc o) hb i g := alloc_heap h
theorem HBlk.grow (h : HBlk w hb i g) (hg : w.grownBy w' (some q)) {cur : Array Value} (hk : w.heap[q]? = some (.cells cur 53 (0, 0))) : HBlk w' hb i g :=
  (hg.block hb (block_lt h) (fun e => by injection e with e; exact kinds_ne h hk (by decide) e)).trans h
theorem HBlk.stepA (h : HBlk w hb i g) (hP : Play w0 w B p q n c p' q' c' r S R A t ct hds) (hg : w.grownBy w' (some q)) : HBlk w' hb i g := by
  obtain ⟨cur, hk⟩ := hP.a.kind; exact h.grow hg hk
theorem HBlk.stepR (h : HBlk w hb i g) (hP : Play w0 w B p q n c p' q' c' r S R A t ct hds) (hg : w.grownBy w' (some q')) : HBlk w' hb i g := by
  obtain ⟨cur, hk⟩ := hP.s.kind; exact h.grow hg hk
/-- The told handles' row stands ahead of a handle's variable. -/
def Ahead (A : Option Addr) (hb : Nat) : Prop := ∀ b, A.map Addr.block = some b → b < hb
theorem Play.ahead (h : Play w0 w B p q n c p' q' c' r S R A t ct hds) : Ahead A w.heap.size := fun b hb => (h.told.lt b (by rw [ownBlock_slice]; exact hb)).2
theorem Play.setH {cur : Array Value} (h : Play w0 w B p q n c p' q' c' r S R A t ct hds) (hk : w.heap[hb]? = some (.cells cur 31 (0, 0))) (ha : Ahead A hb) (hB : B ≤ hb) (j : Nat) (v : Value) : Play w0 (w.setCell ⟨hb, j, none⟩ v) B p q n c p' q' c' r S R A t ct hds := by
  obtain ⟨ca, hka⟩ := h.a.kind
  obtain ⟨cs, hks⟩ := h.s.kind
  refine ⟨h.a.keptSet (kinds_ne hk h.a.head (by decide)) (kinds_ne hk hka (by decide)) v, h.s.keptSet (kinds_ne hk h.s.head (by decide)) (kinds_ne hk hks (by decide)) v, h.qq, h.told.kept (grown_setCell w _ v) ?_, h.b.setCell (p := ⟨hb, j, none⟩) (by have := h.hB; show w0.heap.size ≤ hb; omega) v, h.hB⟩
  rw [ownBlock_slice]
  exact .inr fun e => Nat.lt_irrefl _ (ha _ e)
theorem Play.set2 (h : Play w0 w B p q n c p' q' c' r S R A t ct hds) (hk : HBlk w hb i g) (ha : Ahead A hb) (hB : B ≤ hb) (i' g' : Int) :
    Play w0 ((w.setCell ⟨hb, 0, none⟩ (.int .i64 i')).setCell ⟨hb, 1, none⟩ (.int .u32 g')) B p q n c p' q' c' r S R A t ct hds ∧ HBlk ((w.setCell ⟨hb, 0, none⟩ (.int .i64 i')).setCell ⟨hb, 1, none⟩ (.int .u32 g')) hb i' g' :=
  ⟨(h.setH hk ha hB 0 _).setH (heap_setCell_same w hb 0 _ _ _ hk) ha hB 1 _, (row2_store hk _ _).2.2⟩
theorem Play.le (h : Play w0 w B p q n c p' q' c' r S R A t ct hds) : B ≤ w.heap.size := Nat.le_trans h.a.hp (Nat.le_of_lt h.a.plt)
theorem Play.app (h : Play w0 w B p q n c p' q' c' r S R A t ct hds) {lit : Obj} (hg : (w.alloc lit).grownBy w' (A.map Addr.block)) {A1 : Option Addr} {c1 : Nat} {x : Slo} (ho : w'.ownsRow B 31 2 (.slice A1 (t + 1) c1) (t + 1) (rowH hds ++ rowH [x])) :
    Play w0 w' B p q n c p' q' c' r S R A1 (t + 1) c1 (hds ++ [x]) := by
  have h' := h.alloc lit
  obtain ⟨ca, hka⟩ := h'.a.kind
  obtain ⟨cs, hks⟩ := h'.s.kind
  rw [← rowH_append] at ho
  refine ⟨h'.a.kept hg (ne_of_kinds h'.told h'.a.head (by decide)) (ne_of_kinds h'.told hka (by decide)), h'.s.kept hg (ne_of_kinds h'.told h'.s.head (by decide)) (ne_of_kinds h'.told hks (by decide)), h.qq, ho, h'.b.grown hg h'.b.size ?_, h.hB⟩
  intro k hk
  have := own_from h'.told k hk
  have := h.hB
  omega
theorem HBlk.app (h : HBlk w hb i g) {lit : Obj} (hg : (w.alloc lit).grownBy w' (A.map Addr.block)) (ha : Ahead A hb) : HBlk w' hb i g :=
  (hg.block hb (block_lt (h.alloc lit)) (fun e => Nat.lt_irrefl _ (ha _ e.symm))).trans (h.alloc lit)
theorem HBlk.cells (h : HBlk w hb i g) : w.cell? ⟨hb, 0, none⟩ = some (.int .i64 i) ∧ w.cell? ⟨hb, 1, none⟩ = some (.int .u32 g) := row2_cells h
end
theorem lit_rd (w : World) (o : Obj) (i g : Nat) : Rd ((w.alloc o).alloc (.cells #[.int .i64 i, .int .u32 g] 31)) (some ⟨w.heap.size + 1, 0, none⟩) (rowH [(i, g)]) := by
  have h := rd_row (World.ownsRow_lit (base := 0) (e := 31) (size := 2) (w.alloc o) #[.int .i64 i, .int .u32 g] 1 (Nat.zero_le _) (by unfold maxLen; omega) rfl)
  rw [show (w.alloc o).heap.size = w.heap.size + 1 by simp] at h
  exact h
theorem keepS_le {S : List Slo} {m : Nat} (h : ∀ s ∈ S, s.2 ≤ m) (i g : Int) : ∀ s ∈ keepS S i g, s.2 ≤ m + 1 := by
  intro s hs
  unfold keepS at hs
  split at hs
  · rename_i h1
    obtain ⟨k, hk, rfl, h3, h4⟩ := liveS_yes h1
    rcases List.mem_or_eq_of_mem_set hs with hs | rfl
    · exact Nat.le_succ_of_le (h s hs)
    · have := h _ (List.getElem_mem hk)
      simp [List.getElem?_eq_getElem hk]
      exact this
  · exact Nat.le_succ_of_le (h s hs)
theorem dropS_le {S : List Slo} {m : Nat} (h : ∀ s ∈ S, s.2 ≤ m) (i g : Int) : ∀ s ∈ dropS S i g, s.2 ≤ m := by
  intro s hs
  unfold dropS at hs
  split at hs
  · rename_i h1
    obtain ⟨k, hk, rfl, h3, h4⟩ := liveS_yes h1
    have := h _ (List.getElem_mem hk)
    split at hs
    · rcases List.mem_or_eq_of_mem_set hs with hs | rfl
      · exact h s hs
      · exact Nat.zero_le _
    · rcases List.mem_or_eq_of_mem_set hs with hs | rfl
      · exact h s hs
      · simp [List.getElem?_eq_getElem hk]
        omega
  · exact h s hs
theorem takeS_le {S : List Slo} {m : Nat} (h : ∀ s ∈ S, s.2 ≤ m) : ∀ s ∈ takeS S, s.2 ≤ m + 1 := by
  intro s hs
  unfold takeS at hs
  split at hs
  · rcases List.mem_or_eq_of_mem_set hs with hs | rfl
    · exact Nat.le_succ_of_le (h s hs)
    · exact Nat.le_add_left _ _
  · exact Nat.le_succ_of_le (h s hs)
/-- The calls of a row. -/
def Acts (w : World) (X : Option Addr) (m : Nat) : Prop := ∀ k, k < m → ∃ (ad : Addr) (K x s g : Int), X = some ad ∧ w.cell? (ad.add (k * 4)) = some (.int .i64 K) ∧ w.cell? (ad.add (k * 4 + 1)) = some (.int .i64 x) ∧
  w.cell? (ad.add (k * 4 + 2)) = some (.int .i64 s) ∧ w.cell? (ad.add (k * 4 + 3)) = some (.int .u32 g) ∧ -9223372036854775808 ≤ x ∧ x ≤ 9223372036854775807
theorem Acts.below {w w' : World} {X : Option Addr} {m : Nat} (h : Acts w X m) (hb : Below w.heap.size w w') : Acts w' X m := by
  intro k hk
  obtain ⟨ad, K, x, s, g, h1, h2, h3, h4, h5, h6⟩ := h k hk
  exact ⟨ad, K, x, s, g, h1, below_cell hb h2, below_cell hb h3, below_cell hb h4, below_cell hb h5, h6⟩
end Go.Proofs.Ytfmojphbjhedgaa
