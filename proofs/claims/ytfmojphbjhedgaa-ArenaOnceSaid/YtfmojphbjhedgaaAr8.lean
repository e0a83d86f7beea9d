/-
The walks of the document's own New, of SameSlots, and of the choice of a handle.
-/
import Derived.Test.YtfmojphbjhedgaaLaw11
namespace Go.Proofs.Ytfmojphbjhedgaa
set_option linter.unusedVariables false
set_option linter.unusedSimpArgs false
open Go.RowKit

abbrev RA := fun (w : World) (base p q n c : Nat) (S : List Slo) => ∃ r, ArAt 46 r w base p q n c S
theorem slB : SliceT Try.prog 44 81 (.slice none 0 0) 1 24 := sliceT_of Try.underlying44 (by kernel_rfl) rfl (by omega) (by omega)
theorem own_kind {w : World} {base : Nat} {e : TypeId} {size : Nat} {A : Option Addr} {n c : Nat} {xs : List Value} (h : w.ownsRow base e size (.slice A n c) n xs) {b : Nat} (hb : A.map Addr.block = some b) : ∃ cur, w.heap[b]? = some (.cells cur e (0, 0)) := by
  rcases h.2 with ⟨h', _⟩ | ⟨g, cap, cur, h', _, hg, _⟩
  · injection h' with h'; subst h'; simp at hb
  · injection h' with h'; subst h'; simp at hb; subst hb; exact ⟨cur, hg⟩
theorem kinds_ne {w : World} {a b : Nat} {c1 c2 : Array Value} {t1 t2 : TypeId} (h1 : w.heap[a]? = some (.cells c1 t1 (0, 0))) (h2 : w.heap[b]? = some (.cells c2 t2 (0, 0))) (hne : t1 ≠ t2) : a ≠ b := by
  rintro rfl
  rw [h1] at h2
  injection h2 with h2
  injection h2 with _ h2
  exact hne h2
theorem run_max2 (x y : Int) (w : World) : (Builtin.max_ #[3, 3] 3 #[.int .i64 x, .int .i64 y]).run Try.prog w = .ok (.int .i64 (max x y)) w := by
  simp [Builtin.max_, Builtin.max2]
  split <;> omega
theorem run_min2 (x y : Int) (w : World) : (Builtin.min_ #[3, 3] 3 #[.int .i64 x, .int .i64 y]).run Try.prog w = .ok (.int .i64 (min x y)) w := by
  simp [Builtin.min_, Builtin.min2]
  split <;> omega
/-- The document's own store while it is made. -/
structure Made (w : World) (base p k j : Nat) (A B : Option Addr) (c d : Nat) : Prop where
  hp : base ≤ p
  head : w.heap[p]? = some (.cells #[.slice A k c, .slice B j d] 46 (0, 0))
  rowL : w.ownsRow base 53 2 (.slice A k c) k (rowS (List.replicate k (1, 0)))
  rowB : w.ownsRow base 81 1 (.slice B j d) j (List.replicate j (.slice none 0 0))
theorem ne_of_kinds {w : World} {base p : Nat} {e t : TypeId} {size n c : Nat} {A : Option Addr} {xs : List Value} {cs : Array Value} (h : w.ownsRow base e size (.slice A n c) n xs) (hp : w.heap[p]? = some (.cells cs t (0, 0))) (hne : e ≠ t) : A.map Addr.block ≠ some p := by
  intro he
  obtain ⟨cur, hc⟩ := own_kind h he
  exact kinds_ne hc hp hne rfl
theorem rows_ne {w : World} {base base' : Nat} {e t : TypeId} {size size' n c m d : Nat} {A B : Option Addr} {xs ys : List Value} (h : w.ownsRow base e size (.slice A n c) n xs) (h' : w.ownsRow base' t size' (.slice B m d) m ys) (hne : e ≠ t) :
    (Value.slice B m d).ownBlock = none ∨ (Value.slice B m d).ownBlock ≠ A.map Addr.block := by
  rw [ownBlock_slice]
  cases hB : B.map Addr.block with
  | none => exact .inl rfl
  | some b =>
    refine .inr fun he => ?_
    obtain ⟨cur, hc⟩ := own_kind h' hB
    exact ne_of_kinds h hc hne he.symm
theorem row_ne_cell {w : World} {base p : Nat} {e t : TypeId} {size n c : Nat} {A : Option Addr} {xs : List Value} {cs : Array Value} (h : w.ownsRow base e size (.slice A n c) n xs) (hp : w.heap[p]? = some (.cells cs t (0, 0))) (hne : e ≠ t) :
    (Value.slice A n c).ownBlock = none ∨ (Value.slice A n c).ownBlock ≠ some p := by
  rw [ownBlock_slice]
  exact .inr (ne_of_kinds h hp hne)
theorem alloc_heap {w : World} {p : Nat} {o o' : Obj} (h : w.heap[p]? = some o) : (w.alloc o').heap[p]? = some o := ((World.grownBy_alloc w o' none).block p (block_lt h) (by simp)).trans h
theorem Made.app1 {w w1 : World} {base p k j : Nat} {A B : Option Addr} {c d : Nat} (h : Made w base p k j A B c d) {lit : Obj} (hg : (w.alloc lit).grownBy w1 (A.map Addr.block)) {A1 : Option Addr} {c1 : Nat}
    (ho1 : w1.ownsRow base 53 2 (.slice A1 (k + 1) c1) (k + 1) (rowS (List.replicate k (1, 0)) ++ rowS [(1, 0)])) :
    w1.heap[p]? = some (.cells #[.slice A k c, .slice B j d] 46 (0, 0)) ∧ Made (w1.setCell ⟨p, 0, none⟩ (.slice A1 (k + 1) c1)) base p (k + 1) j A1 B c1 d := by
  rw [← rowS_append, show List.replicate k ((1, 0) : Slo) ++ [(1, 0)] = List.replicate (k + 1) (1, 0) by rw [List.replicate_succ']] at ho1
  have h0 := alloc_heap (o' := lit) h.head
  have d1 := (hg.block p (block_lt h0) (fun e => ne_of_kinds h.rowL h.head (by decide) e.symm)).trans h0
  have hB1 := (h.rowB.alloc lit).kept hg (rows_ne h.rowL h.rowB (by decide))
  exact ⟨d1, h.hp, heap_setCell_same w1 p 0 _ _ _ d1, ho1.kept (grown_setCell w1 ⟨p, 0, none⟩ _) (row_ne_cell ho1 d1 (by decide)), hB1.kept (grown_setCell w1 ⟨p, 0, none⟩ _) (row_ne_cell hB1 d1 (by decide))⟩
theorem Made.app2 {w w1 : World} {base p k j : Nat} {A B : Option Addr} {c d : Nat} (h : Made w base p k j A B c d) {lit : Obj} (hg : (w.alloc lit).grownBy w1 (B.map Addr.block)) {B1 : Option Addr} {d1 : Nat}
    (ho1 : w1.ownsRow base 81 1 (.slice B1 (j + 1) d1) (j + 1) (List.replicate j (.slice none 0 0) ++ [.slice none 0 0])) :
    w1.heap[p]? = some (.cells #[.slice A k c, .slice B j d] 46 (0, 0)) ∧ Made (w1.setCell ⟨p, 1, none⟩ (.slice B1 (j + 1) d1)) base p k (j + 1) A B1 c d1 := by
  rw [← List.replicate_succ'] at ho1
  have h0 := alloc_heap (o' := lit) h.head
  have e1 := (hg.block p (block_lt h0) (fun e => ne_of_kinds h.rowB h.head (by decide) e.symm)).trans h0
  have hA1 := (h.rowL.alloc lit).kept hg (rows_ne h.rowB h.rowL (by decide))
  exact ⟨e1, h.hp, heap_setCell_same w1 p 1 _ _ _ e1, hA1.kept (grown_setCell w1 ⟨p, 1, none⟩ _) (row_ne_cell hA1 e1 (by decide)), ho1.kept (grown_setCell w1 ⟨p, 1, none⟩ _) (row_ne_cell ho1 e1 (by decide))⟩
set_option maxRecDepth 20000 in
set_option maxHeartbeats 400000 in
theorem rnew_any (N : Int) (w : World) (hN : -9223372036854775808 ≤ N ∧ N ≤ 9223372036854775807) :
    Calls Try.prog 9 #[.int .i64 N] w fun e w' => ∃ p, e = .returned (.pointer (some ⟨p, 0, none⟩)) ∧ (∃ q c, RA w' w.heap.size p q (sizeS N) c (List.replicate (sizeS N) (1, 0))) ∧ Below w.heap.size w w' := by
  obtain ⟨h1, h2, h3⟩ := sizeS_is N
  have H1 := Lib.hid h1
  clear h1
  generalize sizeS N = n at *
  obtain ⟨M, hM⟩ : ∃ M, M = max N 1 := ⟨_, rfl⟩
  have hmx : ∀ wx, (Builtin.max_ #[3, 3] 3 #[.int .i64 N, .int .i64 1]).run Try.prog wx = .ok (.int .i64 M) wx := fun wx => by rw [hM]; exact run_max2 N 1 wx
  have hmn : ∀ wx, (Builtin.min_ #[3, 3] 3 #[.int .i64 M, .int .i64 1024]).run Try.prog wx = .ok (.int .i64 n) wx := fun wx => by rw [show (n : Int) = min M 1024 by rw [H1.out, hM]; omega]; exact run_min2 M 1024 wx
  clear hM
  have hb0 := (Below.refl w.heap.size w).alloc (Nat.le_refl _) (.cells #[.slice none 0 0, .slice none 0 0] 46)
  have hm0 : Made (w.alloc (.cells #[.slice none 0 0, .slice none 0 0] 46)) w.heap.size w.heap.size 0 0 none none 0 0 :=
    ⟨Nat.le_refl _, heap_alloc_new w _, World.ownsRow_nil _ _ _ _, World.ownsRow_nil _ _ _ _⟩
  go_enter Try.func9, Try.ntmps9
  go_wp2
  go_loopw [4] (fun i wr => ∃ (k : Nat) (A B : Option Addr) (c d : Nat), i = .int .i64 k ∧ k ≤ n ∧ Made wr w.heap.size w.heap.size k k A B c d ∧ Below w.heap.size w wr) (fun i _ => n - (intOf i).toNat)
  case atStart => exact ⟨0, none, none, 0, 0, rfl, Nat.zero_le _, hm0, hb0⟩
  case round =>
    clear hm0 hb0
    obtain ⟨k, A, B, c, d, rfl, hkn, hM, hbr⟩ := hrel
    obtain ⟨m0, m1⟩ := row2_cells hM.head
    have hbs := hbr.size
    by_cases hlt : k < n
    · have hbL := own_from hM.rowL
      have hbB := own_from hM.rowB
      go_wp2_with (first
        | (at_builtin; refine wpList_app slS rfl _ _ rfl w.heap.size A k c (rowS (List.replicate k (1, 0))) rfl (hM.rowL.alloc _) (some ⟨wr.heap.size, 0, none⟩) 1 1 (rowS [(1, 0)]) rfl rfl (rd_row (World.ownsRow_lit (base := 0) (e := 53) (size := 2) wr #[.int .u32 1, .int .i64 0] 1 (Nat.zero_le _) (by unfold maxLen; omega) rfl)) (rowS_one _) (by omega) (by simp; omega) ?_; intro A1 c1 w1 ho1 hg1 hA1; obtain ⟨e1, hM1⟩ := hM.app1 hg1 ho1; obtain ⟨x0, x1⟩ := row2_cells e1; have f0 := frozen_row2 (j := 0) e1; obtain ⟨y0, y1⟩ := row2_cells hM1.head; have hB1 := ((hbr.alloc hbs (.cells #[.int .u32 1, .int .i64 0] 53)).grown hg1 (by simp; omega) hbL).setCell (p := ⟨w.heap.size, 0, none⟩) (Nat.le_refl _) (.slice A1 (k + 1) c1); generalize hW : w1.setCell ⟨w.heap.size, 0, none⟩ (.slice A1 (k + 1) c1) = W1 at *; have hbs1 := hB1.size)
        | (at_builtin; refine wpList_app slB rfl _ _ rfl w.heap.size B k d (List.replicate k (.slice none 0 0)) rfl (hM1.rowB.alloc _) (some ⟨W1.heap.size, 0, none⟩) 1 1 [.slice none 0 0] rfl rfl (Rd.own (World.ownsRow_lit (base := 0) (e := 81) (size := 1) W1 #[.slice none 0 0] 1 (Nat.zero_le _) (by unfold maxLen; omega) rfl)) (by simp [Value.oneCell']) (by omega) (by simp; omega) ?_; intro B1 d1 w2 ho2 hg2 hA2; obtain ⟨e2, hM2⟩ := hM1.app2 hg2 ho2; obtain ⟨z0, z1⟩ := row2_cells e2; have f1 := frozen_row2 (j := 1) e2; have hB2 := ((hB1.alloc hbs1 (.cells #[.slice none 0 0] 81)).grown hg2 (by simp; omega) hbB).setCell (p := ⟨w.heap.size, 1, none⟩) (Nat.le_refl _) (.slice B1 (k + 1) d1)))
      exact ⟨⟨k + 1, A1, B1, c1, d1, rfl, by omega, hM2, hB2⟩, by simp [intOf]; omega⟩
    · obtain rfl : k = n := by omega
      obtain ⟨g, cap, hv, _⟩ := hM.rowL.form (by omega)
      injection hv with hv1 hv2
      subst hv1
      go_wp2
      go_ret
      refine ⟨w.heap.size, rfl, ⟨g, c, [.slice B k d], ⟨by decide, Nat.le_refl _, hM.head, hM.rowL, by simp, h3, by omega, ?_⟩⟩, hbr⟩
      intro s hs
      rw [List.eq_of_mem_replicate hs]
      decide
end Go.Proofs.Ytfmojphbjhedgaa
