/-
one of package text: the operation of a line.
-/
import Derived.Test.YtaghecgjmkhpcaaGreatDoorTxB
namespace Go.Proofs.YtaghecgjmkhpcaaGreatDoor
set_option linter.unusedVariables false
set_option linter.unusedSimpArgs false
open Go Go.RowKit

theorem res_ctT {fn : Func} {p u : Tmp} {ty : TypeId} {P : Program} (h : fn.results = #[.cell p ty, .tmp u]) (tmps : Array Value) (w : World) (g : Nat) (t : TypeId) (cs : Array Value) (fr : Nat × Nat) (fs : Array Field)
    (hp : tmps.getD p undef = .pointer (some ⟨g, 0, none⟩)) (hg : w.heap[g]? = some (.cells cs t fr)) (hu : P.underlying ty = some (.struct fs)) (hi : (P.info? ty).map (·.size) = some cs.size) (v : Value) (hv : tmps.getD u undef = v) :
    (results fn tmps).run P w = .ok (.tuple #[.agg cs, v]) w := by
  subst hv
  rw [results_cell_tmp h, hp]
  simp [asAddr, run_loadVar_row w g t ty cs fr (.struct fs) hg hu rfl hi]
theorem idx_no (c : UInt8) : ∀ s : List UInt8, c ∉ s → Lib.index s [c] = -1
  | [], _ => rfl
  | b :: l, h => by
    have hb : ¬ c = b := fun e => h (by simp [e])
    have ih := idx_no c l (fun hm => h (by simp [hm]))
    simp [Lib.index, hb, ih]
theorem idx_at (c : UInt8) : ∀ (w t : List UInt8), c ∉ w → Lib.index (w ++ c :: t) [c] = (w.length : Int)
  | [], t, _ => by simp [Lib.index]
  | b :: w, t, h => by
    have hb : ¬ c = b := fun e => h (by simp [e])
    have ih := idx_at c w t (fun hm => h (by simp [hm]))
    rw [List.cons_append, Lib.index, ih]
    simp [hb]
theorem first_at (c : UInt8) : ∀ s : List UInt8, c ∉ s ∨ ∃ w t, s = w ++ c :: t ∧ c ∉ w
  | [] => .inl (by simp)
  | b :: l => by
    by_cases hb : c = b
    · exact .inr ⟨[], l, by simp [hb], by simp⟩
    · rcases first_at c l with h | ⟨w, t, h1, h2⟩
      · exact .inl (by simp [hb, h])
      · exact .inr ⟨b :: w, t, by simp [h1], by simp [hb, h2]⟩
theorem split_lib (c : UInt8) : ∀ (n : Nat) (s : List UInt8), s.length ≤ n → Lib.splitK [c] 0 (Lib.count s [c]) s = splitL c s := by
  intro n
  induction n with
  | zero =>
    intro s hs
    obtain rfl : s = [] := List.eq_nil_of_length_eq_zero (by omega)
    rw [Lib.count_miss (idx_no c [] (by simp))]
    rfl
  | succ n ih =>
    intro s hs
    rcases first_at c s with h | ⟨w, t, rfl, hw⟩
    · rw [Lib.count_miss (idx_no c s h), splitL_word c s (fun x hx e => h (e ▸ hx))]
      rfl
    · have e := idx_at c w t hw
      have hd : (w ++ c :: t).drop (w.length + [c].length) = t := by simp [List.drop_append]
      rw [Lib.count_hit (by simp) e, hd, Nat.add_comm 1, Lib.splitK, e, if_neg (by simp), splitL_app c w t (fun x hx e => hw (e ▸ hx))]
      have e1 : ((w.length : Int)).toNat = w.length := by omega
      rw [e1, hd, ih t (by simp at hs; omega)]
      simp
theorem split_any (s : List UInt8) (w : World) (hs : s.length < 4294967281) (hT : LaidT w) :
    Calls Tryz.prog 47 #[.string ⟨s.toArray⟩, .string ⟨#[32]⟩] w fun e w' => ∃ n, e = .returned (.slice (some ⟨w.heap.size, 0, none⟩) n n) ∧ Row w' (some ⟨w.heap.size, 0, none⟩) n n 1 16 (strs (splitL 32 s)) ∧ Below w.heap.size w w' := by
  obtain ⟨m, hm⟩ := hT.ml
  refine (Tryz.strings_Split ⟨s.toArray⟩ ⟨#[32]⟩ m w hs hm (by decide)).mono ?_
  rintro e w' ⟨rfl, rfl⟩
  have hl := Lib.splitB_all ⟨#[32]⟩ (by decide) 0 _ (⟨s.toArray⟩ : ByteArray) rfl
  have hd := Lib.splitB_data ⟨#[32]⟩ 0 (Lib.countB ⟨s.toArray⟩ ⟨#[32]⟩) (⟨s.toArray⟩ : ByteArray)
  have e1 : Lib.splitK (⟨#[32]⟩ : ByteArray).data.toList 0 (Lib.countB ⟨s.toArray⟩ ⟨#[32]⟩) (⟨s.toArray⟩ : ByteArray).data.toList = splitL 32 s := split_lib 32 s.length s (Nat.le_refl _)
  rw [e1] at hd
  have e2 : (Lib.splitB ⟨#[32]⟩ 0 (Lib.countB ⟨s.toArray⟩ ⟨#[32]⟩) (⟨s.toArray⟩ : ByteArray)).map Value.string = strs (splitL 32 s) := by
    rw [← hd]
    simp [strs, strV]
  rw [e2]
  have hb := (Below.refl w.heap.size w).alloc (Nat.le_refl _) (.cells (strs (splitL 32 s)).toArray 9)
  refine ⟨_, rfl, ⟨?_, Nat.le_refl _, ?_, (fun h => by cases h), ?_⟩, hb⟩
  · rw [← e2, List.length_map, hl, Nat.mul_one]
  · have h1 : Lib.countB ⟨s.toArray⟩ ⟨#[32]⟩ ≤ s.length + 1 := Lib.count_le _ _
    unfold maxLen
    omega
  · intro j u hu
    refine ⟨_, rfl, ?_⟩
    rw [add_lit]
    have : (w.alloc (.cells (strs (splitL 32 s)).toArray 9)).heap[w.heap.size]? = some (.cells (strs (splitL 32 s)).toArray 9 (0, 0)) := heap_alloc_new w _
    rw [cell_of_row _ _ _ _ _ _ this]
    simpa using hu
def wordsB : List ByteArray := wordsT.map fun l => ⟨l.toArray⟩
theorem idx_words (x : List UInt8) : (Lib.idxOfS (wordsB.take 13) ⟨x.toArray⟩ < 1 ∧ kindL x = 0) ∨ (Lib.idxOfS (wordsB.take 13) ⟨x.toArray⟩ = kindL x ∧ 1 ≤ kindL x ∧ kindL x ≤ 12) := by
  by_cases h : kindL x = 0
  · left
    refine ⟨?_, h⟩
    by_cases hx : x = []
    · subst hx
      decide +kernel
    · rw [Lib.idxOfS_miss]
      · decide
      · intro j hj e
        have hj2 : j = 0 ∨ (1 ≤ j ∧ j ≤ 12) := by omega
        have e2 : wordL (j : Int) = x := by
          have : ∀ j : Fin 13, wordsB.getD j.val ByteArray.empty = ⟨(wordL (j.val : Int)).toArray⟩ := by decide +kernel
          rw [this ⟨j, hj⟩] at e
          have := congrArg (fun b : ByteArray => b.data.toList) e
          simpa using this
        rcases hj2 with rfl | hj2
        · exact hx e2.symm
        · exact kindL_no x h j hj2.1 hj2.2 e2
  · right
    obtain ⟨h1, h2, h3⟩ := kindL_of x (kindL x) rfl h
    refine ⟨?_, h1, h2⟩
    generalize kindL x = k at *
    subst h3
    have : ∀ k : Fin 13, Lib.idxOfS (wordsB.take 13) ⟨(wordL (k.val : Int)).toArray⟩ = (k.val : Int) := by decide +kernel
    exact this ⟨k, by omega⟩
theorem words_row {w : World} {g : Nat} (h : w.heap[g]? = some (.cells wordsV 9 (0, 0))) : ∀ j, j < wordsB.length → w.cell? ⟨g, 0 + j, none⟩ = some (.string (wordsB.getD j ByteArray.empty)) := by
  intro j hj
  have hj : j < 13 := hj
  have e : wordsB.getD j ByteArray.empty = ⟨(wordL (j : Int)).toArray⟩ := by
    have : ∀ j : Fin 13, wordsB.getD j.val ByteArray.empty = ⟨(wordL (j.val : Int)).toArray⟩ := by decide +kernel
    exact this ⟨j, hj⟩
  rw [e, Nat.zero_add]
  exact words_cell h (by omega)
theorem spz_own (w : World) (base : Nat) : SpO w base ⟨zeroO, none, 0, 0, none, 0, 0⟩ := ⟨World.ownsRow_nil _ _ _ _, World.ownsRow_nil _ _ _ _, (fun z hz => by cases hz), (by simp [zeroO])⟩
theorem wd_len {l : List (List UInt8)} {n : Nat} (h : ∀ x ∈ l, x.length ≤ n) (i : Nat) : (wd l i).length ≤ n := by
  by_cases hi : i < l.length
  · rw [wd_get l i hi]; exact h _ (List.getElem_mem hi)
  · rw [wd_out l i (by omega)]; simp
theorem split_lens (c : UInt8) : ∀ s : List UInt8, (splitL c s).length ≤ s.length + 1 ∧ ∀ x ∈ splitL c s, x.length ≤ s.length
  | [] => ⟨by simp [splitL], by simp [splitL]⟩
  | y :: t => by
    obtain ⟨h1, h2⟩ := split_lens c t
    by_cases hy : y = c
    · subst hy
      rw [splitL_hit]
      refine ⟨by simp; omega, fun x hx => ?_⟩
      rcases List.mem_cons.1 hx with rfl | hx
      · simp
      · have := h2 x hx
        simp
        omega
    · cases e : splitL c t with
      | nil => exact absurd e (splitL_ne c t)
      | cons v r =>
        rw [splitL_step c y t hy _ _ e]
        rw [e] at h1 h2
        refine ⟨by simp at h1 ⊢; omega, fun x hx => ?_⟩
        rcases List.mem_cons.1 hx with rfl | hx
        · have := h2 v (by simp)
          simp
          omega
        · have := h2 x (by simp [hx])
          simp
          omega
end Go.Proofs.YtaghecgjmkhpcaaGreatDoor
