/-
What a round of ArenaOnce keeps: in memory, and of the numbers.
-/
import Derived.Test.YtfmojphbjhedgaaArP
import Derived.Test.YtfmojphbjhedgaaHandFrame
import Derived.Maps.OwnOps
import Derived.Maps.Views
import Derived.WideKeyArgs2
import Derived.DeepKeys4
import Derived.MapViews
namespace Go.Proofs.Ytfmojphbjhedgaa
set_option linter.unusedVariables false
set_option linter.unusedSimpArgs false
open Go.ChangeShapes Go.WideShapes Go.ChangeAt Go.RowKit

theorem laidOutP : laidOutB Try.prog = true := by kernel_rfl
theorem deepH : Try.prog.keyTypeAt (Try.prog.types.size + 1) 31 = true := by kernel_rfl
theorem wideH : (match Try.prog.underlying 31 with | some (.array _ _) | some (.struct _) => true | _ => false) = true := by kernel_rfl
theorem lawH : Go.Maps.Keyed Try.prog 31 := Go.Maps.Keyed.of_law (deep_law_laid laidOutP (m := 3) (by omega) (of_decide_eq_true (by kernel_rfl)) (by kernel_rfl) wideH)
theorem formedH (a b : Value) : (Value.agg #[a, b]).formed Try.prog 31 = true := by
  have hC : Try.prog.cellsOf 31 = 2 := by kernel_rfl
  simp [Value.formed, Try.underlying31, hC]
theorem keyH (w : World) (i g : Nat) (hi : i ≤ 1024) (hg : g < 4294967296) : ∃ kl, keyOf Try.prog 31 (.agg #[.int .i64 i, .int .u32 g]) = some kl := by
  have wi : (Lit.int .i64 (i : Int)).wf = true := by simp [Lit.wf, IntKind.min, IntKind.max, IntKind.signed, IntKind.bits]; omega
  have wg : (Lit.int .u32 (g : Int)).wf = true := by simp [Lit.wf, IntKind.min, IntKind.max, IntKind.signed, IntKind.bits]; omega
  exact ⟨_, (keyOf_asKey deepH wideH (formedH _ _) (shut_handle (H := Unit) (enc := fun _ => ()) (w := w) (base := 0) (spare := fun _ => false) (held := false) wi wg)).1⟩

abbrev Seen (w : World) (mb m : Nat) (D : DataW Unit) : Prop := w.ownsMap Try.prog 31 (plainElem Try.prog 4) mb m D
theorem look_not {w : World} {mb m : Nat} {D : DataW Unit} (h : Seen w mb m D) {key : Value} {kl : Lit} (hkey : keyOf Try.prog 31 key = some kl) (hu : D.atKey kl (.lit (.bool false)) = .lit (.bool false)) :
    (Instr.lookup 49 (.map (some mb)) key false).run Try.prog w = .ok (.bool false) w := by
  obtain ⟨v, ps, hrun, hv⟩ := World.ownsMap.lookup h lawH Try.underlying49 (z := .bool false) (by kernel_rfl) (plainElem_bool Try.underlying4 false) hkey
  rw [hu] at hv
  rw [hrun]
  unfold plainElem at hv
  rw [Try.underlying4] at hv
  cases v <;> simp at hv
  obtain ⟨rfl, _⟩ := hv
  rfl
/-- The arena, the handles that live, those that were seen. -/
structure Once (w0 w : World) (B p q n c : Nat) (S : List Slo) (A : Option Addr) (t ct : Nat) (hds : List Slo) (mb m : Nat) (D : DataW Unit) : Prop where
  a : ArAt 57 [] w B p q n c S
  told : w.ownsRow B 31 2 (.slice A t ct) t (rowH hds)
  map : Seen w mb m D
  b : Below w0.heap.size w0 w
  hB : w0.heap.size ≤ B
  hm : w0.heap.size ≤ mb
section
variable {w0 w w' : World} {B p q n c : Nat} {S S' : List Slo} {A : Option Addr} {t ct : Nat} {hds : List Slo} {mb m : Nat} {D : DataW Unit}
theorem Once.le (h : Once w0 w B p q n c S A t ct hds mb m D) : B ≤ w.heap.size := Nat.le_trans h.a.hp (Nat.le_of_lt h.a.plt)
theorem Once.ahead (h : Once w0 w B p q n c S A t ct hds mb m D) : Ahead A w.heap.size := fun b hb => (h.told.lt b (by rw [ownBlock_slice]; exact hb)).2
theorem Seen.ne (h : Seen w mb m D) {b : Nat} {cs : Array Value} {e : TypeId} (hb : w.heap[b]? = some (.cells cs e (0, 0))) : mb ≠ b := by
  obtain ⟨es, clock, hm, _⟩ := h
  rintro rfl
  rw [hm] at hb
  injection hb with hb
  cases hb
theorem Once.below (h : Once w0 w B p q n c S A t ct hds mb m D) (hb : Below w.heap.size w w') : Once w0 w' B p q n c S A t ct hds mb m D :=
  ⟨h.a.below hb, h.told.kept (own_below hb) (own_none _), World.ownsMap.kept h.map (own_below hb) (by simp), h.b.trans (hb.mono h.b.size), h.hB, h.hm⟩
theorem Once.alloc (h : Once w0 w B p q n c S A t ct hds mb m D) (o : Obj) : Once w0 (w.alloc o) B p q n c S A t ct hds mb m D := h.below ((Below.refl _ _).alloc (Nat.le_refl _) o)
theorem Once.drew (h : Once w0 w B p q n c S A t ct hds mb m D) : Once w0 w.drew B p q n c S A t ct hds mb m D := h.below ((Below.refl _ _).drew)
theorem Once.stepA (h : Once w0 w B p q n c S A t ct hds mb m D) (hA : ArAt 57 [] w' B p q n c S') (hg : w.grownBy w' (some q)) : Once w0 w' B p q n c S' A t ct hds mb m D := by
  obtain ⟨cur, hk⟩ := h.a.kind
  refine ⟨hA, h.told.kept hg (told_ne h.told hk (by decide)), World.ownsMap.kept h.map hg (fun e => ?_), h.b.grown hg h.b.size ?_, h.hB, h.hm⟩
  · injection e with e; exact h.map.ne hk e
  · intro k hk; injection hk with hk; have := h.a.qlt; have := h.hB; omega
theorem Once.app {l : List Slo} (h : Once w0 w B p q n c S A t ct hds mb m D) {lit : Obj} (hg : (w.alloc lit).grownBy w' (A.map Addr.block)) {A1 : Option Addr} {t1 c1 : Nat} (ho : w'.ownsRow B 31 2 (.slice A1 t1 c1) t1 (rowH l)) :
    Once w0 w' B p q n c S A1 t1 c1 l mb m D := by
  have h' := h.alloc lit
  obtain ⟨ca, hka⟩ := h'.a.kind
  refine ⟨h'.a.kept hg (ne_of_kinds h'.told h'.a.head (by decide)) (ne_of_kinds h'.told hka (by decide)), ho, World.ownsMap.kept h'.map hg (fun e => ?_), h'.b.grown hg h'.b.size ?_, h.hB, h.hm⟩
  · obtain ⟨cur, hc⟩ := own_kind h'.told e.symm
    exact h'.map.ne hc rfl
  · intro k hk
    have := own_from h'.told k hk
    have := h.hB
    omega
theorem Once.setH {hb : Nat} {cur : Array Value} (h : Once w0 w B p q n c S A t ct hds mb m D) (hk : w.heap[hb]? = some (.cells cur 31 (0, 0))) (ha : A.map Addr.block ≠ some hb) (hB : w0.heap.size ≤ hb) (j : Nat) (v : Value) : Once w0 (w.setCell ⟨hb, j, none⟩ v) B p q n c S A t ct hds mb m D := by
  obtain ⟨ca, hka⟩ := h.a.kind
  refine ⟨h.a.keptSet (kinds_ne hk h.a.head (by decide)) (kinds_ne hk hka (by decide)) v, h.told.kept (grown_setCell w _ v) (.inr (by rw [ownBlock_slice]; exact ha)), World.ownsMap.kept h.map (grown_setCell w _ v) (fun e => ?_), h.b.setCell (p := ⟨hb, j, none⟩) hB v, h.hB, h.hm⟩
  injection e with e
  exact h.map.ne hk e
theorem Once.set2 {hb : Nat} {i g : Int} (h : Once w0 w B p q n c S A t ct hds mb m D) (hk : HBlk w hb i g) (ha : A.map Addr.block ≠ some hb) (hB : w0.heap.size ≤ hb) (i' g' : Int) :
    Once w0 ((w.setCell ⟨hb, 0, none⟩ (.int .i64 i')).setCell ⟨hb, 1, none⟩ (.int .u32 g')) B p q n c S A t ct hds mb m D ∧ HBlk ((w.setCell ⟨hb, 0, none⟩ (.int .i64 i')).setCell ⟨hb, 1, none⟩ (.int .u32 g')) hb i' g' :=
  ⟨(h.setH hk ha hB 0 _).setH (heap_setCell_same w hb 0 _ _ _ hk) ha hB 1 _, (row2_store hk _ _).2.2⟩
theorem Once.app0 {l : List Slo} (h : Once w0 w B p q n c S A t ct hds mb m D) (hg : w.grownBy w' (A.map Addr.block)) {A1 : Option Addr} {t1 c1 : Nat} (ho : w'.ownsRow B 31 2 (.slice A1 t1 c1) t1 (rowH l)) :
    Once w0 w' B p q n c S A1 t1 c1 l mb m D := by
  obtain ⟨ca, hka⟩ := h.a.kind
  refine ⟨h.a.kept hg (ne_of_kinds h.told h.a.head (by decide)) (ne_of_kinds h.told hka (by decide)), ho, World.ownsMap.kept h.map hg (fun e => ?_), h.b.grown hg h.b.size ?_, h.hB, h.hm⟩
  · obtain ⟨cur, hc⟩ := own_kind h.told e.symm
    exact h.map.ne hc rfl
  · intro k hk
    have := own_from h.told k hk
    have := h.hB
    omega
theorem Once.fresh {l : List Slo} (h : Once w0 w B p q n c S A t ct hds mb m D) {A1 : Option Addr} {t1 c1 : Nat} (ho : w.ownsRow B 31 2 (.slice A1 t1 c1) t1 (rowH l)) : Once w0 w B p q n c S A1 t1 c1 l mb m D := ⟨h.a, ho, h.map, h.b, h.hB, h.hm⟩
theorem Once.upd {D' : DataW Unit} {m' : Nat} (h : Once w0 w B p q n c S A t ct hds mb m D) (hm : Seen w' mb m' D') (hg : w.grownBy w' (some mb)) : Once w0 w' B p q n c S A t ct hds mb m' D' := by
  obtain ⟨cur, hk⟩ := h.a.kind
  refine ⟨h.a.kept hg ?_ ?_, h.told.kept hg ?_, hm, h.b.grown hg h.b.size ?_, h.hB, h.hm⟩
  · intro e; injection e with e; exact h.map.ne h.a.head e
  · intro e; injection e with e; exact h.map.ne hk e
  · rw [ownBlock_slice]
    cases hA : A.map Addr.block with
    | none => exact .inl rfl
    | some b =>
      refine .inr fun e => ?_
      injection e with e
      obtain ⟨cur, hc⟩ := own_kind h.told hA
      exact h.map.ne hc e.symm
  · intro k hk; injection hk with hk; have := h.hm; omega
end
theorem HBlk.upd {w w' : World} {hb mb m : Nat} {i g : Int} {D : DataW Unit} (h : HBlk w hb i g) (hm : Seen w mb m D) (hg : w.grownBy w' (some mb)) : HBlk w' hb i g :=
  (hg.block hb (block_lt h) (fun e => by injection e with e; exact hm.ne h e.symm)).trans h

theorem HBlk.app0 {w w' : World} {A : Option Addr} {hb : Nat} {i g : Int} (h : HBlk w hb i g) (hg : w.grownBy w' (A.map Addr.block)) (ha : A.map Addr.block ≠ some hb) : HBlk w' hb i g :=
  (hg.block hb (block_lt h) (fun e => ha e.symm)).trans h
theorem rowH_take (S : List Slo) (k : Nat) : (rowH S).take (k * 2) = rowH (S.take k) := by
  induction S generalizing k with
  | nil => simp [rowH]
  | cons s S ih =>
    cases k with
    | zero => simp [rowH]
    | succ k => rw [rowH_cons, show (k + 1) * 2 = k * 2 + 1 + 1 by omega]; simp only [List.take_succ_cons, rowH_cons, ih]
theorem rowH_drop (S : List Slo) (k : Nat) : (rowH S).drop (k * 2) = rowH (S.drop k) := by
  induction S generalizing k with
  | nil => simp [rowH]
  | cons s S ih =>
    cases k with
    | zero => simp
    | succ k => rw [rowH_cons, show (k + 1) * 2 = k * 2 + 1 + 1 by omega]; simp only [List.drop_succ_cons, ih]
theorem told_cut {w : World} {B g t c K : Nat} {l : List Slo} (ho : w.ownsRow B 31 2 (.slice (some ⟨g, 0, none⟩) t c) t (rowH l)) (hK : K + 1 ≤ t) :
    Rd w (some ⟨g, 0, none⟩) (rowH (l.take K)) ∧ Rd w (some ⟨g, (K + 1) * 2, none⟩) (rowH (l.drop (K + 1))) ∧ (c = K + 1 → Rd w (some ⟨g, 0, none⟩) (rowH (l.drop (K + 1)))) ∧
      (rowH (l.take K)).length = K * 2 ∧ (rowH (l.drop (K + 1))).length = (t - (K + 1)) * 2 := by
  have hr := rd_row ho
  have hl := ho.1
  rw [rowH_length] at hl
  have hc : t ≤ c := by
    rcases ho.2 with ⟨h, _⟩ | ⟨g', cap, cur, h, _, _, h1, _⟩
    · cases h
    · injection h with _ _ h3; omega
  refine ⟨by rw [← rowH_take]; exact hr.take _, ?_, ?_, by rw [rowH_length, List.length_take]; omega, by rw [rowH_length, List.length_drop]; omega⟩
  · rw [← rowH_drop]
    have := hr.drop ((K + 1) * 2)
    rw [Option.map_some, add_lit] at this
    exact this
  · intro hc2
    rw [List.drop_of_length_le (by omega)]
    exact Rd.nil _ _
/-- No handle that a slot will give has been seen. -/
def Uns (D : DataW Unit) (S : List Slo) : Prop := ∀ (k g : Nat) (hk : k < S.length) (kl : Lit), keyOf Try.prog 31 (.agg #[.int .i64 k, .int .u32 g]) = some kl → (S[k].1 < g ∨ (g = S[k].1 ∧ S[k].2 = 0)) →
  D.atKey kl (.lit (.bool false)) = .lit (.bool false)
structure OnceOk (k : Nat) (S hds : List Slo) (D : DataW Unit) : Prop where
  le1 : ∀ s ∈ S, s.2 ≤ 1
  gen : ∀ s ∈ S, s.1 ≤ k + 1
  nodup : hds.Nodup
  live : ∀ h ∈ hds, ∃ hk : h.1 < S.length, S[h.1] = (h.2, 1)
  cnt : hds.length + freeS S = S.length
  uns : Uns D S
theorem freeS_set (S : List Slo) (f : Nat) (hf : f < S.length) (x : Slo) : freeS (S.set f x) + (if S[f].2 = 0 then 1 else 0) = freeS S + (if x.2 = 0 then 1 else 0) := by
  induction S generalizing f with
  | nil => simp at hf
  | cons s S ih =>
    cases f with
    | zero =>
      simp only [freeS, List.set_cons_zero, List.filter_cons, List.getElem_cons_zero, beq_iff_eq]
      by_cases h1 : s.2 = 0 <;> by_cases h2 : x.2 = 0 <;> simp [h1, h2]
    | succ f =>
      have := ih f (by simpa using hf)
      simp only [freeS, List.set_cons_succ, List.filter_cons, List.getElem_cons_succ, beq_iff_eq] at this ⊢
      by_cases h1 : s.2 = 0
      · simp only [h1, if_true, List.length_cons]; omega
      · simp only [h1, if_false]; omega
theorem OnceOk.up {k : Nat} {S hds : List Slo} {D : DataW Unit} (h : OnceOk k S hds D) : OnceOk (k + 1) S hds D := ⟨h.le1, fun s hs => Nat.le_succ_of_le (h.gen s hs), h.nodup, h.live, h.cnt, h.uns⟩
theorem OnceOk.take {k f : Nat} {S hds : List Slo} {D : DataW Unit} (h : OnceOk k S hds D) (hf : f < S.length) (h0 : S[f].2 = 0) {kl : Lit} (hkl : keyOf Try.prog 31 (.agg #[.int .i64 f, .int .u32 S[f].1]) = some kl) :
    OnceOk k (S.set f (S[f].1, 1)) (hds ++ [(f, S[f].1)]) (D.put kl (.lit (.bool true))) := by
  have hlen : (S.set f (S[f].1, 1)).length = S.length := by simp
  have hnew : ∀ x ∈ hds, x.1 ≠ f := by
    intro x hx e
    obtain ⟨hk, hs⟩ := h.live x hx
    subst e
    rw [hs] at h0
    cases h0
  refine ⟨?_, ?_, ?_, ?_, ?_, ?_⟩
  · intro s hs
    rcases List.mem_or_eq_of_mem_set hs with hs | rfl
    · exact h.le1 s hs
    · exact Nat.le_refl _
  · intro s hs
    rcases List.mem_or_eq_of_mem_set hs with hs | rfl
    · exact h.gen s hs
    · exact (h.gen S[f] (List.getElem_mem hf) : S[f].1 ≤ k + 1)
  · rw [List.nodup_append]
    refine ⟨h.nodup, by simp, ?_⟩
    intro x hx y hy e
    simp at hy
    subst hy
    exact hnew x hx (by rw [e])
  · intro x hx
    rcases List.mem_append.1 hx with hx | hx
    · obtain ⟨hk, hs⟩ := h.live x hx
      refine ⟨by rw [hlen]; exact hk, ?_⟩
      rw [List.getElem_set_ne (fun e => hnew x hx e.symm)]
      exact hs
    · simp at hx
      subst hx
      exact ⟨by rw [hlen]; exact hf, by simp⟩
  · have e1 := freeS_set S f hf (S[f].1, 1)
    have e2 := h.cnt
    rw [if_pos h0, if_neg (by simp)] at e1
    rw [List.length_append, List.length_singleton, hlen]
    omega
  · intro k' g hk' kl' hkl' hc
    have hk2 : k' < S.length := by rw [← hlen]; exact hk'
    have hne : kl' ≠ kl := by
      rintro rfl
      have := lawH.inj hkl hkl'
      injection this with this
      simp at this
      obtain ⟨e1, e2⟩ := this
      have e1 : f = k' := by omega
      have e2 : S[f].1 = g := by omega
      subst e1
      simp at hc
      omega
    rw [Go.Maps.atKey_put_other hne]
    refine h.uns k' g hk2 kl' hkl' ?_
    by_cases e : f = k'
    · subst e
      simp at hc
      left; omega
    · rw [List.getElem_set_ne e] at hc
      exact hc
theorem OnceOk.drop {k K : Nat} {S hds : List Slo} {D : DataW Unit} (h : OnceOk k S hds D) (hK : K < hds.length) (hk80 : k ≤ 80) :
    ∃ hs : hds[K].1 < S.length, S[hds[K].1] = (hds[K].2, 1) ∧ OnceOk (k + 1) (S.set hds[K].1 (hds[K].2 + 1, 0)) (hds.take K ++ hds.drop (K + 1)) D := by
  obtain ⟨hs, he⟩ := h.live _ (List.getElem_mem hK)
  refine ⟨hs, he, ?_⟩
  have hlen : (S.set hds[K].1 (hds[K].2 + 1, 0)).length = S.length := by simp
  have hgen : hds[K].2 ≤ k + 1 := by have := h.gen _ (List.getElem_mem hs); rw [he] at this; exact this
  have herase : hds.take K ++ hds.drop (K + 1) = hds.eraseIdx K := (List.eraseIdx_eq_take_drop_succ hds K).symm
  have hother : ∀ x ∈ hds.eraseIdx K, x ∈ hds ∧ x.1 ≠ hds[K].1 := by
    intro x hx
    have hm := List.mem_of_mem_eraseIdx hx
    refine ⟨hm, fun e => ?_⟩
    obtain ⟨hk1, h1⟩ := h.live x hm
    have hxe : x = hds[K] := by
      have : S[x.1] = S[hds[K].1] := by congr 1
      rw [h1, he] at this
      exact Prod.ext e (by simpa using this)
    rw [List.mem_eraseIdx_iff_getElem] at hx
    obtain ⟨j, hj, hjK, hje⟩ := hx
    have hp := List.pairwise_iff_getElem.1 h.nodup
    rcases Nat.lt_or_gt_of_ne hjK with hl | hl
    · exact hp j K hj hK hl (hje.trans hxe)
    · exact hp K j hK hj hl (hje.trans hxe).symm
  rw [herase]
  refine ⟨?_, ?_, ?_, ?_, ?_, ?_⟩
  · intro s hs
    rcases List.mem_or_eq_of_mem_set hs with hs | rfl
    · exact h.le1 s hs
    · exact Nat.zero_le _
  · intro s hs
    rcases List.mem_or_eq_of_mem_set hs with hs | rfl
    · have := h.gen s hs; omega
    · show hds[K].2 + 1 ≤ k + 1 + 1
      omega
  · exact h.nodup.sublist (List.eraseIdx_sublist _ _)
  · intro x hx
    obtain ⟨hm, hne⟩ := hother x hx
    obtain ⟨hk1, h1⟩ := h.live x hm
    refine ⟨by rw [hlen]; exact hk1, ?_⟩
    rw [List.getElem_set_ne (fun e => hne e.symm)]
    exact h1
  · have e1 := freeS_set S hds[K].1 hs (hds[K].2 + 1, 0)
    have e2 := h.cnt
    rw [he, if_neg (by simp), if_pos (by rfl)] at e1
    rw [List.length_eraseIdx_of_lt hK, hlen]
    omega
  · intro k' g hk' kl' hkl' hc
    have hk2 : k' < S.length := by rw [← hlen]; exact hk'
    refine h.uns k' g hk2 kl' hkl' ?_
    by_cases e : hds[K].1 = k'
    · subst e
      simp at hc
      left
      rw [he]
      show hds[K].2 < g
      omega
    · rw [List.getElem_set_ne e] at hc
      exact hc
end Go.Proofs.Ytfmojphbjhedgaa
