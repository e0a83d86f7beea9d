/-
A statement whose order Go leaves open: operations that only look and calls that only look, ahead of one forced tail; one operation of the tail that looks at no memory is taken first.
Over any program; no function of the program is spoken of.
-/
import Derived.Test.YtaomdinddccpeaaReg
import Derived.StillTail
import Derived.StillTactics
namespace Go.Proofs.Ytaomdinddccpeaa
set_option linter.unusedVariables false
set_option linter.unusedSimpArgs false
open Go

theorem clean_normal {Q : Exit → Act → World → Prop} {a : Act} {w : World} (h : Q .normal a w) : Clean Q .normal a w := h
section
variable {P : Program} {ops : Array Oper} {md : Region.Mode} {w : World}
def chainE (md : Region.Mode) (ops : Array Oper) (n k : Nat) : Bool :=
  (List.range ops.size).all fun t => decide (t ≤ n) || (decide (t = k) || (List.range t).any fun s => decide (n ≤ s) && (decide (s ≠ k) && Region.waitsFor md ops t s))
structure HeadE (md : Region.Mode) (ops : Array Oper) (n k : Nat) (listed : Array Bool) : Prop where
  size : listed.size = ops.size
  closed : ∀ j oj, ops[j]? = some oj → listed.getD j false = true → ∀ e ∈ oj.after, Region.binds md e = true → listed.getD e.on false = true
  tail : ∀ t, n ≤ t → t < ops.size → t ≠ k → listed.getD t true = false
  kk : listed.getD k true = true
theorem HeadE.set {n k i : Nat} {listed : Array Bool} (inv : HeadE md ops n k listed) (hi : i ∈ Region.ready md ops listed) (hin : i < n) : HeadE md ops n k (listed.setIfInBounds i true) := by
  obtain ⟨_, oi, hoi, hall⟩ := mem_ready.1 hi
  refine ⟨by simp [inv.size], fun j oj hj hl e he hb => ?_, fun t ht ht' hk => by rw [getD_set_ne true (by omega)]; exact inv.tail t ht ht' hk, ?_⟩
  · by_cases hij : i = j
    · subst hij
      have : oj = oi := Option.some.inj (hj.symm.trans hoi)
      subst this
      exact getD_set_true (hall e he hb)
    · rw [getD_set_ne false hij] at hl
      exact getD_set_true (inv.closed j oj hj hl e he hb)
  · by_cases hik : i = k
    · subst hik
      have := (mem_ready.1 hi).1
      rw [inv.kk] at this; cases this
    · rw [getD_set_ne true hik]; exact inv.kk
theorem tailE_waits {n k : Nat} {listed : Array Bool} (hs : Region.sinkB md ops n = true) (hc : chainE md ops n k = true) (hn : n < ops.size) (inv : HeadE md ops n k listed) :
    ∀ (d i : Nat), n - i = d → i < n → listed.getD i true = false → ∀ t, n ≤ t → t ∉ Region.ready md ops listed := by
  intro d
  induction d using Nat.strongRecOn with
  | _ d ih =>
    intro i hd hi hun t ht hr
    obtain ⟨hut, ot, hot, hall⟩ := mem_ready.1 hr
    have htlt : t < ops.size := (Array.getElem?_eq_some_iff.1 hot).1
    by_cases htn : t = n
    · subst htn
      have h1 := List.all_eq_true.1 hs i (List.mem_range.2 hi)
      obtain ⟨j, hj, hj2⟩ := List.any_eq_true.1 h1
      simp only [Bool.and_eq_true, decide_eq_true_eq] at hj2
      obtain ⟨oj, hoj, e, he, hb, hon⟩ := Region.waitsFor_spec hj2.2
      have hjle : j ≤ t := by have := List.mem_range.1 hj; omega
      by_cases hjt : j = t
      · subst hjt
        have : oj = ot := Option.some.inj (hoj.symm.trans hot)
        subst this
        have h2 := hall e he hb
        rw [hon, getD_both hun] at h2
        cases h2
      · cases hl : listed.getD j false with
        | true =>
          have h2 := inv.closed j oj hoj hl e he hb
          rw [hon, getD_both hun] at h2
          cases h2
        | false =>
          have hjs : j < listed.size := by rw [inv.size]; omega
          exact ih (t - j) (by omega) j rfl (by omega) (getD_in hjs hl) t (Nat.le_refl _) hr
    · by_cases htk : t = k
      · subst htk
        rw [inv.kk] at hut; cases hut
      · have h1 := List.all_eq_true.1 hc t (List.mem_range.2 htlt)
        simp only [Bool.or_eq_true, decide_eq_true_eq] at h1
        rcases h1 with h1 | h1 | h1
        · omega
        · exact htk h1
        · obtain ⟨s, hs', h2⟩ := List.any_eq_true.1 h1
          simp only [Bool.and_eq_true, decide_eq_true_eq] at h2
          obtain ⟨h3, h4, h5⟩ := h2
          obtain ⟨o', ho', e, he, hb, hon⟩ := Region.waitsFor_spec h5
          have : o' = ot := Option.some.inj (ho'.symm.trans hot)
          subst this
          have h6 := hall e he hb
          have hst : s < t := List.mem_range.1 hs'
          rw [hon, getD_both (inv.tail s h3 (by omega) h4)] at h6
          cases h6
theorem wpAnyL_firstE {n k i : Nat} {oi : Oper} {v : Value} {L : Array Bool → Act → Prop} (hi : ops[i]? = some oi) (hsel : ∀ (j : Nat) (o : Oper) cs b, ops[j]? = some o → o.op ≠ .select cs b)
    (hs : Region.sinkB md ops n = true) (hc : chainE md ops n k = true) (hn : n < ops.size) (hin : i < n)
    (hdone : ∀ listed a, L listed a → ∀ j ∈ Region.ready md ops listed, n ≤ j) :
    ∀ (f : Nat) (listed : Array Bool) (a : Act), HeadE md ops n k listed →
      (∀ j oj, ops[j]? = some oj → j ≠ i → listed.getD j true = false → (∀ e ∈ oj.after, Region.binds md e = true → e.on ≠ i) → oi.apart ops oj = true) →
      i ∈ Region.ready md ops listed → Go.YieldsAt P ops w oi v a →
      wpAnyL P md ops w n L f (listed.setIfInBounds i true) (a.put oi.dst v) → wpAnyL P md ops w n L (f + 1) listed a := by
  intro f
  induction f with
  | zero =>
    intro listed a inv _ hr hy H
    have hun := (mem_ready.1 hr).1
    refine ⟨fun h => (by rw [h] at hr; cases hr), fun j hj => ?_⟩
    have hjn : j < n := by
      rcases Nat.lt_or_ge j n with h | h
      · exact h
      · exact absurd hj (tailE_waits hs hc hn inv _ i rfl hin hun j h)
    refine ⟨hjn, ?_⟩
    by_cases hji : j = i
    · subst hji; exact hy.stOp hi H
    · have := hdone _ _ H j (ready_mono hj hji)
      omega
  | succ f ih =>
    intro listed a inv hfree hr hy H
    have hun := (mem_ready.1 hr).1
    refine ⟨fun h => (by rw [h] at hr; cases hr), fun j hj => ?_⟩
    have hjn : j < n := by
      rcases Nat.lt_or_ge j n with h | h
      · exact h
      · exact absurd hj (tailE_waits hs hc hn inv _ i rfl hin hun j h)
    refine ⟨hjn, ?_⟩
    by_cases hji : j = i
    · subst hji; exact hy.stOp hi H
    · have h1 := (H.2 j (ready_mono hj hji)).2
      obtain ⟨hjun, oj, hoj, hall⟩ := mem_ready.1 hj
      have hnot : ∀ e ∈ oj.after, Region.binds md e = true → e.on ≠ i := fun e he hb heq => by
        have h1 := hall e he hb
        rw [heq, getD_both hun] at h1
        cases h1
      have h2 := stOp_put hoj (hfree j oj hoj hji hjun hnot) (fun cs b => hsel i oi cs b hi) (fun cs b => hsel j oj cs b hoj) hy h1
      have hfree' : ∀ k ok, ops[k]? = some ok → k ≠ i → (listed.setIfInBounds j true).getD k true = false →
          (∀ e ∈ ok.after, Region.binds md e = true → e.on ≠ i) → oi.apart ops ok = true := fun k ok hk hki hun hno => by
        refine hfree k ok hk hki ?_ hno
        by_cases hjk : j = k
        · subst hjk; exact hjun
        · rw [getD_set_ne true hjk] at hun; exact hun
      refine stOp_mono (fun a' h3 => ih (listed.setIfInBounds j true) a' (inv.set hj hjn) hfree' (ready_mono hr (Ne.symm hji)) h3.1 ?_) h2
      rw [Array.setIfInBounds_comm _ _ hji]
      exact h3.2
def seqL (md : Region.Mode) (ops : Array Oper) : List Nat → Array Bool → Bool
  | [], listed => (Region.ready md ops listed).isEmpty
  | j :: js, listed => decide (Region.ready md ops listed = [j]) && seqL md ops js (listed.setIfInBounds j true)
theorem seqL_ready {n : Nat} {js : List Nat} {listed : Array Bool} (hn : js.all (fun j => decide (n ≤ j)) = true) (h : seqL md ops js listed = true) : ∀ j ∈ Region.ready md ops listed, n ≤ j := by
  cases js with
  | nil => intro j hj; simp only [seqL, List.isEmpty_iff] at h; rw [h] at hj; cases hj
  | cons k js =>
    intro j hj
    simp only [seqL, Bool.and_eq_true, decide_eq_true_eq] at h
    rw [h.1] at hj
    have : j = k := by simpa using hj
    subst this
    simp only [List.all_cons, Bool.and_eq_true, decide_eq_true_eq] at hn
    exact hn.1
theorem wpAny_of_seqL {Q' : Exit → Act → World → Prop} : ∀ (js : List Nat) (listed : Array Bool) (a : Act) (w : World), (∀ j ∈ js, j < ops.size) →
    seqL md ops js listed = true → wpList P ops Q' (js.filterMap (ops[·]?)) a w → wpAny P md ops Q' js.length listed a w
  | [], _, _, _, _, hB, h => ⟨by simpa [seqL] using hB, h⟩
  | j :: js, listed, a, w, hl, hB, h => by
    have hj : j < ops.size := hl j (by simp)
    have h0 : ops[j]? = some ops[j] := Array.getElem?_eq_getElem hj
    simp only [seqL, Bool.and_eq_true, decide_eq_true_eq] at hB
    simp only [List.filterMap_cons, h0] at h
    refine ⟨fun h1 => (by rw [hB.1] at h1; cases h1), fun i hi => ?_⟩
    rw [hB.1] at hi
    have hik : i = j := by simpa using hi
    subst hik
    have hw : wpOp P ops Q' i (wpList P ops Q' (js.filterMap (ops[·]?))) a w := by unfold wpOp; simp only [h0]; exact h
    exact wpOp_mono (fun a' w' h' => wpAny_of_seqL js _ a' w' (fun k hk => hl k (by simp [hk])) hB.2 h') hw
def lexHeadE (md : Region.Mode) (ops : Array Oper) (js : List Nat) : Nat → Nat → Array Bool → Bool
  | 0, _, listed => seqL md ops js listed
  | f + 1, k, listed => (Region.ready md ops listed).contains k && (Region.free md ops listed k && lexHeadE md ops js f (k + 1) (listed.setIfInBounds k true))
theorem wpAnyL_lexE {n k0 : Nat} {js : List Nat} {Lq : Act → Prop} (hsel : Region.noSelect ops = true) (hs : Region.sinkB md ops n = true) (hc : chainE md ops n k0 = true) (hn : n < ops.size) (hjs : js.all (fun j => decide (n ≤ j)) = true) :
    ∀ (l : List Oper) (k : Nat) (listed : Array Bool) (a : Act), (∀ j, j < l.length → l[j]? = ops[k + j]?) → k + l.length = n → HeadE md ops n k0 listed →
    lexHeadE md ops js l.length k listed = true → wpStill P ops w Lq l a →
    wpAnyL P md ops w n (fun listed' a' => seqL md ops js listed' = true ∧ Lq a') l.length listed a
  | [], k, listed, a, _, hk, _, hB, h => ⟨by simpa [lexHeadE] using hB, h⟩
  | o :: l, k, listed, a, hl, hk, inv, hB, h => by
    have h0 : ops[k]? = some o := by simpa using (hl 0 (by simp)).symm
    simp only [List.length_cons, lexHeadE, Bool.and_eq_true] at hB
    obtain ⟨hr, hf, hB'⟩ := hB
    have hkn : k < n := by simp only [List.length_cons] at hk; omega
    have hr' : k ∈ Region.ready md ops listed := by simpa using hr
    have hst : stOp P ops w k (wpStill P ops w Lq l) a := by unfold stOp; simp only [h0]; exact h
    obtain ⟨v, hy, hK⟩ := yieldsAt_of_stOp h0 hst
    exact wpAnyL_firstE h0 (Region.noSelect_spec hsel) hs hc hn hkn (fun listed' a' hL => seqL_ready hjs hL.1) l.length listed a inv (Region.free_spec h0 hf) hr' hy
      (wpAnyL_lexE hsel hs hc hn hjs l (k + 1) _ _ (fun j hj => by have := hl (j + 1) (by simp; omega); simpa [Nat.add_assoc, Nat.add_comm 1 j] using this) (by simp only [List.length_cons] at hk; omega) (inv.set hr' hkn) hB' hK)
theorem yields_still_wi {o : Oper} {v : Value} {a : Act} (hwi : WI P o) (h : Go.YieldsAt P ops w o v a) : Yields P ops o v a := by
  rcases h with ⟨hw, h | ⟨h, _⟩ | ⟨f, args, h, _⟩⟩ | ⟨hw, rfl⟩
  · obtain ⟨v', h1, h2⟩ := hwi _ _ _ _ h
    injection h1 with h1; subst h1
    exact .inl ⟨hw, h2⟩
  · obtain ⟨v', h1, _⟩ := hwi _ _ _ _ h
    cases h1
  · obtain ⟨v', h1, _⟩ := hwi _ _ _ _ h
    cases h1
  · exact .inr ⟨hw, rfl⟩
/-- May the statement be walked so: operation k first, then the first n, then js in their order? -/
def tailWi (P : Program) (ops : Array Oper) (n k : Nat) (js : List Nat) : Bool :=
  Region.noSelect ops && (decide (n < ops.size) && (decide (n < k) && (decide (k < ops.size) && (Region.sinkB .any ops n && (chainE .any ops n k && (js.all (fun j => decide (n ≤ j)) && (js.all (fun j => decide (j < ops.size)) &&
    (decide (n + (js.length + 1) = ops.size) && ((match ops[k]? with | some o => wiB P o && o.after.all (fun e => !Region.binds .any e) | none => false) && (Region.free .any ops (Array.replicate ops.size false) k &&
      lexHeadE .any ops js n 0 ((Array.replicate ops.size false).setIfInBounds k true)))))))))))
theorem any_tail_wi {Q : Exit → Act → World → Prop} {a : Act} {lt : List Oper} (n k : Nat) (js : List Nat) (o : Oper) (hB : tailWi P ops n k js = true) (hk : ops[k]? = some o) (hlt : lt.length = n) (hget : ∀ j, j < n → lt[j]? = ops[j]?)
    (h : wpStill P ops w (fun a' => wpList P ops (Clean Q) (js.filterMap (ops[·]?)) a' w) (o :: lt) a) : wpAny P .any ops (Clean Q) ops.size (Array.replicate ops.size false) a w := by
  simp only [tailWi, Bool.and_eq_true, decide_eq_true_eq] at hB
  obtain ⟨hsel, hn, hnk, hks, hs, hc, hjn, hjs, hsz, hko, hfree, hlex⟩ := hB
  have hko' : ops[k]? = some o := hk
  rw [hko'] at hko
  simp only [Bool.and_eq_true] at hko
  obtain ⟨hwi, hafter⟩ := hko
  have hst : stOp P ops w k (wpStill P ops w (fun a' => wpList P ops (Clean Q) (js.filterMap (ops[·]?)) a' w) lt) a := by
    unfold stOp; simp only [hko']; exact h
  obtain ⟨v, hy, hK⟩ := yieldsAt_of_stOp hko' hst
  have hyy := yields_still_wi (wiB_sound P hwi) hy
  have hrep : ∀ j d, j < ops.size → (Array.replicate ops.size false).getD j d = false := fun j d hj => by simp at hj ⊢; simp [hj]
  have hready : (Region.ready .any ops (Array.replicate ops.size false)).contains k = true := by
    have : k ∈ Region.ready .any ops (Array.replicate ops.size false) := mem_ready.2 ⟨hrep k true hks, o, hko', fun e he hb => by
      have := Array.all_eq_true_iff_forall_mem.1 hafter e he
      rw [hb] at this; cases this⟩
    simpa using this
  have inv0 : HeadE .any ops n k ((Array.replicate ops.size false).setIfInBounds k true) := by
    refine ⟨by simp, fun j oj hj hl e he hb => ?_, fun t ht ht' htk => by rw [getD_set_ne true (Ne.symm htk)]; exact hrep t true ht', ?_⟩
    · by_cases hjk : k = j
      · subst hjk
        have : oj = o := Option.some.inj (hj.symm.trans hko')
        subst this
        have := Array.all_eq_true_iff_forall_mem.1 hafter e he
        rw [hb] at this; cases this
      · rw [getD_set_ne false hjk, getD_replicate_false] at hl
        cases hl
    · simp [hks]
  have H := wpAnyL_lexE (md := .any) (w := w) (Lq := fun a' => wpList P ops (Clean Q) (js.filterMap (ops[·]?)) a' w) hsel hs hc hn hjn lt 0 _ (a.put o.dst v) (fun j hj => by
    have hj' : j < n := by rw [hlt] at hj; exact hj
    rw [Nat.zero_add]; exact hget j hj') (by simpa using hlt) inv0 (by rw [hlt]; exact hlex) hK
  have H2 := wpAny_of_head (Q' := Clean Q) (g := js.length) (fun listed a' hL => wpAny_of_seqL (md := .any) (Q' := Clean Q) js listed a' w (fun j hj => of_decide_eq_true (List.all_eq_true.1 hjs j hj)) hL.1 hL.2) _ _ _ H
  rw [hlt] at H2
  have H3 := wpAny_take (Q := Clean Q) (fuel := n + js.length) hko' hsel hfree hready (fun c a w h => (h : False).elim) hyy H2
  rw [show n + js.length + 1 = ops.size by omega] at H3
  exact H3
theorem still_tail_wi {id : Nat} {Q : Exit → Act → World → Prop} {a : Act} {l : List Oper} (n k : Nat) (js : List Nat) (o : Oper) (hm : P.follows .mixedOrders = true) (hB : tailWi P l.toArray n k js = true) (hk : l[k]? = some o)
    (h : wpStill P l.toArray w.drew (fun a' => wpList P l.toArray (Clean Q) (js.filterMap (l.toArray[·]?)) a' w.drew) (o :: l.take n) a) : (Code.region id l.toArray true).wp P Q a w := by
  have hn : n < l.length := by
    simp only [tailWi, Bool.and_eq_true, decide_eq_true_eq] at hB
    have := hB.2.1
    simpa using this
  refine Code.wp_mono Clean.imp (wp_region_any hm ?_)
  exact any_tail_wi n k js o hB (by simpa using hk) (by simp; omega) (fun j hj => by simp [hj]) h
end
end Go.Proofs.Ytaomdinddccpeaa
