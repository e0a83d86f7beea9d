/-
A statement whose order Go leaves open: operations that only look and calls that only look, ahead of one forced tail; one operation of the tail that looks at no memory is taken first.
Over any program; no function of the program is spoken of.
A statement whose order Go leaves open: loads that may come behind the making of a literal may be held to come ahead of it. Over any program; no function of the program is spoken of.
-/
import Derived.Test.YtknlkmencdlpcaaReg
import Derived.StillTail
import Derived.StillTactics
namespace Go.Proofs.Ytknlkmencdlpcaa
set_option linter.unusedVariables false
set_option linter.unusedSimpArgs false
open Go

theorem clean_normal {Q : Exit → Act → World → Prop} {a : Act} {w : World} (h : Q .normal a w) : Clean Q .normal a w := h
section
variable {P : Program} {ops : Array Oper} {md : Region.Mode} {w : World}
def chainE (md : Region.Mode) (ops : Array Oper) (n k : Nat) : Bool :=
  (List.range ops.size).all fun t => decide (t ≤ n) || (decide (t = k) || (List.range t).any fun s => decide (n ≤ s) && (decide (s ≠ k) && Region.waitsFor md ops t s))
structure HeadE (md : Region.Mode) (ops : Array Oper) (n k : Nat) (listed : Array Bool) : Prop where
  size : listed.size = ops.size
  closed : ∀ j oj, ops[j]? = some oj → listed.getD j false = true → ∀ e ∈ oj.after, Region.binds md e = true → listed.getD e.on false = true
  tail : ∀ t, n ≤ t → t < ops.size → t ≠ k → listed.getD t true = false
  kk : listed.getD k true = true
theorem HeadE.set {n k i : Nat} {listed : Array Bool} (inv : HeadE md ops n k listed) (hi : i ∈ Region.ready md ops listed) (hin : i < n) : HeadE md ops n k (listed.setIfInBounds i true) := by
  obtain ⟨_, oi, hoi, hall⟩ := mem_ready.1 hi
  refine ⟨by simp [inv.size], fun j oj hj hl e he hb => ?_, fun t ht ht' hk => by rw [getD_set_ne true (by omega)]; exact inv.tail t ht ht' hk, ?_⟩
  · by_cases hij : i = j
    · subst hij
      have : oj = oi := Option.some.inj (hj.symm.trans hoi)
      subst this
      exact getD_set_true (hall e he hb)
    · rw [getD_set_ne false hij] at hl
      exact getD_set_true (inv.closed j oj hj hl e he hb)
  · by_cases hik : i = k
    · subst hik
      have := (mem_ready.1 hi).1
      rw [inv.kk] at this; cases this
    · rw [getD_set_ne true hik]; exact inv.kk
theorem tailE_waits {n k : Nat} {listed : Array Bool} (hs : Region.sinkB md ops n = true) (hc : chainE md ops n k = true) (hn : n < ops.size) (inv : HeadE md ops n k listed) :
    ∀ (d i : Nat), n - i = d → i < n → listed.getD i true = false → ∀ t, n ≤ t → t ∉ Region.ready md ops listed := by
  intro d
  induction d using Nat.strongRecOn with
  | _ d ih =>
    intro i hd hi hun t ht hr
    obtain ⟨hut, ot, hot, hall⟩ := mem_ready.1 hr
    have htlt : t < ops.size := (Array.getElem?_eq_some_iff.1 hot).1
    by_cases htn : t = n
    · subst htn
      have h1 := List.all_eq_true.1 hs i (List.mem_range.2 hi)
      obtain ⟨j, hj, hj2⟩ := List.any_eq_true.1 h1
      simp only [Bool.and_eq_true, decide_eq_true_eq] at hj2
      obtain ⟨oj, hoj, e, he, hb, hon⟩ := Region.waitsFor_spec hj2.2
      have hjle : j ≤ t := by have := List.mem_range.1 hj; omega
      by_cases hjt : j = t
      · subst hjt
        have : oj = ot := Option.some.inj (hoj.symm.trans hot)
        subst this
        have h2 := hall e he hb
        rw [hon, getD_both hun] at h2
        cases h2
      · cases hl : listed.getD j false with
        | true =>
          have h2 := inv.closed j oj hoj hl e he hb
          rw [hon, getD_both hun] at h2
          cases h2
        | false =>
          have hjs : j < listed.size := by rw [inv.size]; omega
          exact ih (t - j) (by omega) j rfl (by omega) (getD_in hjs hl) t (Nat.le_refl _) hr
    · by_cases htk : t = k
      · subst htk
        rw [inv.kk] at hut; cases hut
      · have h1 := List.all_eq_true.1 hc t (List.mem_range.2 htlt)
        simp only [Bool.or_eq_true, decide_eq_true_eq] at h1
        rcases h1 with h1 | h1 | h1
        · omega
        · exact htk h1
        · obtain ⟨s, hs', h2⟩ := List.any_eq_true.1 h1
          simp only [Bool.and_eq_true, decide_eq_true_eq] at h2
          obtain ⟨h3, h4, h5⟩ := h2
          obtain ⟨o', ho', e, he, hb, hon⟩ := Region.waitsFor_spec h5
          have : o' = ot := Option.some.inj (ho'.symm.trans hot)
          subst this
          have h6 := hall e he hb
          have hst : s < t := List.mem_range.1 hs'
          rw [hon, getD_both (inv.tail s h3 (by omega) h4)] at h6
          cases h6
theorem wpAnyL_firstE {n k i : Nat} {oi : Oper} {v : Value} {L : Array Bool → Act → Prop} (hi : ops[i]? = some oi) (hsel : ∀ (j : Nat) (o : Oper) cs b, ops[j]? = some o → o.op ≠ .select cs b)
    (hs : Region.sinkB md ops n = true) (hc : chainE md ops n k = true) (hn : n < ops.size) (hin : i < n)
    (hdone : ∀ listed a, L listed a → ∀ j ∈ Region.ready md ops listed, n ≤ j) :
    ∀ (f : Nat) (listed : Array Bool) (a : Act), HeadE md ops n k listed →
      (∀ j oj, ops[j]? = some oj → j ≠ i → listed.getD j true = false → (∀ e ∈ oj.after, Region.binds md e = true → e.on ≠ i) → oi.apart ops oj = true) →
      i ∈ Region.ready md ops listed → Go.YieldsAt P ops w oi v a →
      wpAnyL P md ops w n L f (listed.setIfInBounds i true) (a.put oi.dst v) → wpAnyL P md ops w n L (f + 1) listed a := by
  intro f
  induction f with
  | zero =>
    intro listed a inv _ hr hy H
    have hun := (mem_ready.1 hr).1
    refine ⟨fun h => (by rw [h] at hr; cases hr), fun j hj => ?_⟩
    have hjn : j < n := by
      rcases Nat.lt_or_ge j n with h | h
      · exact h
      · exact absurd hj (tailE_waits hs hc hn inv _ i rfl hin hun j h)
    refine ⟨hjn, ?_⟩
    by_cases hji : j = i
    · subst hji; exact hy.stOp hi H
    · have := hdone _ _ H j (ready_mono hj hji)
      omega
  | succ f ih =>
    intro listed a inv hfree hr hy H
    have hun := (mem_ready.1 hr).1
    refine ⟨fun h => (by rw [h] at hr; cases hr), fun j hj => ?_⟩
    have hjn : j < n := by
      rcases Nat.lt_or_ge j n with h | h
      · exact h
      · exact absurd hj (tailE_waits hs hc hn inv _ i rfl hin hun j h)
    refine ⟨hjn, ?_⟩
    by_cases hji : j = i
    · subst hji; exact hy.stOp hi H
    · have h1 := (H.2 j (ready_mono hj hji)).2
      obtain ⟨hjun, oj, hoj, hall⟩ := mem_ready.1 hj
      have hnot : ∀ e ∈ oj.after, Region.binds md e = true → e.on ≠ i := fun e he hb heq => by
        have h1 := hall e he hb
        rw [heq, getD_both hun] at h1
        cases h1
      have h2 := stOp_put hoj (hfree j oj hoj hji hjun hnot) (fun cs b => hsel i oi cs b hi) (fun cs b => hsel j oj cs b hoj) hy h1
      have hfree' : ∀ k ok, ops[k]? = some ok → k ≠ i → (listed.setIfInBounds j true).getD k true = false →
          (∀ e ∈ ok.after, Region.binds md e = true → e.on ≠ i) → oi.apart ops ok = true := fun k ok hk hki hun hno => by
        refine hfree k ok hk hki ?_ hno
        by_cases hjk : j = k
        · subst hjk; exact hjun
        · rw [getD_set_ne true hjk] at hun; exact hun
      refine stOp_mono (fun a' h3 => ih (listed.setIfInBounds j true) a' (inv.set hj hjn) hfree' (ready_mono hr (Ne.symm hji)) h3.1 ?_) h2
      rw [Array.setIfInBounds_comm _ _ hji]
      exact h3.2
def seqL (md : Region.Mode) (ops : Array Oper) : List Nat → Array Bool → Bool
  | [], listed => (Region.ready md ops listed).isEmpty
  | j :: js, listed => decide (Region.ready md ops listed = [j]) && seqL md ops js (listed.setIfInBounds j true)
theorem seqL_ready {n : Nat} {js : List Nat} {listed : Array Bool} (hn : js.all (fun j => decide (n ≤ j)) = true) (h : seqL md ops js listed = true) : ∀ j ∈ Region.ready md ops listed, n ≤ j := by
  cases js with
  | nil => intro j hj; simp only [seqL, List.isEmpty_iff] at h; rw [h] at hj; cases hj
  | cons k js =>
    intro j hj
    simp only [seqL, Bool.and_eq_true, decide_eq_true_eq] at h
    rw [h.1] at hj
    have : j = k := by simpa using hj
    subst this
    simp only [List.all_cons, Bool.and_eq_true, decide_eq_true_eq] at hn
    exact hn.1
theorem wpAny_of_seqL {Q' : Exit → Act → World → Prop} : ∀ (js : List Nat) (listed : Array Bool) (a : Act) (w : World), (∀ j ∈ js, j < ops.size) →
    seqL md ops js listed = true → wpList P ops Q' (js.filterMap (ops[·]?)) a w → wpAny P md ops Q' js.length listed a w
  | [], _, _, _, _, hB, h => ⟨by simpa [seqL] using hB, h⟩
  | j :: js, listed, a, w, hl, hB, h => by
    have hj : j < ops.size := hl j (by simp)
    have h0 : ops[j]? = some ops[j] := Array.getElem?_eq_getElem hj
    simp only [seqL, Bool.and_eq_true, decide_eq_true_eq] at hB
    simp only [List.filterMap_cons, h0] at h
    refine ⟨fun h1 => (by rw [hB.1] at h1; cases h1), fun i hi => ?_⟩
    rw [hB.1] at hi
    have hik : i = j := by simpa using hi
    subst hik
    have hw : wpOp P ops Q' i (wpList P ops Q' (js.filterMap (ops[·]?))) a w := by unfold wpOp; simp only [h0]; exact h
    exact wpOp_mono (fun a' w' h' => wpAny_of_seqL js _ a' w' (fun k hk => hl k (by simp [hk])) hB.2 h') hw
def lexHeadE (md : Region.Mode) (ops : Array Oper) (js : List Nat) : Nat → Nat → Array Bool → Bool
  | 0, _, listed => seqL md ops js listed
  | f + 1, k, listed => (Region.ready md ops listed).contains k && (Region.free md ops listed k && lexHeadE md ops js f (k + 1) (listed.setIfInBounds k true))
theorem wpAnyL_lexE {n k0 : Nat} {js : List Nat} {Lq : Act → Prop} (hsel : Region.noSelect ops = true) (hs : Region.sinkB md ops n = true) (hc : chainE md ops n k0 = true) (hn : n < ops.size) (hjs : js.all (fun j => decide (n ≤ j)) = true) :
    ∀ (l : List Oper) (k : Nat) (listed : Array Bool) (a : Act), (∀ j, j < l.length → l[j]? = ops[k + j]?) → k + l.length = n → HeadE md ops n k0 listed →
    lexHeadE md ops js l.length k listed = true → wpStill P ops w Lq l a →
    wpAnyL P md ops w n (fun listed' a' => seqL md ops js listed' = true ∧ Lq a') l.length listed a
  | [], k, listed, a, _, hk, _, hB, h => ⟨by simpa [lexHeadE] using hB, h⟩
  | o :: l, k, listed, a, hl, hk, inv, hB, h => by
    have h0 : ops[k]? = some o := by simpa using (hl 0 (by simp)).symm
    simp only [List.length_cons, lexHeadE, Bool.and_eq_true] at hB
    obtain ⟨hr, hf, hB'⟩ := hB
    have hkn : k < n := by simp only [List.length_cons] at hk; omega
    have hr' : k ∈ Region.ready md ops listed := by simpa using hr
    have hst : stOp P ops w k (wpStill P ops w Lq l) a := by unfold stOp; simp only [h0]; exact h
    obtain ⟨v, hy, hK⟩ := yieldsAt_of_stOp h0 hst
    exact wpAnyL_firstE h0 (Region.noSelect_spec hsel) hs hc hn hkn (fun listed' a' hL => seqL_ready hjs hL.1) l.length listed a inv (Region.free_spec h0 hf) hr' hy
      (wpAnyL_lexE hsel hs hc hn hjs l (k + 1) _ _ (fun j hj => by have := hl (j + 1) (by simp; omega); simpa [Nat.add_assoc, Nat.add_comm 1 j] using this) (by simp only [List.length_cons] at hk; omega) (inv.set hr' hkn) hB' hK)
theorem yields_still_wi {o : Oper} {v : Value} {a : Act} (hwi : WI P o) (h : Go.YieldsAt P ops w o v a) : Yields P ops o v a := by
  rcases h with ⟨hw, h | ⟨h, _⟩ | ⟨f, args, h, _⟩⟩ | ⟨hw, rfl⟩
  · obtain ⟨v', h1, h2⟩ := hwi _ _ _ _ h
    injection h1 with h1; subst h1
    exact .inl ⟨hw, h2⟩
  · obtain ⟨v', h1, _⟩ := hwi _ _ _ _ h
    cases h1
  · obtain ⟨v', h1, _⟩ := hwi _ _ _ _ h
    cases h1
  · exact .inr ⟨hw, rfl⟩
/-- May the statement be walked so: operation k first, then the first n, then js in their order? -/
def tailWi (P : Program) (ops : Array Oper) (n k : Nat) (js : List Nat) : Bool :=
  Region.noSelect ops && (decide (n < ops.size) && (decide (n < k) && (decide (k < ops.size) && (Region.sinkB .any ops n && (chainE .any ops n k && (js.all (fun j => decide (n ≤ j)) && (js.all (fun j => decide (j < ops.size)) &&
    (decide (n + (js.length + 1) = ops.size) && ((match ops[k]? with | some o => wiB P o && o.after.all (fun e => !Region.binds .any e) | none => false) && (Region.free .any ops (Array.replicate ops.size false) k &&
      lexHeadE .any ops js n 0 ((Array.replicate ops.size false).setIfInBounds k true)))))))))))
theorem any_tail_wi {Q : Exit → Act → World → Prop} {a : Act} {lt : List Oper} (n k : Nat) (js : List Nat) (o : Oper) (hB : tailWi P ops n k js = true) (hk : ops[k]? = some o) (hlt : lt.length = n) (hget : ∀ j, j < n → lt[j]? = ops[j]?)
    (h : wpStill P ops w (fun a' => wpList P ops (Clean Q) (js.filterMap (ops[·]?)) a' w) (o :: lt) a) : wpAny P .any ops (Clean Q) ops.size (Array.replicate ops.size false) a w := by
  simp only [tailWi, Bool.and_eq_true, decide_eq_true_eq] at hB
  obtain ⟨hsel, hn, hnk, hks, hs, hc, hjn, hjs, hsz, hko, hfree, hlex⟩ := hB
  have hko' : ops[k]? = some o := hk
  rw [hko'] at hko
  simp only [Bool.and_eq_true] at hko
  obtain ⟨hwi, hafter⟩ := hko
  have hst : stOp P ops w k (wpStill P ops w (fun a' => wpList P ops (Clean Q) (js.filterMap (ops[·]?)) a' w) lt) a := by
    unfold stOp; simp only [hko']; exact h
  obtain ⟨v, hy, hK⟩ := yieldsAt_of_stOp hko' hst
  have hyy := yields_still_wi (wiB_sound P hwi) hy
  have hrep : ∀ j d, j < ops.size → (Array.replicate ops.size false).getD j d = false := fun j d hj => by simp at hj ⊢; simp [hj]
  have hready : (Region.ready .any ops (Array.replicate ops.size false)).contains k = true := by
    have : k ∈ Region.ready .any ops (Array.replicate ops.size false) := mem_ready.2 ⟨hrep k true hks, o, hko', fun e he hb => by
      have := Array.all_eq_true_iff_forall_mem.1 hafter e he
      rw [hb] at this; cases this⟩
    simpa using this
  have inv0 : HeadE .any ops n k ((Array.replicate ops.size false).setIfInBounds k true) := by
    refine ⟨by simp, fun j oj hj hl e he hb => ?_, fun t ht ht' htk => by rw [getD_set_ne true (Ne.symm htk)]; exact hrep t true ht', ?_⟩
    · by_cases hjk : k = j
      · subst hjk
        have : oj = o := Option.some.inj (hj.symm.trans hko')
        subst this
        have := Array.all_eq_true_iff_forall_mem.1 hafter e he
        rw [hb] at this; cases this
      · rw [getD_set_ne false hjk, getD_replicate_false] at hl
        cases hl
    · simp [hks]
  have H := wpAnyL_lexE (md := .any) (w := w) (Lq := fun a' => wpList P ops (Clean Q) (js.filterMap (ops[·]?)) a' w) hsel hs hc hn hjn lt 0 _ (a.put o.dst v) (fun j hj => by
    have hj' : j < n := by rw [hlt] at hj; exact hj
    rw [Nat.zero_add]; exact hget j hj') (by simpa using hlt) inv0 (by rw [hlt]; exact hlex) hK
  have H2 := wpAny_of_head (Q' := Clean Q) (g := js.length) (fun listed a' hL => wpAny_of_seqL (md := .any) (Q' := Clean Q) js listed a' w (fun j hj => of_decide_eq_true (List.all_eq_true.1 hjs j hj)) hL.1 hL.2) _ _ _ H
  rw [hlt] at H2
  have H3 := wpAny_take (Q := Clean Q) (fuel := n + js.length) hko' hsel hfree hready (fun c a w h => (h : False).elim) hyy H2
  rw [show n + js.length + 1 = ops.size by omega] at H3
  exact H3
theorem still_tail_wi {id : Nat} {Q : Exit → Act → World → Prop} {a : Act} {l : List Oper} (n k : Nat) (js : List Nat) (o : Oper) (hm : P.follows .mixedOrders = true) (hB : tailWi P l.toArray n k js = true) (hk : l[k]? = some o)
    (h : wpStill P l.toArray w.drew (fun a' => wpList P l.toArray (Clean Q) (js.filterMap (l.toArray[·]?)) a' w.drew) (o :: l.take n) a) : (Code.region id l.toArray true).wp P Q a w := by
  have hn : n < l.length := by
    simp only [tailWi, Bool.and_eq_true, decide_eq_true_eq] at hB
    have := hB.2.1
    simpa using this
  refine Code.wp_mono Clean.imp (wp_region_any hm ?_)
  exact any_tail_wi n k js o hB (by simpa using hk) (by simp; omega) (fun j hj => by simp [hj]) h
end
end Go.Proofs.Ytknlkmencdlpcaa

namespace Go.Proofs.Ytknlkmencdlpcaa
set_option linter.unusedVariables false
set_option linter.unusedSimpArgs false
open Go

/-- The same statement, but operation n waits for these too. -/
def addAfter (ops : Array Oper) (n : Nat) (es : Array Edge) : Array Oper := ops.modify n fun o => { o with after := o.after ++ es }
theorem addAfter_get (ops : Array Oper) (n : Nat) (es : Array Edge) (j : Nat) : (addAfter ops n es)[j]? = (ops[j]?).map fun o => if j = n then { o with after := o.after ++ es } else o := by
  unfold addAfter
  rw [Array.getElem?_modify]
  by_cases h : n = j
  · rw [if_pos h]; simp [h]
  · rw [if_neg h]
    have : ¬ j = n := fun e => h e.symm
    simp [this]
theorem if_neg_map {x : Option Oper} {j n : Nat} {f : Oper → Oper} (h : ¬ j = n) : (x.map fun o => if j = n then f o else o) = x := by
  cases x <;> simp [h]
theorem addAfter_size (ops : Array Oper) (n : Nat) (es : Array Edge) : (addAfter ops n es).size = ops.size := by simp [addAfter]
section
variable {P : Program} {ops : Array Oper} {Q : Exit → Act → World → Prop} {md : Region.Mode} {n : Nat} {es : Array Edge}
theorem yielded_add (tmps : Array Value) : yielded (addAfter ops n es) tmps = yielded ops tmps := by
  funext j
  unfold yielded
  rw [addAfter_get]
  cases h : ops[j]? with
  | none => rfl
  | some o =>
    have e : (if j = n then { o with after := o.after ++ es } else o).dst = o.dst := by split <;> rfl
    simp only [Option.map_some, Option.bind_some, e]
theorem wpOp_add {j : Nat} {K : Act → World → Prop} {a : Act} {w : World} : wpOp P (addAfter ops n es) Q j K a w = wpOp P ops Q j K a w := by
  unfold wpOp
  rw [addAfter_get, yielded_add]
  cases h : ops[j]? with
  | none => rfl
  | some o =>
    simp only [Option.map_some]
    by_cases hj : j = n
    · rw [if_pos hj]
      rfl
    · rw [if_neg hj]
theorem ready_add {j : Nat} {listed : Array Bool} : j ∈ Region.ready md (addAfter ops n es) listed ↔ j ∈ Region.ready md ops listed ∧ (j = n → ∀ e ∈ es, Region.binds md e = true → listed.getD e.on false = true) := by
  rw [mem_ready, mem_ready]
  constructor
  · rintro ⟨h1, o, ho, hall⟩
    rw [addAfter_get] at ho
    cases hj : ops[j]? with
    | none => rw [hj] at ho; cases ho
    | some o' =>
      rw [hj] at ho
      simp only [Option.map_some, Option.some.injEq] at ho
      by_cases hjn : j = n
      · rw [if_pos hjn] at ho
        subst ho
        exact ⟨⟨h1, o', rfl, fun e he hb => hall e (Array.mem_append.2 (.inl he)) hb⟩, fun _ e he hb => hall e (Array.mem_append.2 (.inr he)) hb⟩
      · rw [if_neg hjn] at ho
        subst ho
        exact ⟨⟨h1, o', rfl, hall⟩, fun h => absurd h hjn⟩
  · rintro ⟨⟨h1, o', ho, hall⟩, hx⟩
    refine ⟨h1, _, by rw [addAfter_get, ho]; rfl, ?_⟩
    by_cases hjn : j = n
    · simp only [hjn, if_true]
      intro e he hb
      rcases Array.mem_append.1 he with h | h
      · exact hall e h hb
      · exact hx hjn e h hb
    · simp only [hjn, if_false]
      exact hall
structure Shut (md : Region.Mode) (ops : Array Oper) (listed : Array Bool) : Prop where
  size : listed.size = ops.size
  closed : ∀ j oj, ops[j]? = some oj → listed.getD j false = true → ∀ e ∈ oj.after, Region.binds md e = true → listed.getD e.on false = true
theorem Shut.set {i : Nat} {listed : Array Bool} (h : Shut md ops listed) (hi : i ∈ Region.ready md ops listed) : Shut md ops (listed.setIfInBounds i true) := by
  obtain ⟨_, oi, hoi, hall⟩ := mem_ready.1 hi
  refine ⟨by simp [h.size], fun j oj hj hl e he hb => ?_⟩
  by_cases hij : i = j
  · subst hij
    have : oj = oi := Option.some.inj (hj.symm.trans hoi)
    subst this
    exact getD_set_true (hall e he hb)
  · rw [getD_set_ne false hij] at hl
    exact getD_set_true (h.closed j oj hj hl e he hb)
theorem getD_or {listed : Array Bool} {j : Nat} (h : j < listed.size) : listed.getD j false = listed.getD j true := by simp [h]
/-- What has to hold of the late operations S (in order, all ahead of n), and of those (U) that may be ready beside n. -/
def lateB (P : Program) (calmB : Oper → Bool) (md : Region.Mode) (ops : Array Oper) (n : Nat) (S U : List Nat) (m : Nat) : Bool :=
  Region.noSelect ops && decide (n < ops.size) && S.contains m && S.all (fun i => decide (i < n) && decide (i ≤ m)) && U.all (fun i => decide (n ≤ i)) &&
  (List.range n).all (fun i => S.contains i || (List.range (n + 1)).any fun j => decide (i < j) && (!S.contains j && Region.waitsFor md ops j i)) &&
  S.all (fun i => ((ops[i]?).map fun o => stayB P o && calmB o && o.after.all fun e => !Region.binds md e || decide (e.on < i)).getD false) &&
  S.all (fun j => S.all fun i => decide (j ≤ i) || Region.waitsFor md ops j i) &&
  (List.range ops.size).all (fun t => decide (t < n) || U.contains t || Region.waitsFor md ops t m || (List.range t).any fun s => decide (n ≤ s) && (!U.contains s && Region.waitsFor md ops t s)) &&
  S.all (fun i => U.all fun j => ((ops[i]?).bind fun oi => (ops[j]?).map fun oj => (calmB oj || makesB oj) && oi.apart ops oj).getD true)
theorem wpAny_add {calmB : Oper → Bool} (hcalm : ∀ o, calmB o = true → Calm P o) {S U : List Nat} {m : Nat} (hes : ∀ e ∈ es, e.on ∈ S) (hB : lateB P calmB md ops n S U m = true) :
    ∀ (fuel : Nat) (listed : Array Bool) (a : Act) (w : World), Shut md ops listed → wpAny P md (addAfter ops n es) (Clean Q) fuel listed a w → wpAny P md ops (Clean Q) fuel listed a w := by
  simp only [lateB, Bool.and_eq_true, decide_eq_true_eq, List.all_eq_true, List.mem_range, Bool.or_eq_true, List.contains_eq_mem, List.any_eq_true, Bool.not_eq_true', decide_eq_false_iff_not] at hB
  obtain ⟨⟨⟨⟨⟨⟨⟨⟨⟨hsel, hn⟩, hmS⟩, hSn⟩, hUn⟩, hsink⟩, hSo⟩, hSch⟩, htail⟩, hap⟩ := hB
  -- where n is ready all ahead of it but S is listed
  have known : ∀ listed, Shut md ops listed → n ∈ Region.ready md ops listed → ∀ d i, n - i = d → i < n → i ∉ S → listed.getD i false = true := by
    intro listed inv hr d
    induction d using Nat.strongRecOn with
    | _ d ih =>
      intro i hd hi hiS
      rcases hsink i hi with h | ⟨j, hj, hij, hjS, hw⟩
      · exact absurd h hiS
      obtain ⟨oj, hoj, e, he, hb, hon⟩ := Region.waitsFor_spec hw
      by_cases hjn : j = n
      · subst hjn
        obtain ⟨_, o', ho', hall⟩ := mem_ready.1 hr
        have : oj = o' := Option.some.inj (hoj.symm.trans ho')
        subst this
        rw [← hon]; exact hall e he hb
      · have hl := ih (n - j) (by omega) j rfl (by omega) hjS
        rw [← hon]; exact inv.closed j oj hoj hl e he hb
  -- where m is not listed nothing behind n is, but U
  have behind : ∀ listed, Shut md ops listed → listed.getD m false = false → ∀ t, n ≤ t → t < ops.size → t ∉ U → listed.getD t false = false := by
    intro listed inv hm t
    induction t using Nat.strongRecOn with
    | _ t ih =>
      intro hnt hts htU
      cases hl : listed.getD t false
      · rfl
      · exfalso
        rcases htail t hts with ((h | h) | h) | ⟨s, hs, hns, hsU, hw⟩
        · omega
        · exact htU h
        · obtain ⟨ot, hot, e, he, hb, hon⟩ := Region.waitsFor_spec h
          have := inv.closed t ot hot hl e he hb
          rw [hon, hm] at this; cases this
        · obtain ⟨ot, hot, e, he, hb, hon⟩ := Region.waitsFor_spec hw
          have := inv.closed t ot hot hl e he hb
          rw [hon, ih s hs hns (by omega) hsU] at this; cases this
  -- the first of S that is not listed
  have first : ∀ listed : Array Bool, (∃ i ∈ S, listed.getD i false = false) → ∃ i ∈ S, listed.getD i false = false ∧ ∀ k ∈ S, k < i → listed.getD k false = true := by
    intro listed
    have key : ∀ d, (∃ i ∈ S, i ≤ d ∧ listed.getD i false = false) → ∃ i ∈ S, listed.getD i false = false ∧ ∀ k ∈ S, k < i → listed.getD k false = true := by
      intro d
      induction d with
      | zero => rintro ⟨i, hi, hid, hl⟩; exact ⟨i, hi, hl, fun k hk hki => by omega⟩
      | succ d ih =>
        rintro ⟨i, hi, hid, hl⟩
        by_cases hex : ∃ k ∈ S, k ≤ d ∧ listed.getD k false = false
        · exact ih hex
        · refine ⟨i, hi, hl, fun k hk hki => ?_⟩
          cases hk2 : listed.getD k false
          · exact absurd ⟨k, hk, by omega, hk2⟩ hex
          · rfl
    rintro ⟨i, hi, hl⟩
    exact key i ⟨i, hi, Nat.le_refl _, hl⟩
  -- the late one may be taken
  have late : ∀ (listed : Array Bool), Shut md ops listed → n ∈ Region.ready md ops listed → n ∉ Region.ready md (addAfter ops n es) listed → ∃ i, i ∈ Region.ready md (addAfter ops n es) listed ∧ i ∈ Region.ready md ops listed ∧ ∃ oi, ops[i]? = some oi ∧ Calm P oi ∧
      ∀ (fuel : Nat) (v : Value) (a : Act) (w : World), YieldsAt P ops oi v a w → wpAny P md ops (Clean Q) fuel (listed.setIfInBounds i true) (a.put oi.dst v) w → wpAny P md ops (Clean Q) (fuel + 1) listed a w := by
    intro listed inv hr hr'
    have hex : ∃ i ∈ S, listed.getD i false = false := by
      apply Classical.byContradiction
      intro hno
      apply hr'
      refine ready_add.2 ⟨hr, fun _ e he hb => ?_⟩
      cases hl : listed.getD e.on false
      · exact absurd ⟨e.on, hes e he, hl⟩ hno
      · rfl
    obtain ⟨i, hiS, hil, hmin⟩ := first listed hex
    obtain ⟨hin, him⟩ := hSn i hiS
    have hio : i < ops.size := by omega
    have hi0 : ops[i]? = some ops[i] := Array.getElem?_eq_getElem hio
    have h1 := hSo i hiS
    rw [hi0] at h1
    simp only [Option.map_some, Option.getD_some, Bool.and_eq_true] at h1
    obtain ⟨⟨hst, hca⟩, hdep⟩ := h1
    have hlt : i < listed.size := by rw [inv.size]; exact hio
    have hil' : listed.getD i true = false := by rw [← getD_or hlt]; exact hil
    have hready : i ∈ Region.ready md ops listed := mem_ready.2 ⟨hil', _, hi0, fun e he hb => by
      have h2 := Array.all_eq_true_iff_forall_mem.1 hdep e he
      rw [hb] at h2
      have h3 : e.on < i := by simpa using h2
      by_cases heS : e.on ∈ S
      · exact hmin _ heS h3
      · exact known listed inv hr (n - e.on) e.on rfl (by omega) heS⟩
    have hml : listed.getD m false = false := by
      by_cases e : i = m
      · rw [← e]; exact hil
      · cases hl : listed.getD m false
        · rfl
        · rcases hSch m hmS i hiS with h | h
          · omega
          · obtain ⟨ot, hot, e', he, hb, hon⟩ := Region.waitsFor_spec h
            have := inv.closed m ot hot hl e' he hb
            rw [hon, hil] at this; cases this
    refine ⟨i, ready_add.2 ⟨hready, fun h => by omega⟩, hready, _, hi0, hcalm _ hca, fun fuel v a w hy H => ?_⟩
    have hiU : i ∉ U := fun h => by have := hUn i h; omega
    refine wpAny_mild hi0 (stayB_sound P _ hst) (fun j o cs b ho => Region.noSelect_spec hsel j o cs b ho) listed (fun k => decide (k ∈ U)) ?_ ?_ (by simp [hiU]) hil' inv.size fuel listed a w inv.size (fun k hk => .inl hk) (fun k hk => hk) hready hy H
    · intro j oj hj hji hLj he
      have hjs : j < ops.size := (Array.getElem?_eq_some_iff.1 hj).1
      have hLj' := getD_both hLj
      simp only [decide_eq_true_eq]
      by_cases hjn : j < n
      · exfalso
        by_cases hjS : j ∈ S
        · have hij : i < j := by
            rcases Nat.lt_trichotomy i j with h | h | h
            · exact h
            · exact absurd h.symm hji
            · have := hmin j hjS h; rw [hLj'] at this; cases this
          rcases hSch j hjS i hiS with h | h
          · omega
          · obtain ⟨o', ho', e, hem, hb, hon⟩ := Region.waitsFor_spec h
            have : oj = o' := Option.some.inj (hj.symm.trans ho')
            subst this
            rcases he e hem hb with h2 | h2
            · rw [hon, hil] at h2; cases h2
            · rw [hon] at h2; simp [hiU] at h2
        · have := known listed inv hr (n - j) j rfl hjn hjS
          rw [hLj'] at this; cases this
      · apply Classical.byContradiction
        intro hjU
        rcases htail j hjs with ((h | h) | h) | ⟨s, hs, hns, hsU, hw⟩
        · omega
        · exact hjU h
        · obtain ⟨o', ho', e, hem, hb, hon⟩ := Region.waitsFor_spec h
          have : oj = o' := Option.some.inj (hj.symm.trans ho')
          subst this
          rcases he e hem hb with h2 | h2
          · rw [hon, hml] at h2; cases h2
          · rw [hon] at h2
            have := hUn m (by simpa using h2)
            have := (hSn m hmS).1
            omega
        · obtain ⟨o', ho', e, hem, hb, hon⟩ := Region.waitsFor_spec hw
          have : oj = o' := Option.some.inj (hj.symm.trans ho')
          subst this
          rcases he e hem hb with h2 | h2
          · rw [hon, behind listed inv hml s hns (by omega) hsU] at h2; cases h2
          · rw [hon] at h2; exact hsU (by simpa using h2)
    · intro j oj hj hu
      have hjU : j ∈ U := by simpa using hu
      have h2 := hap i hiS j hjU
      rw [hi0, hj] at h2
      simp only [Option.bind_some, Option.map_some, Option.getD_some, Bool.and_eq_true, Bool.or_eq_true] at h2
      exact ⟨by rcases h2.1 with h | h; exact (hcalm _ h).mild; exact makesB_sound P _ h, h2.2⟩
  intro fuel
  induction fuel with
  | zero =>
    intro listed a w inv H
    have hnil : Region.ready md ops listed = [] := by
      apply List.eq_nil_iff_forall_not_mem.2
      intro j hj
      by_cases hj' : j ∈ Region.ready md (addAfter ops n es) listed
      · rw [H.1] at hj'; cases hj'
      · by_cases hjn : j = n
        · subst hjn
          obtain ⟨i, hi', _⟩ := late listed inv hj hj'
          rw [H.1] at hi'; cases hi'
        · exact hj' (ready_add.2 ⟨hj, fun h => absurd h hjn⟩)
    exact ⟨hnil, H.2⟩
  | succ fuel ih =>
    intro listed a w inv H
    by_cases hcase : n ∈ Region.ready md ops listed ∧ n ∉ Region.ready md (addAfter ops n es) listed
    · obtain ⟨i, hi', hi, oi, hoi, hc, htake⟩ := late listed inv hcase.1 hcase.2
      have h1 := H.2 i hi'
      rw [wpOp_add] at h1
      obtain ⟨v, w1, hv, hw1, hK⟩ := mild_step hoi hc.mild h1
      have hy : YieldsAt P ops oi v a w ∧ w1 = w := by
        rcases hv with ⟨hw, hr⟩ | ⟨hw, rfl, rfl⟩
        · have := (hc _ _ _ _ hr).1
          subst this
          exact ⟨.inl ⟨hw, hr⟩, rfl⟩
        · exact ⟨.inr ⟨hw, rfl⟩, rfl⟩
      obtain ⟨hy, rfl⟩ := hy
      exact htake fuel v a _ hy (ih _ _ _ (inv.set hi) hK)
    · have hsame : ∀ j, j ∈ Region.ready md ops listed → j ∈ Region.ready md (addAfter ops n es) listed := fun j hj => by
        by_cases hjn : j = n
        · subst hjn
          apply Classical.byContradiction
          intro h
          exact hcase ⟨hj, h⟩
        · exact ready_add.2 ⟨hj, fun h => absurd h hjn⟩
      refine ⟨fun h => H.1 ?_, fun j hj => ?_⟩
      · apply List.eq_nil_iff_forall_not_mem.2
        intro j hj
        have := (ready_add.1 hj).1
        rw [h] at this; cases this
      · have h1 := H.2 j (hsame j hj)
        rw [wpOp_add] at h1
        exact wpOp_mono (fun a' w' h2 => ih _ a' w' (inv.set hj) h2) h1
theorem wpList_add : ∀ l : List Oper, wpList P (addAfter ops n es) Q l = wpList P ops Q l
  | [] => rfl
  | o :: rest => by funext a w; simp only [wpList, yielded_add, wpList_add rest]
theorem wpStill_add {w : World} {K : Act → Prop} : ∀ l : List Oper, wpStill P (addAfter ops n es) w K l = wpStill P ops w K l
  | [] => rfl
  | o :: rest => by funext a; simp only [wpStill, yielded_add, wpStill_add rest]
theorem wpList_pick : ∀ js : List Nat, wpList P ops Q (js.filterMap ((addAfter ops n es)[·]?)) = wpList P ops Q (js.filterMap (ops[·]?))
  | [] => rfl
  | j :: js => by
    have ih := wpList_pick js
    have hg := addAfter_get ops n es j
    cases h : ops[j]? with
    | none =>
      rw [h] at hg
      simp only [List.filterMap_cons, hg, h, Option.map_none]
      exact ih
    | some o =>
      rw [h] at hg
      simp only [List.filterMap_cons, hg, h, Option.map_some]
      funext a w
      simp only [wpList, ih]
      by_cases hj : j = n
      · rw [if_pos hj]; rfl
      · rw [if_neg hj]
theorem still_tail_late {id : Nat} {a : Act} {w : World} {l : List Oper} (n k : Nat) (js S U : List Nat) (m : Nat) (es : Array Edge) (o : Oper) (hm : P.follows .mixedOrders = true) (hB : tailWi P (addAfter l.toArray n es) n k js = true)
    (hL : lateB P (calmB P) .any l.toArray n S U m = true) (hes : es.all (fun e => S.contains e.on) = true) (hkn : k ≠ n) (hk : l[k]? = some o)
    (h : wpStill P l.toArray w.drew (fun a' => wpList P l.toArray (Clean Q) (js.filterMap (l.toArray[·]?)) a' w.drew) (o :: l.take n) a) : (Code.region id l.toArray true).wp P Q a w := by
  have hn : n < l.length := by
    simp only [lateB, Bool.and_eq_true, decide_eq_true_eq] at hL
    have := hL.1.1.1.1.1.1.1.1.2
    simpa using this
  have hes' : ∀ e ∈ es, e.on ∈ S := fun e he => by
    have := Array.all_eq_true_iff_forall_mem.1 hes e he
    simpa using this
  refine Code.wp_mono Clean.imp (wp_region_any hm ?_)
  refine wpAny_add (es := es) (fun o h => calmB_sound P o h) hes' hL _ _ _ _ ⟨by simp, fun j oj _ hl => ?_⟩ ?_
  · rw [getD_replicate_false] at hl; cases hl
  have key := any_tail_wi (Q := Q) (w := w.drew) (a := a) (lt := l.take n) n k js o hB (by rw [addAfter_get, if_neg_map hkn]; simpa using hk) (by simp; omega) (fun j hj => by rw [addAfter_get, if_neg_map (by omega)]; simp [hj]) (by
    rw [wpStill_add]
    have e : (fun a' => wpList P (addAfter l.toArray n es) (Clean Q) (js.filterMap ((addAfter l.toArray n es)[·]?)) a' w.drew) = fun a' => wpList P l.toArray (Clean Q) (js.filterMap (l.toArray[·]?)) a' w.drew := by
      rw [wpList_add, wpList_pick]
    rw [e]
    exact h)
  rw [addAfter_size] at key
  exact key
def stripO (o : Oper) : Oper := { o with after := #[] }
theorem wpList_strip : ∀ l l' : List Oper, l.map stripO = l'.map stripO → wpList P ops Q l = wpList P ops Q l'
  | [], [], _ => rfl
  | [], _ :: _, h => by cases h
  | _ :: _, [], h => by cases h
  | o :: l, o' :: l', h => by
    simp only [List.map_cons, List.cons.injEq] at h
    have ih := wpList_strip l l' h.2
    obtain ⟨d, op, t, p, af, g⟩ := o
    obtain ⟨d', op', t', p', af', g'⟩ := o'
    have h1 := h.1
    simp only [stripO, Oper.mk.injEq] at h1
    obtain ⟨rfl, rfl, rfl, rfl, _, rfl⟩ := h1
    funext a w
    simp only [wpList, ih]
    rfl
theorem any_tail {a : Act} {w : World} {lt ld : List Oper} (n : Nat) (hB : Region.lexTailB .any ops n = true) (hlt : lt.length = n) (hget : ∀ j, j < n → lt[j]? = ops[j]?) (hld : ∀ j, ld[j]? = ops[n + j]?) (hdl : ld.length = ops.size - n)
    (h : wpStill P ops w (fun a' => wpList P ops Q ld a' w) lt a) : wpAny P .any ops Q ops.size (Array.replicate ops.size false) a w := by
  simp only [Region.lexTailB, Bool.and_eq_true, decide_eq_true_eq] at hB
  obtain ⟨⟨⟨⟨hsel, hn⟩, hs⟩, hc⟩, hlex⟩ := hB
  have inv0 : HeadInv .any ops n (Array.replicate ops.size false) :=
    ⟨by simp, fun j oj _ hl => (by rw [getD_replicate_false] at hl; cases hl), fun t _ ht => getD_in (by simpa using ht) (getD_replicate_false _ _)⟩
  have H := wpAnyL_lex (md := .any) (g := ops.size - n) hsel hs hc hn lt 0 _ a (fun j hj => by rw [Nat.zero_add]; exact hget j (by omega)) (by simpa using hlt) inv0 (by rw [hlt]; exact hlex) h
  have := wpAny_of_head (Q' := Q) (g := ops.size - n) (fun listed a' hL => by
    have := wpAny_of_seq (md := .any) (Q' := Q) ld n listed a' w hld (by rw [hdl]; exact hL.1) hL.2
    rwa [hdl] at this) _ _ _ H
  rw [hlt, show n + (ops.size - n) = ops.size by omega] at this
  exact this
theorem addAfter_strip (l : List Oper) (n : Nat) (es : Array Edge) : (addAfter l.toArray n es).toList.map stripO = l.map stripO := by
  apply List.ext_getElem?
  intro j
  rw [List.getElem?_map, List.getElem?_map, Array.getElem?_toList, addAfter_get, List.getElem?_toArray]
  cases l[j]? with
  | none => rfl
  | some o =>
    simp only [Option.map_some]
    split <;> rfl
/-- Reads, calls that only look, then one forced tail; the loads S may come behind the tail's first operation. -/
theorem still_late {id : Nat} {a : Act} {w : World} {l : List Oper} (n : Nat) (S U : List Nat) (m : Nat) (es : Array Edge) (hm : P.follows .mixedOrders = true) (hB : Region.lexTailB .any (addAfter l.toArray n es) n = true)
    (hL : lateB P (calmB P) .any l.toArray n S U m = true) (hes : es.all (fun e => S.contains e.on) = true)
    (h : wpStill P l.toArray w.drew (fun a' => wpList P l.toArray (Clean Q) (l.drop n) a' w.drew) (l.take n) a) : (Code.region id l.toArray true).wp P Q a w := by
  have hn : n < l.length := by
    simp only [lateB, Bool.and_eq_true, decide_eq_true_eq] at hL
    have := hL.1.1.1.1.1.1.1.1.2
    simpa using this
  have hes' : ∀ e ∈ es, e.on ∈ S := fun e he => by
    have := Array.all_eq_true_iff_forall_mem.1 hes e he
    simpa using this
  refine Code.wp_mono Clean.imp (wp_region_any hm ?_)
  refine wpAny_add (es := es) (fun o h => calmB_sound P o h) hes' hL _ _ _ _ ⟨by simp, fun j oj _ hl => ?_⟩ ?_
  · rw [getD_replicate_false] at hl; cases hl
  have hld : ((addAfter l.toArray n es).toList.drop n).map stripO = (l.drop n).map stripO := by rw [List.map_drop, addAfter_strip, List.map_drop]
  have key := any_tail (ops := addAfter l.toArray n es) (Q := Clean Q) (w := w.drew) (a := a) (lt := l.take n) (ld := (addAfter l.toArray n es).toList.drop n) n hB (by simp; omega) (fun j hj => by rw [addAfter_get, if_neg_map (by omega)]; simp [hj]) (fun j => by rw [List.getElem?_drop, Array.getElem?_toList]) (by rw [List.length_drop, Array.length_toList]) (by
    rw [wpStill_add]
    have e : (fun a' => wpList P (addAfter l.toArray n es) (Clean Q) ((addAfter l.toArray n es).toList.drop n) a' w.drew) = fun a' => wpList P l.toArray (Clean Q) (l.drop n) a' w.drew := by
      rw [wpList_add, wpList_strip _ _ hld]
    rw [e]
    exact h)
  rw [addAfter_size] at key
  exact key
end
end Go.Proofs.Ytknlkmencdlpcaa
