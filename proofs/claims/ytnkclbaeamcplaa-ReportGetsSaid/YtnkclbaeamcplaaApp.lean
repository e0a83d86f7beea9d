/-
The builtin append onto a row of the call's own, from a source that reads as a list (nil or not), and by zeros; make of a row of zeros. Over any program.
-/
import Derived.Test.YtnkclbaeamcplaaMem
import Derived.Laws.MakeOwn
import Derived.RegionTactic
namespace Go.Proofs.Ytnkclbaeamcplaa
set_option linter.unusedVariables false
set_option linter.unusedSimpArgs false
open Go Go.RowKit

/-- t is a slice type whose elements (type e) have so many cells and bytes and this zero. -/
def SliceT (P : Program) (t e : TypeId) (z : Value) (size bytes : Nat) : Prop :=
  P.underlying t = some (.slice e) ∧ z.cells.size = size ∧ 0 < size ∧ 0 < bytes ∧ ∃ i, P.info? e = some i ∧ i.zero = some z ∧ i.size = size ∧ i.bytes = bytes
theorem sliceT_of {P : Program} {t e : TypeId} {z : Value} {size bytes : Nat} (ht : P.underlying t = some (.slice e)) (hi : (P.info? e).map (fun i => (i.zero, i.size, i.bytes)) = some (some z, size, bytes))
    (hz : z.cells.size = size) (h0 : 0 < size) (h1 : 0 < bytes) : SliceT P t e z size bytes := by
  obtain ⟨i, hi, a, b, c⟩ := info_parts hi
  exact ⟨ht, hz, h0, h1, i, hi, a, b, c⟩

theorem ownBlock_slice (A : Option Addr) (n c : Nat) : (Value.slice A n c).ownBlock = A.map Addr.block := by cases A <;> rfl
theorem own_from {w : World} {base : Nat} {e : TypeId} {size : Nat} {A : Option Addr} {n c : Nat} {xs : List Value} (h : w.ownsRow base e size (.slice A n c) n xs) : ∀ k, A.map Addr.block = some k → base ≤ k :=
  fun k hk => (h.lt k (by rw [ownBlock_slice]; exact hk)).1
theorem own_slice {w : World} {base : Nat} {e : TypeId} {size : Nat} {v : Value} {n : Nat} {xs : List Value} (h : w.ownsRow base e size v n xs) : ∃ A c, v = .slice A n c := by
  rcases h.2 with ⟨rfl, rfl⟩ | ⟨g, cap, cur, rfl, _⟩
  · exact ⟨_, _, rfl⟩
  · exact ⟨_, _, rfl⟩
theorem map_block_inj {A : Option Addr} {w : World} {base : Nat} {e : TypeId} {size n c : Nat} {xs : List Value} (h : w.ownsRow base e size (.slice A n c) n xs) (b : Nat) (hb : A.map Addr.block = some b) : A = some ⟨b, 0, none⟩ := by
  rcases h.2 with ⟨h', _⟩ | ⟨g, cap, cur, h', _⟩
  · injection h' with h'; subst h'; simp at hb
  · injection h' with h'; subst h'; simp at hb; subst hb; rfl

section
variable {P : Program} {t e : TypeId} {z : Value} {size bytes : Nat}

theorem run_app (hT : SliceT P t e z size bytes) (w : World) (ty : TypeId) (base : Nat) (A : Option Addr) (n c : Nat) (xs : List Value) (hown : w.ownsRow base e size (.slice A n c) n xs)
    (X : Option Addr) (m d : Nat) (news : List Value) (hl : news.length = m * size) (hr : Rd w X news) (h1 : ∀ u ∈ news, u.oneCell' = true)
    (hb : (n + m) * bytes ≤ 140737488355328) (hbase : base ≤ w.heap.size) :
    ∃ A' c' w', (Builtin.append_ #[t, t] ty #[.slice A n c, .slice X m d]).run P w = .ok (.slice A' (n + m) c') w' ∧ w'.ownsRow base e size (.slice A' (n + m) c') (n + m) (xs ++ news) ∧
      w.grownBy w' (A.map Addr.block) ∧ (A' = A ∨ A' = some ⟨w.heap.size, 0, none⟩) := by
  obtain ⟨ht, hzs, hsz, hby, i, hi, hz, hs, hbt⟩ := hT
  have h63 : n + m ≤ maxLen := by
    have : (n + m) * 1 ≤ (n + m) * bytes := Nat.mul_le_mul_left _ hby
    simp only [maxLen]; omega
  rcases X with _ | ad
  · have hn : news = [] := by
      rcases news with _ | ⟨x, l⟩
      · rfl
      · obtain ⟨ad, h, _⟩ := hr 0 x rfl
        cases h
    subst hn
    have hm : m = 0 := by
      rcases Nat.eq_zero_or_pos m with h | h
      · exact h
      · have : 0 < m * size := Nat.mul_pos h hsz
        simp at hl; omega
    subst hm
    refine ⟨A, c, w, ?_, by simpa using hown, by exact World.grownBy.refl _ _, .inl rfl⟩
    rcases hown.2 with ⟨h, h0⟩ | ⟨g, cap, cur, h, _, _, hnc, _⟩
    · injection h with hA hn hc; subst hA; subst hn; subst hc
      simp [Builtin.append_, run_underlying ht, sizeOf, typeInfo, hi, Builtin.lenOf, Builtin.firstCells]
    · injection h with hA hn hc; subst hA; subst hc
      simp [Builtin.append_, run_underlying ht, sizeOf, typeInfo, hi, Builtin.lenOf, Builtin.firstCells, hnc, storeCells]
  · by_cases hm : m = 0
    · subst hm
      have hn : news = [] := List.eq_nil_of_length_eq_zero (by simpa using hl)
      subst hn
      refine ⟨A, c, w, ?_, by simpa using hown, by exact World.grownBy.refl _ _, .inl rfl⟩
      rcases hown.2 with ⟨h, h0⟩ | ⟨g, cap, cur, h, _, _, hnc, _⟩
      · injection h with hA hn hc; subst hA; subst hn; subst hc
        simp [Builtin.append_, run_underlying ht, sizeOf, typeInfo, hi, Builtin.lenOf, Builtin.firstCells, loadCells, loadCellsFrom]
      · injection h with hA hn hc; subst hA; subst hc
        simp [Builtin.append_, run_underlying ht, sizeOf, typeInfo, hi, Builtin.lenOf, Builtin.firstCells, hnc, storeCells, loadCells, loadCellsFrom]
    · have hcells : ∀ j u, news[j]? = some u → w.cell? (ad.add j) = some u := by
        intro j u hu
        obtain ⟨ad', h, hc⟩ := hr j u hu
        injection h with h; subst h; exact hc
      obtain ⟨v', w', hrun, hown', hg, _, hat⟩ := run_append_own_at (P := P) w base t ty e i z size bytes ht hi hz hs hbt hzs hsz _ n xs hown ad m d news hl hcells h1 h63 hb hbase
      obtain ⟨A', c', rfl⟩ := own_slice hown'
      rw [ownBlock_slice, ownBlock_slice] at hat
      rw [ownBlock_slice] at hg
      refine ⟨A', c', w', hrun, hown', hg, ?_⟩
      obtain ⟨g', cap', hv, _⟩ := hown'.form (by omega)
      injection hv with hA; subst hA
      rcases hat with h | h
      · exact .inl (by rw [map_block_inj hown g' (by rw [← h]; rfl)])
      · simp at h; subst h; exact .inr rfl

theorem wpList_app (hT : SliceT P t e z size bytes) {w : World} {ops : Array Oper} {rest : List Oper} {o : Oper} {a : Act} {Q : Exit → Act → World → Prop} (hgd : o.guard = none) (s x : Operand)
    (ho : o.op = .call { callee := .builtin .append, args := #[s, x], argTypes := #[t, t] })
    (base : Nat) (A : Option Addr) (n c : Nat) (xs : List Value) (hs : a.eval s = .slice A n c) (hown : w.ownsRow base e size (.slice A n c) n xs)
    (X : Option Addr) (m d : Nat) (news : List Value) (hx : a.eval x = .slice X m d) (hl : news.length = m * size) (hr : Rd w X news) (h1 : ∀ u ∈ news, u.oneCell' = true)
    (hb : (n + m) * bytes ≤ 140737488355328) (hbase : base ≤ w.heap.size)
    (h : ∀ A' c' w', w'.ownsRow base e size (.slice A' (n + m) c') (n + m) (xs ++ news) → w.grownBy w' (A.map Addr.block) → (A' = A ∨ A' = some ⟨w.heap.size, 0, none⟩) →
      wpList P ops Q rest (a.put o.dst (.slice A' (n + m) c')) w') : wpList P ops Q (o :: rest) a w := by
  obtain ⟨A', c', w', hrun, h2, h3, h4⟩ := run_app hT w o.type base A n c xs hown X m d news hl hr h1 hb hbase
  refine wpList_plain hgd fun K hK => ?_
  unfold Oper.wp execOp
  simp only [ho, resolve, invoke, builtin, Sem.run_bind, Sem.run_pure, Result.andThen_ok, List.map_toArray, List.map_cons, List.map_nil, hs, hx, hrun]
  exact hK _ _ (h A' c' w' h2 h3 h4)

theorem step_app (hT : SliceT P t e z size bytes) {w : World} {ops : Array Oper} {o : Oper} {a : Act} {K : Act → World → Prop} {Q : Exit → Act → World → Prop} {E : Prop} (hgd : o.guard = none) (s x : Operand)
    (ho : o.op = .call { callee := .builtin .append, args := #[s, x], argTypes := #[t, t] })
    (base : Nat) (A : Option Addr) (n c : Nat) (xs : List Value) (hs : a.eval s = .slice A n c) (hown : w.ownsRow base e size (.slice A n c) n xs)
    (X : Option Addr) (m d : Nat) (news : List Value) (hx : a.eval x = .slice X m d) (hl : news.length = m * size) (hr : Rd w X news) (h1 : ∀ u ∈ news, u.oneCell' = true)
    (hb : (n + m) * bytes ≤ 140737488355328) (hbase : base ≤ w.heap.size)
    (h : ∀ A' c' w', w'.ownsRow base e size (.slice A' (n + m) c') (n + m) (xs ++ news) → w.grownBy w' (A.map Addr.block) → (A' = A ∨ A' = some ⟨w.heap.size, 0, none⟩) →
      K (a.put o.dst (.slice A' (n + m) c')) w') : if Region.wanted o (yielded ops a.tmps) = true then Oper.wp P o a w K Q else E := by
  obtain ⟨A', c', w', hrun, h2, h3, h4⟩ := run_app hT w o.type base A n c xs hown X m d news hl hr h1 hb hbase
  rw [if_pos (by simp [Region.wanted, hgd])]
  unfold Oper.wp execOp
  simp only [ho, resolve, invoke, builtin, Sem.run_bind, Sem.run_pure, Result.andThen_ok, List.map_toArray, List.map_cons, List.map_nil, hs, hx, hrun]
  exact h A' c' w' h2 h3 h4

theorem zeroCells_one (z : Value) (m : Nat) : Builtin.zeroCells #[z] m = (List.replicate m z).toArray := by
  apply Array.ext'
  have := toList_madeCells_one z m
  unfold madeCells at this
  simpa [Builtin.zeroCells] using this

/-- append(v, make([]T, m)...): m zeros more. -/
theorem run_app_zeros (hT : SliceT P t e z 1 bytes) {ti : TypeId} {kd : IntKind} (hti : P.underlying ti = some (.int kd)) (w : World) (ty : TypeId) (base : Nat) (A : Option Addr) (n c : Nat) (xs : List Value) (hown : w.ownsRow base e 1 (.slice A n c) n xs)
    (k : IntKind) (m : Nat) (hzc : z.cells = #[z]) (hz1 : z.oneCell' = true) (hm : m ≠ 0) (hb : (n + m) * bytes ≤ 140737488355328) (hbase : base ≤ w.heap.size) :
    ∃ A' c' w', (Builtin.append_ #[t, ti] ty #[.slice A n c, .int k m]).run P w = .ok (.slice A' (n + m) c') w' ∧ w'.ownsRow base e 1 (.slice A' (n + m) c') (n + m) (xs ++ List.replicate m z) ∧
      w.grownBy w' (A.map Addr.block) ∧ (A' = A ∨ A' = some ⟨w.heap.size, 0, none⟩) := by
  obtain ⟨ht, hzs, hsz, hby, i, hi, hz, hs, hbt⟩ := hT
  subst hbt
  have hnm : (n + m) * 1 ≤ (n + m) * i.bytes := Nat.mul_le_mul_left _ hby
  have hmm : m * i.bytes ≤ (n + m) * i.bytes := Nat.mul_le_mul_right _ (by omega)
  have h63 : n + m ≤ maxLen := by simp only [maxLen]; omega
  have hlen : (xs ++ List.replicate m z).length = (n + m) * 1 := by rw [List.length_append, hown.1, List.length_replicate]; omega
  have hwr : IntKind.i64.wrap (m : Int) = m := by rw [IntKind.wrap_i64]; omega
  have h0 : ¬ ((m : Int) < 0) := by omega
  have h1 : ¬ ((m : Int) * (i.bytes : Int) > 281474976710656) := by
    have : ((m * i.bytes : Nat) : Int) ≤ 140737488355328 := by omega
    rw [Int.natCast_mul] at this
    omega
  have hn63 : ¬ (9223372036854775807 < ((n : Int) + (m : Int))) := by omega
  have hcalc : ∀ (B : Option Addr) (sc : Nat), n + m ≤ sc → (Builtin.append_ #[t, ti] ty #[.slice B n sc, .int k m]).run P w =
      ((do if let some a := B then storeCells (a.add (n * 1)) (List.replicate m z)
           pure (.slice B (n + m) sc)) : Sem Value).run P w := by
    intro B sc hle
    cases B <;> simp [Builtin.append_, run_underlying ht, run_underlying hti, sizeOf, typeInfo, zeroValue, hi, hz, hs, asInt, asIntOf, hwr, h0, h1, hle, hm, hzc, zeroCells_one]
  have hgrow : ∀ (B : Option Addr) (sc : Nat), (∀ j u, xs[j]? = some u → ∃ ad, B = some ad ∧ w.cell? (ad.add j) = some u) → sc < n + m →
      (Builtin.append_ #[t, ti] ty #[.slice B n sc, .int k m]).run P w = .ok (.slice (some ⟨w.heap.size, 0, none⟩) (n + m) (grownCap w (n + m) sc e))
        (w.drew.alloc (.cells (xs.toArray ++ (List.replicate m z).toArray ++ Builtin.zeroCells z.cells (grownCap w (n + m) sc e - (n + m))) e)) := by
    intro B sc hrd hlt
    have hfit := growslice_fits (bytes := i.bytes) hlt hb
    have h48' : ¬ (281474976710656 < Builtin.nextslicecap (n + m) sc * i.bytes) := by omega
    have hfo : (Builtin.firstCells 1 n (.slice B n sc)).run P w.drew = .ok xs.toArray w.drew := by
      rcases B with _ | ad
      · have hx : xs = [] := by
          rcases xs with _ | ⟨x, l⟩
          · rfl
          · obtain ⟨ad, h, _⟩ := hrd 0 x rfl
            cases h
        subst hx
        simp [Builtin.firstCells]
      · exact run_firstCells_some (P := P) w.drew 1 n ad n sc xs hown.1 (fun j u hu => by
          obtain ⟨ad', h, hc⟩ := hrd j u hu
          injection h with h; subst h; exact hc)
    have hn : ¬ (n + m ≤ sc) := by omega
    simp [Builtin.append_, run_underlying ht, run_underlying hti, sizeOf, typeInfo, zeroValue, hi, hz, hs, asInt, asIntOf, hwr, h0, h1, hn, hn63, h48', Question.forced, hfo, newRow, grownCap, hm, hzc, zeroCells_one]
  have grown : ∀ (old : Nat), old < n + m → ∀ (row : Option Nat),
      (w.drew.alloc (.cells (xs.toArray ++ (List.replicate m z).toArray ++ Builtin.zeroCells z.cells (grownCap w (n + m) old e - (n + m))) e)).ownsRow base e 1
        (.slice (some ⟨w.heap.size, 0, none⟩) (n + m) (grownCap w (n + m) old e)) (n + m) (xs ++ List.replicate m z) ∧
      w.grownBy (w.drew.alloc (.cells (xs.toArray ++ (List.replicate m z).toArray ++ Builtin.zeroCells z.cells (grownCap w (n + m) old e - (n + m))) e)) row := by
    intro old ho row
    have hge := grownCap_ge w (n + m) old e
    have hcm : grownCap w (n + m) old e ≤ maxLen := grownCap_le_maxLen w (n + m) old e h63
    refine ⟨⟨hlen, .inr ⟨w.heap.size, _, _, rfl, hbase, heap_alloc_new w.drew _, hge, hcm, ?_, ?_⟩⟩, ⟨rfl, rfl, rfl, by simp, fun k hk _ => heap_alloc_old w.drew _ k hk⟩⟩
    · have h1 := hown.1
      simp only [Array.size_append, List.size_toArray, size_zeroCells, hzs, List.length_replicate]
      omega
    · simp only [Array.toList_append, List.append_assoc]
      rw [← List.append_assoc, ← hlen]
      exact List.take_left
  rcases hown.2 with ⟨h, h0'⟩ | ⟨g, cap, cur, h, hbg, hg, hnc, hcm, hcs, htake⟩
  · injection h with hA hn hc; subst hA; subst hn; subst hc
    have hr := hgrow none 0 (by
      intro j u hu
      have h1 := hown.1
      have hx0 : xs = [] := List.eq_nil_of_length_eq_zero (by omega)
      rw [hx0] at hu
      simp at hu) (by omega)
    have hgr := grown 0 (by omega) none
    exact ⟨_, _, _, hr, hgr.1, hgr.2, .inr rfl⟩
  · injection h with hA hn hc; subst hA; subst hc
    by_cases hroom : n + m ≤ c
    · have hst := run_storeCells_at P g (n * 1) e (List.replicate m z) 0 cur w hg (by simp; omega) (by intro u hu; rw [(List.mem_replicate.1 hu).2]; exact hz1)
      simp only [Nat.add_zero] at hst
      have hr := hcalc (some ⟨g, 0, none⟩) c hroom
      simp [Addr.add_lit] at hr
      simp at hst
      rw [hst] at hr
      simp at hr
      refine ⟨_, _, _, hr, ⟨hlen, .inr ⟨g, c, _, rfl, hbg, setRow_heap w g cur _ e _ hg, hroom, hcm, ?_, ?_⟩⟩, ⟨rfl, rfl, rfl, by simp, fun k _ hk => setRow_other w g k _ (fun e => hk (by simp [e]))⟩, .inl rfl⟩
      · simp only [List.size_toArray, List.length_append, List.length_take, List.length_drop, Array.length_toList, List.length_replicate]
        omega
      · simp only [Nat.mul_one] at htake hlen ⊢
        rw [htake, ← List.append_assoc, ← hlen]
        exact List.take_left
    · have hr := hgrow (some ⟨g, 0, none⟩) c (Rd.own hown) (by omega)
      have hgr := grown c (by omega) (some g)
      exact ⟨_, _, _, hr, hgr.1, hgr.2, .inr rfl⟩

theorem wpList_app_zeros (hT : SliceT P t e z 1 bytes) {ti : TypeId} {kd : IntKind} (hti : P.underlying ti = some (.int kd)) {w : World} {ops : Array Oper} {rest : List Oper} {o : Oper} {a : Act} {Q : Exit → Act → World → Prop} (hgd : o.guard = none) (s x : Operand)
    (ho : o.op = .call { callee := .builtin .append, args := #[s, x], argTypes := #[t, ti] })
    (base : Nat) (A : Option Addr) (n c : Nat) (xs : List Value) (hs : a.eval s = .slice A n c) (hown : w.ownsRow base e 1 (.slice A n c) n xs)
    (k : IntKind) (m : Nat) (hx : a.eval x = .int k m) (hzc : z.cells = #[z]) (hz1 : z.oneCell' = true) (hm : m ≠ 0)
    (hb : (n + m) * bytes ≤ 140737488355328) (hbase : base ≤ w.heap.size)
    (h : ∀ A' c' w', w'.ownsRow base e 1 (.slice A' (n + m) c') (n + m) (xs ++ List.replicate m z) → w.grownBy w' (A.map Addr.block) → (A' = A ∨ A' = some ⟨w.heap.size, 0, none⟩) →
      wpList P ops Q rest (a.put o.dst (.slice A' (n + m) c')) w') : wpList P ops Q (o :: rest) a w := by
  obtain ⟨A', c', w', hrun, h2, h3, h4⟩ := run_app_zeros hT hti w o.type base A n c xs hown k m hzc hz1 hm hb hbase
  refine wpList_plain hgd fun K hK => ?_
  unfold Oper.wp execOp
  simp only [ho, resolve, invoke, builtin, Sem.run_bind, Sem.run_pure, Result.andThen_ok, List.map_toArray, List.map_cons, List.map_nil, hs, hx, hrun]
  exact hK _ _ (h A' c' w' h2 h3 h4)
end
end Go.Proofs.Ytnkclbaeamcplaa
