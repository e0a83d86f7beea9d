/-
The builtin append onto a row of the call's own, from a source that reads as a list (nil or not), and by zeros; make of a row of zeros. Over any program.
The builtin copy into a row of the call's own, and make of a row of zeros. Over any program.
A struct that is stored into a block of its own: what the block is behind it. No function of the program is spoken of.
-/
import Derived.Test.YtaghecgjmkhpcaaGreatDoorMem
import Derived.Laws.MakeOwn
import Derived.RegionTactic
import Derived.Laws.CopyOwn
import Derived.Deep.RegionLaw
import Derived.Deep.MidRow
namespace Go.Proofs.YtaghecgjmkhpcaaGreatDoor
set_option linter.unusedVariables false
set_option linter.unusedSimpArgs false
open Go Go.RowKit

/-- t is a slice type whose elements (type e) have so many cells and bytes and this zero. -/
def SliceT (P : Program) (t e : TypeId) (z : Value) (size bytes : Nat) : Prop :=
  P.underlying t = some (.slice e) ∧ z.cells.size = size ∧ 0 < size ∧ 0 < bytes ∧ ∃ i, P.info? e = some i ∧ i.zero = some z ∧ i.size = size ∧ i.bytes = bytes
theorem sliceT_of {P : Program} {t e : TypeId} {z : Value} {size bytes : Nat} (ht : P.underlying t = some (.slice e)) (hi : (P.info? e).map (fun i => (i.zero, i.size, i.bytes)) = some (some z, size, bytes))
    (hz : z.cells.size = size) (h0 : 0 < size) (h1 : 0 < bytes) : SliceT P t e z size bytes := by
  obtain ⟨i, hi, a, b, c⟩ := info_parts hi
  exact ⟨ht, hz, h0, h1, i, hi, a, b, c⟩

theorem ownBlock_slice (A : Option Addr) (n c : Nat) : (Value.slice A n c).ownBlock = A.map Addr.block := by cases A <;> rfl
theorem own_from {w : World} {base : Nat} {e : TypeId} {size : Nat} {A : Option Addr} {n c : Nat} {xs : List Value} (h : w.ownsRow base e size (.slice A n c) n xs) : ∀ k, A.map Addr.block = some k → base ≤ k :=
  fun k hk => (h.lt k (by rw [ownBlock_slice]; exact hk)).1
theorem own_mono {w : World} {base base' : Nat} {e : TypeId} {size : Nat} {v : Value} {n : Nat} {xs : List Value} (h : w.ownsRow base e size v n xs) (hb : base' ≤ base) : w.ownsRow base' e size v n xs :=
  ⟨h.1, h.2.imp id fun ⟨g, c, cur, a, b, r⟩ => ⟨g, c, cur, a, Nat.le_trans hb b, r⟩⟩
theorem own_slice {w : World} {base : Nat} {e : TypeId} {size : Nat} {v : Value} {n : Nat} {xs : List Value} (h : w.ownsRow base e size v n xs) : ∃ A c, v = .slice A n c := by
  rcases h.2 with ⟨rfl, rfl⟩ | ⟨g, cap, cur, rfl, _⟩
  · exact ⟨_, _, rfl⟩
  · exact ⟨_, _, rfl⟩
theorem map_block_inj {A : Option Addr} {w : World} {base : Nat} {e : TypeId} {size n c : Nat} {xs : List Value} (h : w.ownsRow base e size (.slice A n c) n xs) (b : Nat) (hb : A.map Addr.block = some b) : A = some ⟨b, 0, none⟩ := by
  rcases h.2 with ⟨h', _⟩ | ⟨g, cap, cur, h', _⟩
  · injection h' with h'; subst h'; simp at hb
  · injection h' with h'; subst h'; simp at hb; subst hb; rfl

section
variable {P : Program} {t e : TypeId} {z : Value} {size bytes : Nat}

theorem run_app (hT : SliceT P t e z size bytes) (w : World) (ty : TypeId) (base : Nat) (A : Option Addr) (n c : Nat) (xs : List Value) (hown : w.ownsRow base e size (.slice A n c) n xs)
    (X : Option Addr) (m d : Nat) (news : List Value) (hl : news.length = m * size) (hr : Rd w X news) (h1 : ∀ u ∈ news, u.oneCell' = true)
    (hb : (n + m) * bytes ≤ 140737488355328) (hbase : base ≤ w.heap.size) :
    ∃ A' c' w', (Builtin.append_ #[t, t] ty #[.slice A n c, .slice X m d]).run P w = .ok (.slice A' (n + m) c') w' ∧ w'.ownsRow base e size (.slice A' (n + m) c') (n + m) (xs ++ news) ∧
      w.grownBy w' (A.map Addr.block) ∧ (A' = A ∨ A' = some ⟨w.heap.size, 0, none⟩) := by
  obtain ⟨ht, hzs, hsz, hby, i, hi, hz, hs, hbt⟩ := hT
  have h63 : n + m ≤ maxLen := by
    have : (n + m) * 1 ≤ (n + m) * bytes := Nat.mul_le_mul_left _ hby
    simp only [maxLen]; omega
  rcases X with _ | ad
  · have hn : news = [] := by
      rcases news with _ | ⟨x, l⟩
      · rfl
      · obtain ⟨ad, h, _⟩ := hr 0 x rfl
        cases h
    subst hn
    have hm : m = 0 := by
      rcases Nat.eq_zero_or_pos m with h | h
      · exact h
      · have : 0 < m * size := Nat.mul_pos h hsz
        simp at hl; omega
    subst hm
    refine ⟨A, c, w, ?_, by simpa using hown, by exact World.grownBy.refl _ _, .inl rfl⟩
    rcases hown.2 with ⟨h, h0⟩ | ⟨g, cap, cur, h, _, _, hnc, _⟩
    · injection h with hA hn hc; subst hA; subst hn; subst hc
      simp [Builtin.append_, run_underlying ht, sizeOf, typeInfo, hi, Builtin.lenOf, Builtin.firstCells]
    · injection h with hA hn hc; subst hA; subst hc
      simp [Builtin.append_, run_underlying ht, sizeOf, typeInfo, hi, Builtin.lenOf, Builtin.firstCells, hnc, storeCells]
  · by_cases hm : m = 0
    · subst hm
      have hn : news = [] := List.eq_nil_of_length_eq_zero (by simpa using hl)
      subst hn
      refine ⟨A, c, w, ?_, by simpa using hown, by exact World.grownBy.refl _ _, .inl rfl⟩
      rcases hown.2 with ⟨h, h0⟩ | ⟨g, cap, cur, h, _, _, hnc, _⟩
      · injection h with hA hn hc; subst hA; subst hn; subst hc
        simp [Builtin.append_, run_underlying ht, sizeOf, typeInfo, hi, Builtin.lenOf, Builtin.firstCells, loadCells, loadCellsFrom]
      · injection h with hA hn hc; subst hA; subst hc
        simp [Builtin.append_, run_underlying ht, sizeOf, typeInfo, hi, Builtin.lenOf, Builtin.firstCells, hnc, storeCells, loadCells, loadCellsFrom]
    · have hcells : ∀ j u, news[j]? = some u → w.cell? (ad.add j) = some u := by
        intro j u hu
        obtain ⟨ad', h, hc⟩ := hr j u hu
        injection h with h; subst h; exact hc
      obtain ⟨v', w', hrun, hown', hg, _, hat⟩ := run_append_own_at (P := P) w base t ty e i z size bytes ht hi hz hs hbt hzs hsz _ n xs hown ad m d news hl hcells h1 h63 hb hbase
      obtain ⟨A', c', rfl⟩ := own_slice hown'
      rw [ownBlock_slice, ownBlock_slice] at hat
      rw [ownBlock_slice] at hg
      refine ⟨A', c', w', hrun, hown', hg, ?_⟩
      obtain ⟨g', cap', hv, _⟩ := hown'.form (by omega)
      injection hv with hA; subst hA
      rcases hat with h | h
      · exact .inl (by rw [map_block_inj hown g' (by rw [← h]; rfl)])
      · simp at h; subst h; exact .inr rfl

theorem wpList_app (hT : SliceT P t e z size bytes) {w : World} {ops : Array Oper} {rest : List Oper} {o : Oper} {a : Act} {Q : Exit → Act → World → Prop} (hgd : o.guard = none) (s x : Operand)
    (ho : o.op = .call { callee := .builtin .append, args := #[s, x], argTypes := #[t, t] })
    (base : Nat) (A : Option Addr) (n c : Nat) (xs : List Value) (hs : a.eval s = .slice A n c) (hown : w.ownsRow base e size (.slice A n c) n xs)
    (X : Option Addr) (m d : Nat) (news : List Value) (hx : a.eval x = .slice X m d) (hl : news.length = m * size) (hr : Rd w X news) (h1 : ∀ u ∈ news, u.oneCell' = true)
    (hb : (n + m) * bytes ≤ 140737488355328) (hbase : base ≤ w.heap.size)
    (h : ∀ A' c' w', w'.ownsRow base e size (.slice A' (n + m) c') (n + m) (xs ++ news) → w.grownBy w' (A.map Addr.block) → (A' = A ∨ A' = some ⟨w.heap.size, 0, none⟩) →
      wpList P ops Q rest (a.put o.dst (.slice A' (n + m) c')) w') : wpList P ops Q (o :: rest) a w := by
  obtain ⟨A', c', w', hrun, h2, h3, h4⟩ := run_app hT w o.type base A n c xs hown X m d news hl hr h1 hb hbase
  refine wpList_plain hgd fun K hK => ?_
  unfold Oper.wp execOp
  simp only [ho, resolve, invoke, builtin, Sem.run_bind, Sem.run_pure, Result.andThen_ok, List.map_toArray, List.map_cons, List.map_nil, hs, hx, hrun]
  exact hK _ _ (h A' c' w' h2 h3 h4)

theorem step_app (hT : SliceT P t e z size bytes) {w : World} {ops : Array Oper} {o : Oper} {a : Act} {K : Act → World → Prop} {Q : Exit → Act → World → Prop} {E : Prop} (hgd : o.guard = none) (s x : Operand)
    (ho : o.op = .call { callee := .builtin .append, args := #[s, x], argTypes := #[t, t] })
    (base : Nat) (A : Option Addr) (n c : Nat) (xs : List Value) (hs : a.eval s = .slice A n c) (hown : w.ownsRow base e size (.slice A n c) n xs)
    (X : Option Addr) (m d : Nat) (news : List Value) (hx : a.eval x = .slice X m d) (hl : news.length = m * size) (hr : Rd w X news) (h1 : ∀ u ∈ news, u.oneCell' = true)
    (hb : (n + m) * bytes ≤ 140737488355328) (hbase : base ≤ w.heap.size)
    (h : ∀ A' c' w', w'.ownsRow base e size (.slice A' (n + m) c') (n + m) (xs ++ news) → w.grownBy w' (A.map Addr.block) → (A' = A ∨ A' = some ⟨w.heap.size, 0, none⟩) →
      K (a.put o.dst (.slice A' (n + m) c')) w') : if Region.wanted o (yielded ops a.tmps) = true then Oper.wp P o a w K Q else E := by
  obtain ⟨A', c', w', hrun, h2, h3, h4⟩ := run_app hT w o.type base A n c xs hown X m d news hl hr h1 hb hbase
  rw [if_pos (by simp [Region.wanted, hgd])]
  unfold Oper.wp execOp
  simp only [ho, resolve, invoke, builtin, Sem.run_bind, Sem.run_pure, Result.andThen_ok, List.map_toArray, List.map_cons, List.map_nil, hs, hx, hrun]
  exact h A' c' w' h2 h3 h4

theorem zeroCells_one (z : Value) (m : Nat) : Builtin.zeroCells #[z] m = (List.replicate m z).toArray := by
  apply Array.ext'
  have := toList_madeCells_one z m
  unfold madeCells at this
  simpa [Builtin.zeroCells] using this

/-- append(v, make([]T, m)...): m zeros more. -/
theorem run_app_zeros (hT : SliceT P t e z 1 bytes) {ti : TypeId} {kd : IntKind} (hti : P.underlying ti = some (.int kd)) (w : World) (ty : TypeId) (base : Nat) (A : Option Addr) (n c : Nat) (xs : List Value) (hown : w.ownsRow base e 1 (.slice A n c) n xs)
    (k : IntKind) (m : Nat) (hzc : z.cells = #[z]) (hz1 : z.oneCell' = true) (hm : m ≠ 0) (hb : (n + m) * bytes ≤ 140737488355328) (hbase : base ≤ w.heap.size) :
    ∃ A' c' w', (Builtin.append_ #[t, ti] ty #[.slice A n c, .int k m]).run P w = .ok (.slice A' (n + m) c') w' ∧ w'.ownsRow base e 1 (.slice A' (n + m) c') (n + m) (xs ++ List.replicate m z) ∧
      w.grownBy w' (A.map Addr.block) ∧ (A' = A ∨ A' = some ⟨w.heap.size, 0, none⟩) := by
  obtain ⟨ht, hzs, hsz, hby, i, hi, hz, hs, hbt⟩ := hT
  subst hbt
  have hnm : (n + m) * 1 ≤ (n + m) * i.bytes := Nat.mul_le_mul_left _ hby
  have hmm : m * i.bytes ≤ (n + m) * i.bytes := Nat.mul_le_mul_right _ (by omega)
  have h63 : n + m ≤ maxLen := by simp only [maxLen]; omega
  have hlen : (xs ++ List.replicate m z).length = (n + m) * 1 := by rw [List.length_append, hown.1, List.length_replicate]; omega
  have hwr : IntKind.i64.wrap (m : Int) = m := by rw [IntKind.wrap_i64]; omega
  have h0 : ¬ ((m : Int) < 0) := by omega
  have h1 : ¬ ((m : Int) * (i.bytes : Int) > 281474976710656) := by
    have : ((m * i.bytes : Nat) : Int) ≤ 140737488355328 := by omega
    rw [Int.natCast_mul] at this
    omega
  have hn63 : ¬ (9223372036854775807 < ((n : Int) + (m : Int))) := by omega
  have hcalc : ∀ (B : Option Addr) (sc : Nat), n + m ≤ sc → (Builtin.append_ #[t, ti] ty #[.slice B n sc, .int k m]).run P w =
      ((do if let some a := B then storeCells (a.add (n * 1)) (List.replicate m z)
           pure (.slice B (n + m) sc)) : Sem Value).run P w := by
    intro B sc hle
    cases B <;> simp [Builtin.append_, run_underlying ht, run_underlying hti, sizeOf, typeInfo, zeroValue, hi, hz, hs, asInt, asIntOf, hwr, h0, h1, hle, hm, hzc, zeroCells_one]
  have hgrow : ∀ (B : Option Addr) (sc : Nat), (∀ j u, xs[j]? = some u → ∃ ad, B = some ad ∧ w.cell? (ad.add j) = some u) → sc < n + m →
      (Builtin.append_ #[t, ti] ty #[.slice B n sc, .int k m]).run P w = .ok (.slice (some ⟨w.heap.size, 0, none⟩) (n + m) (grownCap w (n + m) sc e))
        (w.drew.alloc (.cells (xs.toArray ++ (List.replicate m z).toArray ++ Builtin.zeroCells z.cells (grownCap w (n + m) sc e - (n + m))) e)) := by
    intro B sc hrd hlt
    have hfit := growslice_fits (bytes := i.bytes) hlt hb
    have h48' : ¬ (281474976710656 < Builtin.nextslicecap (n + m) sc * i.bytes) := by omega
    have hfo : (Builtin.firstCells 1 n (.slice B n sc)).run P w.drew = .ok xs.toArray w.drew := by
      rcases B with _ | ad
      · have hx : xs = [] := by
          rcases xs with _ | ⟨x, l⟩
          · rfl
          · obtain ⟨ad, h, _⟩ := hrd 0 x rfl
            cases h
        subst hx
        simp [Builtin.firstCells]
      · exact run_firstCells_some (P := P) w.drew 1 n ad n sc xs hown.1 (fun j u hu => by
          obtain ⟨ad', h, hc⟩ := hrd j u hu
          injection h with h; subst h; exact hc)
    have hn : ¬ (n + m ≤ sc) := by omega
    simp [Builtin.append_, run_underlying ht, run_underlying hti, sizeOf, typeInfo, zeroValue, hi, hz, hs, asInt, asIntOf, hwr, h0, h1, hn, hn63, h48', Question.forced, hfo, newRow, grownCap, hm, hzc, zeroCells_one]
  have grown : ∀ (old : Nat), old < n + m → ∀ (row : Option Nat),
      (w.drew.alloc (.cells (xs.toArray ++ (List.replicate m z).toArray ++ Builtin.zeroCells z.cells (grownCap w (n + m) old e - (n + m))) e)).ownsRow base e 1
        (.slice (some ⟨w.heap.size, 0, none⟩) (n + m) (grownCap w (n + m) old e)) (n + m) (xs ++ List.replicate m z) ∧
      w.grownBy (w.drew.alloc (.cells (xs.toArray ++ (List.replicate m z).toArray ++ Builtin.zeroCells z.cells (grownCap w (n + m) old e - (n + m))) e)) row := by
    intro old ho row
    have hge := grownCap_ge w (n + m) old e
    have hcm : grownCap w (n + m) old e ≤ maxLen := grownCap_le_maxLen w (n + m) old e h63
    refine ⟨⟨hlen, .inr ⟨w.heap.size, _, _, rfl, hbase, heap_alloc_new w.drew _, hge, hcm, ?_, ?_⟩⟩, ⟨rfl, rfl, rfl, by simp, fun k hk _ => heap_alloc_old w.drew _ k hk⟩⟩
    · have h1 := hown.1
      simp only [Array.size_append, List.size_toArray, size_zeroCells, hzs, List.length_replicate]
      omega
    · simp only [Array.toList_append, List.append_assoc]
      rw [← List.append_assoc, ← hlen]
      exact List.take_left
  rcases hown.2 with ⟨h, h0'⟩ | ⟨g, cap, cur, h, hbg, hg, hnc, hcm, hcs, htake⟩
  · injection h with hA hn hc; subst hA; subst hn; subst hc
    have hr := hgrow none 0 (by
      intro j u hu
      have h1 := hown.1
      have hx0 : xs = [] := List.eq_nil_of_length_eq_zero (by omega)
      rw [hx0] at hu
      simp at hu) (by omega)
    have hgr := grown 0 (by omega) none
    exact ⟨_, _, _, hr, hgr.1, hgr.2, .inr rfl⟩
  · injection h with hA hn hc; subst hA; subst hc
    by_cases hroom : n + m ≤ c
    · have hst := run_storeCells_at P g (n * 1) e (List.replicate m z) 0 cur w hg (by simp; omega) (by intro u hu; rw [(List.mem_replicate.1 hu).2]; exact hz1)
      simp only [Nat.add_zero] at hst
      have hr := hcalc (some ⟨g, 0, none⟩) c hroom
      simp [Addr.add_lit] at hr
      simp at hst
      rw [hst] at hr
      simp at hr
      refine ⟨_, _, _, hr, ⟨hlen, .inr ⟨g, c, _, rfl, hbg, setRow_heap w g cur _ e _ hg, hroom, hcm, ?_, ?_⟩⟩, ⟨rfl, rfl, rfl, by simp, fun k _ hk => setRow_other w g k _ (fun e => hk (by simp [e]))⟩, .inl rfl⟩
      · simp only [List.size_toArray, List.length_append, List.length_take, List.length_drop, Array.length_toList, List.length_replicate]
        omega
      · simp only [Nat.mul_one] at htake hlen ⊢
        rw [htake, ← List.append_assoc, ← hlen]
        exact List.take_left
    · have hr := hgrow (some ⟨g, 0, none⟩) c (Rd.own hown) (by omega)
      have hgr := grown c (by omega) (some g)
      exact ⟨_, _, _, hr, hgr.1, hgr.2, .inr rfl⟩

theorem wpList_app_zeros (hT : SliceT P t e z 1 bytes) {ti : TypeId} {kd : IntKind} (hti : P.underlying ti = some (.int kd)) {w : World} {ops : Array Oper} {rest : List Oper} {o : Oper} {a : Act} {Q : Exit → Act → World → Prop} (hgd : o.guard = none) (s x : Operand)
    (ho : o.op = .call { callee := .builtin .append, args := #[s, x], argTypes := #[t, ti] })
    (base : Nat) (A : Option Addr) (n c : Nat) (xs : List Value) (hs : a.eval s = .slice A n c) (hown : w.ownsRow base e 1 (.slice A n c) n xs)
    (k : IntKind) (m : Nat) (hx : a.eval x = .int k m) (hzc : z.cells = #[z]) (hz1 : z.oneCell' = true) (hm : m ≠ 0)
    (hb : (n + m) * bytes ≤ 140737488355328) (hbase : base ≤ w.heap.size)
    (h : ∀ A' c' w', w'.ownsRow base e 1 (.slice A' (n + m) c') (n + m) (xs ++ List.replicate m z) → w.grownBy w' (A.map Addr.block) → (A' = A ∨ A' = some ⟨w.heap.size, 0, none⟩) →
      wpList P ops Q rest (a.put o.dst (.slice A' (n + m) c')) w') : wpList P ops Q (o :: rest) a w := by
  obtain ⟨A', c', w', hrun, h2, h3, h4⟩ := run_app_zeros hT hti w o.type base A n c xs hown k m hzc hz1 hm hb hbase
  refine wpList_plain hgd fun K hK => ?_
  unfold Oper.wp execOp
  simp only [ho, resolve, invoke, builtin, Sem.run_bind, Sem.run_pure, Result.andThen_ok, List.map_toArray, List.map_cons, List.map_nil, hs, hx, hrun]
  exact hK _ _ (h A' c' w' h2 h3 h4)
end
end Go.Proofs.YtaghecgjmkhpcaaGreatDoor

namespace Go.Proofs.YtaghecgjmkhpcaaGreatDoor
set_option linter.unusedVariables false
set_option linter.unusedSimpArgs false
open Go Go.RowKit

theorem cut_splice {α : Type} (cur cs : List α) (k n : Nat) (h : k + cs.length ≤ n) (hk : k ≤ cur.length) :
    (cur.take k ++ cs ++ cur.drop (k + cs.length)).take n = (cur.take n).take k ++ cs ++ (cur.take n).drop (k + cs.length) := by
  have e1 : (cur.take k ++ cs).length = k + cs.length := by simp; omega
  rw [List.take_append, e1, List.take_of_length_le (by omega), List.take_take, List.drop_take, show min k n = k by omega]

section
variable {P : Program} {t e : TypeId} {z : Value} {bytes : Nat}

/-- copy(v[k:], src): at most what is there. -/
theorem run_cpy (hT : SliceT P t e z 1 bytes) (w : World) (ty : TypeId) (base : Nat) (A : Option Addr) (n c : Nat) (xs : List Value) (hown : w.ownsRow base e 1 (.slice A n c) n xs)
    (k : Nat) (hk : k ≤ n) (D : Option Addr) (dl dc : Nat) (hdl : dl = n - k) (hD : 0 < dl → D = A.map (·.add k))
    (X : Option Addr) (m d : Nat) (news : List Value) (hl : news.length = m) (hr : Rd w X news) (h1 : ∀ u ∈ news, u.oneCell' = true) :
    ∃ w', (Builtin.copy_ #[t, t] ty #[.slice D dl dc, .slice X m d]).run P w = .ok (goInt (news.take dl).length) w' ∧
      w'.ownsRow base e 1 (.slice A n c) n (xs.take k ++ news.take dl ++ xs.drop (k + (news.take dl).length)) ∧ w.grownBy w' (A.map Addr.block) ∧ w'.heap.size = w.heap.size := by
  obtain ⟨ht, hzs, hsz, hby, i, hi, hz, hs, hbt⟩ := hT
  have hsome : (P.info? e).map (·.size) = some 1 := by rw [hi]; simp [hs]
  have hxl := hown.1
  by_cases h0 : (news.take dl).length = 0
  · have hrun := run_copy_none (P := P) w t t ty e D X dl dc m d ht hsome (by
      simp at h0
      simp
      rcases h0 with h | h
      · omega
      · subst h; simp at hl; omega)
    refine ⟨w, by rw [h0]; exact hrun, ?_, World.grownBy.refl _ _, rfl⟩
    rw [List.eq_nil_of_length_eq_zero h0]
    simpa using hown
  · have hq : (news.take dl).length = min dl m := by simp [hl]
    have hpos : 0 < dl := by omega
    obtain rfl := hD hpos
    obtain ⟨g, cap, hv, hb, _⟩ := hown.form (by omega)
    have hvA : A = some ⟨g, 0, none⟩ := by injection hv
    subst hvA
    rcases hown.2 with ⟨h', _⟩ | ⟨g', cap', cur, h', hbg, hg, hnc, hcm, hcs, htake⟩
    · simp at h'
    · simp only [Value.slice.injEq, Option.some.injEq, Addr.mk.injEq, and_true, true_and] at h'
      obtain ⟨rfl, rfl⟩ := h'
      have hne : news ≠ [] := by rintro rfl; simp at h0
      have hX : ∃ ad, X = some ad := by
        rcases news with _ | ⟨x, l⟩
        · exact absurd rfl hne
        · obtain ⟨ad, h, _⟩ := hr 0 x rfl
          exact ⟨ad, h⟩
      obtain ⟨ad, rfl⟩ := hX
      have hcells : ∀ j v, (news.take dl)[j]? = some v → w.cell? (ad.add j) = some v := by
        intro j u hu
        obtain ⟨ad', h, hc⟩ := (hr.take dl) j u hu
        injection h with h; subst h; exact hc
      have hrun := run_copy_row (P := P) w t t ty e g k dl dc ad m d cur e (news.take dl) ht hsome hg (by rw [hq]; show _ = min m dl; omega) hcells (by omega) (fun v hv => h1 v (List.mem_of_mem_take hv))
      refine ⟨_, by simpa [Addr.add_lit] using hrun, ⟨?_, .inr ⟨g, c, _, rfl, hbg, setRow_heap w g cur _ e _ hg, hnc, hcm, ?_, ?_⟩⟩, ⟨rfl, rfl, rfl, by simp, fun j _ hj => setRow_other w g j _ (fun e => hj (by simp [e]))⟩, by simp⟩
      · simp only [List.length_append, List.length_take, List.length_drop, hxl]
        omega
      · simp only [List.size_toArray, List.length_append, List.length_take, List.length_drop, Array.length_toList]
        omega
      · rw [← htake]
        simp only [Nat.mul_one]
        have := cut_splice cur.toList (news.take dl) k n (by omega) (by simp; omega)
        simpa using this

theorem wpList_cpy (hT : SliceT P t e z 1 bytes) {w : World} {ops : Array Oper} {rest : List Oper} {o : Oper} {a : Act} {Q : Exit → Act → World → Prop} (hgd : o.guard = none) (s x : Operand)
    (ho : o.op = .call { callee := .builtin .copy, args := #[s, x], argTypes := #[t, t] })
    (base : Nat) (A : Option Addr) (n c : Nat) (xs : List Value) (hown : w.ownsRow base e 1 (.slice A n c) n xs)
    (k : Nat) (hk : k ≤ n) (D : Option Addr) (dl dc : Nat) (hs : a.eval s = .slice D dl dc) (hdl : dl = n - k) (hD : 0 < dl → D = A.map (·.add k))
    (X : Option Addr) (m d : Nat) (hx : a.eval x = .slice X m d) (news : List Value) (hl : news.length = m) (hr : Rd w X news) (h1 : ∀ u ∈ news, u.oneCell' = true)
    (h : ∀ w', w'.ownsRow base e 1 (.slice A n c) n (xs.take k ++ news.take dl ++ xs.drop (k + (news.take dl).length)) → w.grownBy w' (A.map Addr.block) → Hid (w'.heap.size = w.heap.size) →
      wpList P ops Q rest (a.put o.dst (goInt (news.take dl).length)) w') : wpList P ops Q (o :: rest) a w := by
  obtain ⟨w', hrun, h2, h3, h4⟩ := run_cpy hT w o.type base A n c xs hown k hk D dl dc hdl hD X m d news hl hr h1
  refine wpList_plain hgd fun K hK => ?_
  unfold Oper.wp execOp
  simp only [ho, resolve, invoke, builtin, Sem.run_bind, Sem.run_pure, Result.andThen_ok, List.map_toArray, List.map_cons, List.map_nil, hs, hx, hrun]
  exact hK _ _ (h w' h2 h3 h4)

theorem step_cpy (hT : SliceT P t e z 1 bytes) {w : World} {ops : Array Oper} {o : Oper} {a : Act} {K : Act → World → Prop} {Q : Exit → Act → World → Prop} {E : Prop} (hgd : o.guard = none) (s x : Operand)
    (ho : o.op = .call { callee := .builtin .copy, args := #[s, x], argTypes := #[t, t] })
    (base : Nat) (A : Option Addr) (n c : Nat) (xs : List Value) (hown : w.ownsRow base e 1 (.slice A n c) n xs)
    (k : Nat) (hk : k ≤ n) (D : Option Addr) (dl dc : Nat) (hs : a.eval s = .slice D dl dc) (hdl : dl = n - k) (hD : 0 < dl → D = A.map (·.add k))
    (X : Option Addr) (m d : Nat) (hx : a.eval x = .slice X m d) (news : List Value) (hl : news.length = m) (hr : Rd w X news) (h1 : ∀ u ∈ news, u.oneCell' = true)
    (h : ∀ w', w'.ownsRow base e 1 (.slice A n c) n (xs.take k ++ news.take dl ++ xs.drop (k + (news.take dl).length)) → w.grownBy w' (A.map Addr.block) → Hid (w'.heap.size = w.heap.size) →
      K (a.put o.dst (goInt (news.take dl).length)) w') : if Region.wanted o (yielded ops a.tmps) = true then Oper.wp P o a w K Q else E := by
  obtain ⟨w', hrun, h2, h3, h4⟩ := run_cpy hT w o.type base A n c xs hown k hk D dl dc hdl hD X m d news hl hr h1
  rw [if_pos (by simp [Region.wanted, hgd])]
  unfold Oper.wp execOp
  simp only [ho, resolve, invoke, builtin, Sem.run_bind, Sem.run_pure, Result.andThen_ok, List.map_toArray, List.map_cons, List.map_nil, hs, hx, hrun]
  exact h w' h2 h3 h4

/-- make([]T, n): a row of zeros of the call's own, as an equation for the walk. -/
theorem run_mk (hT : SliceT P t e z 1 bytes) (hzc : z.cells = #[z]) (n : Nat) (hb : n * bytes ≤ 281474976710656) (kl kc : IntKind) (w : World) :
    (Instr.makeSlice t (.int kl (n : Int)) (.int kc (n : Int))).run P w = .ok (.slice (some ⟨w.heap.size, 0, none⟩) n n) (w.alloc (.cells (madeCells #[z] n) e)) := by
  obtain ⟨ht, hzs, hsz, hby, i, hi, hz, hs, hbt⟩ := hT
  subst hbt
  have h1 : n * 1 ≤ n * i.bytes := Nat.mul_le_mul_left _ hby
  have hb' : (i.bytes : Int) * (n : Int) ≤ 281474976710656 := by
    have : ((n * i.bytes : Nat) : Int) ≤ 281474976710656 := by omega
    rw [Int.natCast_mul] at this
    rw [Int.mul_comm]; exact this
  have hr := run_make (P := P) w t e i z ht hi hz kl kc n n (by omega) (by omega) hb' (by omega)
  simp only [Int.toNat_natCast, hs, Nat.mul_one, hzc] at hr
  exact hr
theorem own_made (z : Value) (w : World) (n : Nat) (e : TypeId) (hm : n ≤ maxLen) (base : Nat) (hb : base ≤ w.heap.size) :
    (w.alloc (.cells (madeCells #[z] n) e)).ownsRow base e 1 (.slice (some ⟨w.heap.size, 0, none⟩) n n) n (List.replicate n z) := by
  have := World.ownsRow_lit (base := base) (e := e) (size := 1) w (madeCells #[z] n) n hb hm (by rw [size_madeCells, Nat.mul_one])
  rwa [toList_madeCells_one] at this
end
theorem bys_zeros (n : Nat) : List.replicate n (Value.int .u8 0) = bys (List.replicate n 0) := by simp [bys, u8v]
end Go.Proofs.YtaghecgjmkhpcaaGreatDoor

namespace Go.Proofs.YtaghecgjmkhpcaaGreatDoor
set_option linter.unusedVariables false
set_option linter.unusedSimpArgs false
open Go Go.RowKit

theorem grown_tr {w w1 w2 : World} {r : Option Nat} (h : w.grownBy w1 r) (h2 : w1.grownBy w2 r) : w.grownBy w2 r :=
  ⟨h2.os.trans h.os, h2.tape.trans h.tape, h2.output.trans h.output, Nat.le_trans h.size h2.size, fun k hk hne => (h2.block k (Nat.lt_of_lt_of_le hk h.size) hne).trans (h.block k hk hne)⟩
theorem setCells_blk (b : Nat) (t : TypeId) : ∀ (vs : List Value) (o : Nat) (w : World) (cs : Array Value), w.heap[b]? = some (.cells cs t (0, 0)) → o + vs.length ≤ cs.size →
    (∃ cs' : Array Value, (w.setCells b o vs).heap[b]? = some (.cells cs' t (0, 0)) ∧ cs'.size = cs.size ∧ (∀ j, j < o → cs'[j]? = cs[j]?) ∧ (∀ j, j < vs.length → cs'[o + j]? = vs[j]?)) ∧ w.grownBy (w.setCells b o vs) (some b)
  | [], o, w, cs, h, _ => ⟨⟨cs, h, rfl, fun _ _ => rfl, fun j hj => by simp at hj⟩, World.grownBy.refl _ _⟩
  | v :: r, o, w, cs, h, hl => by
    rw [List.length_cons] at hl
    have h1 := heap_setCell_same w b o cs t v h
    obtain ⟨⟨cs', h2, h3, h4, h5⟩, h6⟩ := setCells_blk b t r (o + 1) (w.setCell ⟨b, o, none⟩ v) _ h1 (by rw [Array.size_setIfInBounds]; omega)
    refine ⟨⟨cs', h2, by rw [h3, Array.size_setIfInBounds], fun j hj => ?_, fun j hj => ?_⟩, ?_⟩
    · rw [h4 j (by omega), Array.getElem?_setIfInBounds_ne (by omega)]
    · rcases j with _ | j
      · rw [Nat.add_zero, h4 o (by omega), Array.getElem?_setIfInBounds_self_of_lt (by omega)]; rfl
      · rw [show o + (j + 1) = o + 1 + j by omega, h5 j (by simpa using hj)]; rfl
    · have hset : w.grownBy (w.setCell ⟨b, o, none⟩ v) (some b) := ⟨rfl, rfl, rfl, by simp [World.setCell], fun k hk hne => heap_setCell_other w ⟨b, o, none⟩ k v (fun e => hne (by rw [e]))⟩
      exact grown_tr hset h6
theorem there_blk {w : World} {g : Nat} {cs : Array Value} {t : TypeId} (h : w.heap[g]? = some (.cells cs t (0, 0))) : w.there g 0 cs.size := fun j hj => by
  rw [Nat.zero_add]
  exact ⟨by rw [cell_of_row _ _ _ _ _ _ h, Array.getElem?_eq_getElem hj]; rfl, by simp [World.frozen?, h]⟩
theorem wpList_store_blk {P : Program} {ops : Array Oper} {rest : List Oper} {op : Oper} {a : Act} {w : World} {Q : Exit → Act → World → Prop} (hgd : op.guard = none) (ty : TypeId) (x y : Operand) (ho : op.op = .store ty x y)
    (g : Nat) (cs cells : Array Value) (t : TypeId) (hx : a.eval x = .pointer (some ⟨g, 0, none⟩)) (hy : a.eval y = .agg cells) (hh : w.heap[g]? = some (.cells cs t (0, 0))) (hs : cells.size = cs.size)
    (hi : (P.info? ty).map (·.size) = some cells.size) (h1 : cells.all (·.oneCell') = true)
    (h : ∀ w', w'.heap[g]? = some (.cells cells t (0, 0)) → w.grownBy w' (some g) → wpList P ops Q rest (a.put op.dst undef) w') : wpList P ops Q (op :: rest) a w := by
  obtain ⟨⟨cs', h2, h3, _, h5⟩, h6⟩ := setCells_blk g t cells.toList 0 w cs hh (by simp; omega)
  refine wpList_store_mid hgd ty x y ho g 0 cells hx hy (by rw [hs]; exact there_blk hh) hi h1 (h _ ?_ h6)
  rw [h2]
  congr 2
  apply Array.ext_getElem?
  intro j
  by_cases hj : j < cells.size
  · have := h5 j (by simpa using hj)
    simpa using this
  · rw [Array.getElem?_eq_none (by omega), Array.getElem?_eq_none (by omega)]
theorem kind_of_own {w : World} {base : Nat} {e : TypeId} {size : Nat} {A : Option Addr} {n c : Nat} {xs : List Value} (h : w.ownsRow base e size (.slice A n c) n xs) {b : Nat} (hb : A.map Addr.block = some b) : ∃ cur, w.heap[b]? = some (.cells cur e (0, 0)) := by
  rcases h.2 with ⟨h', _⟩ | ⟨g, cap, cur, h', _, hg, _⟩
  · injection h' with h'; subst h'; simp at hb
  · injection h' with h'; subst h'; simp at hb; subst hb; exact ⟨cur, hg⟩
theorem ne_kinds {w : World} {a b : Nat} {c1 c2 : Array Value} {t1 t2 : TypeId} (h1 : w.heap[a]? = some (.cells c1 t1 (0, 0))) (h2 : w.heap[b]? = some (.cells c2 t2 (0, 0))) (hne : t1 ≠ t2) : a ≠ b := by
  rintro rfl
  rw [h1] at h2
  injection h2 with h2
  injection h2 with _ h2
  exact hne h2
/-- A row of its own stands in no block of another kind. -/
theorem own_off {w : World} {base p : Nat} {e t : TypeId} {size n c : Nat} {A : Option Addr} {xs : List Value} {cs : Array Value} (h : w.ownsRow base e size (.slice A n c) n xs) (hp : w.heap[p]? = some (.cells cs t (0, 0))) (hne : e ≠ t) :
    (Value.slice A n c).ownBlock = none ∨ (Value.slice A n c).ownBlock ≠ some p := by
  refine .inr fun e1 => ?_
  rcases h.2 with ⟨h', _⟩ | ⟨g, cap, cur, h', _, hg, _⟩
  · rw [h'] at e1; cases e1
  · rw [h'] at e1
    injection e1 with e1
    exact ne_kinds hg hp hne e1
/-- A row of ten cells. -/
theorem ten_cells {w : World} {g : Nat} {t : TypeId} {fr : Nat × Nat} {a0 a1 a2 a3 a4 a5 a6 a7 a8 a9 : Value} (h : w.heap[g]? = some (.cells #[a0, a1, a2, a3, a4, a5, a6, a7, a8, a9] t fr)) :
    w.cell? ⟨g, 0, none⟩ = some a0 ∧ w.cell? ⟨g, 1, none⟩ = some a1 ∧ w.cell? ⟨g, 2, none⟩ = some a2 ∧ w.cell? ⟨g, 3, none⟩ = some a3 ∧ w.cell? ⟨g, 4, none⟩ = some a4 ∧
    w.cell? ⟨g, 5, none⟩ = some a5 ∧ w.cell? ⟨g, 6, none⟩ = some a6 ∧ w.cell? ⟨g, 7, none⟩ = some a7 ∧ w.cell? ⟨g, 8, none⟩ = some a8 ∧ w.cell? ⟨g, 9, none⟩ = some a9 := by
  refine ⟨?_, ?_, ?_, ?_, ?_, ?_, ?_, ?_, ?_, ?_⟩ <;> (rw [cell_of_row _ _ _ _ _ _ h]; rfl)
theorem two_cells {w : World} {g : Nat} {t : TypeId} {fr : Nat × Nat} {a0 a1 : Value} (h : w.heap[g]? = some (.cells #[a0, a1] t fr)) : w.cell? ⟨g, 0, none⟩ = some a0 ∧ w.cell? ⟨g, 1, none⟩ = some a1 := by
  refine ⟨?_, ?_⟩ <;> (rw [cell_of_row _ _ _ _ _ _ h]; rfl)
theorem set_one (w : World) (g j : Nat) (u : Value) : w.grownBy (w.setCell ⟨g, j, none⟩ u) (some g) :=
  ⟨rfl, rfl, rfl, by simp [World.setCell], fun k hk hne => heap_setCell_other w ⟨g, j, none⟩ k u (fun e => hne (by rw [e]))⟩
theorem seven_cells {w : World} {g : Nat} {t : TypeId} {fr : Nat × Nat} {a0 a1 a2 a3 a4 a5 a6 : Value} (h : w.heap[g]? = some (.cells #[a0, a1, a2, a3, a4, a5, a6] t fr)) :
    w.cell? ⟨g, 0, none⟩ = some a0 ∧ w.cell? ⟨g, 1, none⟩ = some a1 ∧ w.cell? ⟨g, 2, none⟩ = some a2 ∧ w.cell? ⟨g, 3, none⟩ = some a3 ∧ w.cell? ⟨g, 4, none⟩ = some a4 ∧ w.cell? ⟨g, 5, none⟩ = some a5 ∧ w.cell? ⟨g, 6, none⟩ = some a6 := by
  refine ⟨?_, ?_, ?_, ?_, ?_, ?_, ?_⟩ <;> (rw [cell_of_row _ _ _ _ _ _ h]; rfl)
theorem seven_3456 {w : World} {g : Nat} {t : TypeId} {a0 a1 a2 a3 a4 a5 a6 : Value} (h : w.heap[g]? = some (.cells #[a0, a1, a2, a3, a4, a5, a6] t (0, 0))) (v3 v4 v5 v6 : Value) :
    (w.cell? ⟨g, 3, none⟩ = some a3 ∧ w.frozen? ⟨g, 3, none⟩ = false) ∧
    ((w.setCell ⟨g, 3, none⟩ v3).cell? ⟨g, 4, none⟩ = some a4 ∧ (w.setCell ⟨g, 3, none⟩ v3).frozen? ⟨g, 4, none⟩ = false) ∧
    (((w.setCell ⟨g, 3, none⟩ v3).setCell ⟨g, 4, none⟩ v4).cell? ⟨g, 5, none⟩ = some a5 ∧ ((w.setCell ⟨g, 3, none⟩ v3).setCell ⟨g, 4, none⟩ v4).frozen? ⟨g, 5, none⟩ = false) ∧
    ((((w.setCell ⟨g, 3, none⟩ v3).setCell ⟨g, 4, none⟩ v4).setCell ⟨g, 5, none⟩ v5).cell? ⟨g, 6, none⟩ = some a6 ∧ (((w.setCell ⟨g, 3, none⟩ v3).setCell ⟨g, 4, none⟩ v4).setCell ⟨g, 5, none⟩ v5).frozen? ⟨g, 6, none⟩ = false) ∧
    ((((w.setCell ⟨g, 3, none⟩ v3).setCell ⟨g, 4, none⟩ v4).setCell ⟨g, 5, none⟩ v5).setCell ⟨g, 6, none⟩ v6).heap[g]? = some (.cells #[a0, a1, a2, v3, v4, v5, v6] t (0, 0)) ∧ w.grownBy ((((w.setCell ⟨g, 3, none⟩ v3).setCell ⟨g, 4, none⟩ v4).setCell ⟨g, 5, none⟩ v5).setCell ⟨g, 6, none⟩ v6) (some g) := by
  have h1 := heap_setCell_same w g 3 _ t v3 h
  have h2 := heap_setCell_same _ g 4 _ t v4 h1
  have h3 := heap_setCell_same _ g 5 _ t v5 h2
  have h4 := heap_setCell_same _ g 6 _ t v6 h3
  exact ⟨⟨by rw [cell_of_row _ _ _ _ _ _ h]; rfl, frozen_of_row _ _ _ _ _ h⟩, ⟨by rw [cell_of_row _ _ _ _ _ _ h1]; rfl, frozen_of_row _ _ _ _ _ h1⟩, ⟨by rw [cell_of_row _ _ _ _ _ _ h2]; rfl, frozen_of_row _ _ _ _ _ h2⟩, ⟨by rw [cell_of_row _ _ _ _ _ _ h3]; rfl, frozen_of_row _ _ _ _ _ h3⟩, h4, grown_tr (grown_tr (grown_tr (set_one w g 3 v3) (set_one _ g 4 v4)) (set_one _ g 5 v5)) (set_one _ g 6 v6)⟩
theorem ten_2345 {w : World} {g : Nat} {t : TypeId} {a0 a1 a2 a3 a4 a5 a6 a7 a8 a9 : Value} (h : w.heap[g]? = some (.cells #[a0, a1, a2, a3, a4, a5, a6, a7, a8, a9] t (0, 0))) (v2 v3 v4 v5 : Value) :
    (w.cell? ⟨g, 2, none⟩ = some a2 ∧ w.frozen? ⟨g, 2, none⟩ = false) ∧
    ((w.setCell ⟨g, 2, none⟩ v2).cell? ⟨g, 3, none⟩ = some a3 ∧ (w.setCell ⟨g, 2, none⟩ v2).frozen? ⟨g, 3, none⟩ = false) ∧
    (((w.setCell ⟨g, 2, none⟩ v2).setCell ⟨g, 3, none⟩ v3).cell? ⟨g, 4, none⟩ = some a4 ∧ ((w.setCell ⟨g, 2, none⟩ v2).setCell ⟨g, 3, none⟩ v3).frozen? ⟨g, 4, none⟩ = false) ∧
    ((((w.setCell ⟨g, 2, none⟩ v2).setCell ⟨g, 3, none⟩ v3).setCell ⟨g, 4, none⟩ v4).cell? ⟨g, 5, none⟩ = some a5 ∧ (((w.setCell ⟨g, 2, none⟩ v2).setCell ⟨g, 3, none⟩ v3).setCell ⟨g, 4, none⟩ v4).frozen? ⟨g, 5, none⟩ = false) ∧
    ((((w.setCell ⟨g, 2, none⟩ v2).setCell ⟨g, 3, none⟩ v3).setCell ⟨g, 4, none⟩ v4).setCell ⟨g, 5, none⟩ v5).heap[g]? = some (.cells #[a0, a1, v2, v3, v4, v5, a6, a7, a8, a9] t (0, 0)) ∧ w.grownBy ((((w.setCell ⟨g, 2, none⟩ v2).setCell ⟨g, 3, none⟩ v3).setCell ⟨g, 4, none⟩ v4).setCell ⟨g, 5, none⟩ v5) (some g) := by
  have h1 := heap_setCell_same w g 2 _ t v2 h
  have h2 := heap_setCell_same _ g 3 _ t v3 h1
  have h3 := heap_setCell_same _ g 4 _ t v4 h2
  have h4 := heap_setCell_same _ g 5 _ t v5 h3
  exact ⟨⟨by rw [cell_of_row _ _ _ _ _ _ h]; rfl, frozen_of_row _ _ _ _ _ h⟩, ⟨by rw [cell_of_row _ _ _ _ _ _ h1]; rfl, frozen_of_row _ _ _ _ _ h1⟩, ⟨by rw [cell_of_row _ _ _ _ _ _ h2]; rfl, frozen_of_row _ _ _ _ _ h2⟩, ⟨by rw [cell_of_row _ _ _ _ _ _ h3]; rfl, frozen_of_row _ _ _ _ _ h3⟩, h4, grown_tr (grown_tr (grown_tr (set_one w g 2 v2) (set_one _ g 3 v3)) (set_one _ g 4 v4)) (set_one _ g 5 v5)⟩
theorem ten_6 {w : World} {g : Nat} {t : TypeId} {a0 a1 a2 a3 a4 a5 a6 a7 a8 a9 : Value} (h : w.heap[g]? = some (.cells #[a0, a1, a2, a3, a4, a5, a6, a7, a8, a9] t (0, 0))) (v6 : Value) :
    (w.cell? ⟨g, 6, none⟩ = some a6 ∧ w.frozen? ⟨g, 6, none⟩ = false) ∧
    (w.setCell ⟨g, 6, none⟩ v6).heap[g]? = some (.cells #[a0, a1, a2, a3, a4, a5, v6, a7, a8, a9] t (0, 0)) ∧ w.grownBy (w.setCell ⟨g, 6, none⟩ v6) (some g) := by
  have h1 := heap_setCell_same w g 6 _ t v6 h
  exact ⟨⟨by rw [cell_of_row _ _ _ _ _ _ h]; rfl, frozen_of_row _ _ _ _ _ h⟩, h1, set_one w g 6 v6⟩
end Go.Proofs.YtaghecgjmkhpcaaGreatDoor
