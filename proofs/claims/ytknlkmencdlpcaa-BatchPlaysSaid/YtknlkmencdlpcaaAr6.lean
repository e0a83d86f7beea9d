/-
The builtin copy into a row of the call's own whose elements have several cells; make of such a row. Over any program.
The walks of slices.Repeat at slots and of New.
The walks of New.
The walks of the document's own New, of SameSlots, and of the choice of a handle.
-/
import Derived.Test.YtknlkmencdlpcaaApp
import Derived.Laws.CopyOwn
import Derived.Laws.CopyRow
import Derived.Laws.MakeOwn
import Derived.Deep.RegionLaw
import Derived.Test.YtknlkmencdlpcaaAr4
namespace Go.Proofs.Ytknlkmencdlpcaa
set_option linter.unusedVariables false
set_option linter.unusedSimpArgs false
open Go Go.RowKit

theorem cut_splices {α : Type} (cur cs : List α) (k n : Nat) (h : k + cs.length ≤ n) (hk : k ≤ cur.length) :
    (cur.take k ++ cs ++ cur.drop (k + cs.length)).take n = (cur.take n).take k ++ cs ++ (cur.take n).drop (k + cs.length) := by
  have e1 : (cur.take k ++ cs).length = k + cs.length := by simp; omega
  rw [List.take_append, e1, List.take_of_length_le (by omega), List.take_take, List.drop_take, show min k n = k by omega]

section
variable {P : Program} {t e : TypeId} {z : Value} {size bytes : Nat}
theorem run_cpys (hT : SliceT P t e z size bytes) (w : World) (ty : TypeId) (base g n c : Nat) (xs : List Value) (hown : w.ownsRow base e size (.slice (some ⟨g, 0, none⟩) n c) n xs)
    (k dl dc : Nat) (hk : k + dl = n) (ad : Addr) (m d : Nat) (news : List Value) (hl : news.length = min m dl * size) (hr : Rd w (some ad) news) (h1 : ∀ u ∈ news, u.oneCell' = true) :
    ∃ w', (Builtin.copy_ #[t, t] ty #[.slice (some ⟨g, k * size, none⟩) dl dc, .slice (some ad) m d]).run P w = .ok (goInt ((min m dl : Nat) : Int)) w' ∧
      w'.ownsRow base e size (.slice (some ⟨g, 0, none⟩) n c) n (xs.take (k * size) ++ news ++ xs.drop (k * size + news.length)) ∧ w.grownBy w' (some g) ∧ w'.heap.size = w.heap.size := by
  obtain ⟨ht, hzs, hsz, hby, i, hi, hz, hs, hbt⟩ := hT
  have hxl := hown.1
  rcases hown.2 with ⟨h', _⟩ | ⟨g', cap', cur, h', hbg, hg, hnc, hcm, hcs, htake⟩
  · simp at h'
  · simp only [Value.slice.injEq, Option.some.injEq, Addr.mk.injEq, and_true, true_and] at h'
    obtain ⟨rfl, rfl⟩ := h'
    have hcells : ∀ j v, news[j]? = some v → w.cell? (ad.add j) = some v := by
      intro j u hu
      obtain ⟨ad', h, hc⟩ := hr j u hu
      injection h with h; subst h; exact hc
    have hmul : k * size + min m dl * size ≤ n * size := by
      rw [← Nat.add_mul]; exact Nat.mul_le_mul_right _ (by omega)
    have hmul2 : n * size ≤ c * size := Nat.mul_le_mul_right _ hnc
    have hld := run_loadCells_list (P := P) w ad news hcells
    rw [hl] at hld
    have hst := run_storeCells_at P g (k * size) e news 0 cur w hg (by omega) h1
    have hrun : (Builtin.copy_ #[t, t] ty #[.slice (some ⟨g, k * size, none⟩) dl dc, .slice (some ad) m d]).run P w = .ok (goInt ((min m dl : Nat) : Int)) (w.setRow g (cur.toList.take (k * size) ++ news ++ cur.toList.drop (k * size + news.length)).toArray) := by
      have e2 : Nat.min m dl = min m dl := rfl
      simp [Builtin.copy_, run_underlying ht, Builtin.lenOf, Builtin.firstCells, sizeOf, typeInfo, hi, hs, e2, hld, hst]
    refine ⟨_, hrun, ⟨?_, .inr ⟨g, c, _, rfl, hbg, setRow_heap w g cur _ e _ hg, hnc, hcm, ?_, ?_⟩⟩, ⟨rfl, rfl, rfl, by simp, fun j _ hj => setRow_other w g j _ (fun e => hj (by simp [e]))⟩, by simp⟩
    · simp only [List.length_append, List.length_take, List.length_drop, hxl]
      omega
    · simp only [List.size_toArray, List.length_append, List.length_take, List.length_drop, Array.length_toList]
      omega
    · rw [← htake]
      have := cut_splices cur.toList news (k * size) (n * size) (by omega) (by simp; omega)
      simpa using this
theorem step_cpys (hT : SliceT P t e z size bytes) {w : World} {ops : Array Oper} {o : Oper} {a : Act} {K : Act → World → Prop} {Q : Exit → Act → World → Prop} {E : Prop} (hgd : o.guard = none) (s x : Operand)
    (ho : o.op = .call { callee := .builtin .copy, args := #[s, x], argTypes := #[t, t] })
    (base g n c : Nat) (xs : List Value) (hown : w.ownsRow base e size (.slice (some ⟨g, 0, none⟩) n c) n xs)
    (k dl dc : Nat) (hs : a.eval s = .slice (some ⟨g, k * size, none⟩) dl dc) (hk : k + dl = n) (ad : Addr) (m d : Nat) (hx : a.eval x = .slice (some ad) m d) (news : List Value) (hl : news.length = min m dl * size) (hr : Rd w (some ad) news) (h1 : ∀ u ∈ news, u.oneCell' = true)
    (h : ∀ w', w'.ownsRow base e size (.slice (some ⟨g, 0, none⟩) n c) n (xs.take (k * size) ++ news ++ xs.drop (k * size + news.length)) → w.grownBy w' (some g) → Hid (w'.heap.size = w.heap.size) →
      K (a.put o.dst (goInt ((min m dl : Nat) : Int))) w') : if Region.wanted o (yielded ops a.tmps) = true then Oper.wp P o a w K Q else E := by
  obtain ⟨w', hrun, h2, h3, h4⟩ := run_cpys hT w o.type base g n c xs hown k dl dc hk ad m d news hl hr h1
  rw [if_pos (by simp [Region.wanted, hgd])]
  unfold Oper.wp execOp
  simp only [ho, resolve, invoke, builtin, Sem.run_bind, Sem.run_pure, Result.andThen_ok, List.map_toArray, List.map_cons, List.map_nil, hs, hx, hrun]
  exact h w' h2 h3 h4
theorem wpList_cpys (hT : SliceT P t e z size bytes) {w : World} {ops : Array Oper} {rest : List Oper} {o : Oper} {a : Act} {Q : Exit → Act → World → Prop} (hgd : o.guard = none) (s x : Operand)
    (ho : o.op = .call { callee := .builtin .copy, args := #[s, x], argTypes := #[t, t] })
    (base g n c : Nat) (xs : List Value) (hown : w.ownsRow base e size (.slice (some ⟨g, 0, none⟩) n c) n xs)
    (k dl dc : Nat) (hs : a.eval s = .slice (some ⟨g, k * size, none⟩) dl dc) (hk : k + dl = n) (ad : Addr) (m d : Nat) (hx : a.eval x = .slice (some ad) m d) (news : List Value) (hl : news.length = min m dl * size) (hr : Rd w (some ad) news) (h1 : ∀ u ∈ news, u.oneCell' = true)
    (h : ∀ w', w'.ownsRow base e size (.slice (some ⟨g, 0, none⟩) n c) n (xs.take (k * size) ++ news ++ xs.drop (k * size + news.length)) → w.grownBy w' (some g) → Hid (w'.heap.size = w.heap.size) →
      wpList P ops Q rest (a.put o.dst (goInt ((min m dl : Nat) : Int))) w') : wpList P ops Q (o :: rest) a w := by
  obtain ⟨w', hrun, h2, h3, h4⟩ := run_cpys hT w o.type base g n c xs hown k dl dc hk ad m d news hl hr h1
  refine wpList_plain hgd fun K hK => ?_
  unfold Oper.wp execOp
  simp only [ho, resolve, invoke, builtin, Sem.run_bind, Sem.run_pure, Result.andThen_ok, List.map_toArray, List.map_cons, List.map_nil, hs, hx, hrun]
  exact hK _ _ (h w' h2 h3 h4)
theorem run_mks (hT : SliceT P t e z size bytes) (n : Nat) (hb : n * bytes ≤ 281474976710656) (kl kc : IntKind) (w : World) :
    (Instr.makeSlice t (.int kl (n : Int)) (.int kc (n : Int))).run P w = .ok (.slice (some ⟨w.heap.size, 0, none⟩) n n) (w.alloc (.cells (madeCells z.cells (n * size)) e)) := by
  obtain ⟨ht, hzs, hsz, hby, i, hi, hz, hs, hbt⟩ := hT
  subst hbt
  have h1 : n * 1 ≤ n * i.bytes := Nat.mul_le_mul_left _ hby
  have hb' : (i.bytes : Int) * (n : Int) ≤ 281474976710656 := by
    have : ((n * i.bytes : Nat) : Int) ≤ 281474976710656 := by omega
    rw [Int.natCast_mul] at this
    rw [Int.mul_comm]; exact this
  have hr := run_make (P := P) w t e i z ht hi hz kl kc n n (by omega) (by omega) hb' (by omega)
  simp only [Int.toNat_natCast, hs] at hr
  exact hr
end
end Go.Proofs.Ytknlkmencdlpcaa

namespace Go.Proofs.Ytknlkmencdlpcaa
set_option linter.unusedVariables false
set_option linter.unusedSimpArgs false
open Go.RowKit

theorem mask32 (k : Nat) (hk : k ≤ 1024) : bits .and .u64 (k : Int) 4294967295 = k := by
  rw [show (4294967295 : Int) = ((4294967295 : Nat) : Int) from rfl, u64_and_nat k _ (by omega) (by omega)]
  have := Nat.and_two_pow_sub_one_eq_mod k 32
  simp only [Nat.reducePow, Nat.reduceSub] at this
  rw [this]
  omega
theorem wrap_u64 (k : Int) (h0 : 0 ≤ k) (h1 : k ≤ 1024) : IntKind.u64.wrap k = k := by
  simp [IntKind.wrap, IntKind.signed, IntKind.bits]
  omega
set_option maxRecDepth 20000 in
set_option maxHeartbeats 1000000 in
theorem mul64_one (k : Nat) (w : World) (hk : k ≤ 1024) : Calls Try.prog 163 #[.int .u64 1, .int .u64 k] w fun e w' => e = .returned (.tuple #[.int .u64 0, .int .u64 k]) ∧ w = w' := by
  have h1 := mask32 k hk
  have h2 : bits .and .u64 1 4294967295 = 1 := by decide
  have h3 : bits .and .u64 0 4294967295 = 0 := by decide
  have h4 : (k : Int) / 4294967296 = 0 := by omega
  have h5 := wrap_u64 k (by omega) (by omega)
  have h6 : IntKind.u64.wrap 0 = 0 := by decide
  go_enter Try.func163, Try.ntmps163
  go_wp2
  exact bodyPost_ret (v := .tuple #[.int .u64 0, .int .u64 k]) (by simp [results, Try.results163, go_sem, h1, h2, h3, h4, h5, h6]) rfl ⟨rfl, rfl⟩
theorem mul_one' (k : Nat) (w : World) (hk : k ≤ 1024) : Calls Try.prog 161 #[.int .u64 1, .int .u64 k] w fun e w' => e = .returned (.tuple #[.int .u64 0, .int .u64 k]) ∧ w = w' := by
  go_enter Try.func161, Try.ntmps161
  go_wp2_with (go_at_call 163; (with_reducible refine (mul64_one k _ hk).mono ?_); rintro e w1 ⟨rfl, rfl⟩)
  exact bodyPost_ret (v := .tuple #[.int .u64 0, .int .u64 k]) (by simp [results, Try.results161, go_sem]) rfl ⟨rfl, rfl⟩
theorem rowS_made (m : Nat) : (madeCells (Value.agg #[.int .u32 0, .int .i64 0]).cells (m * 2)).toList = rowS (List.replicate m (0, 0)) := by
  have hz : (Value.agg #[.int .u32 0, .int .i64 0]).cells = #[.int .u32 0, .int .i64 0] := by simp [Value.cells]
  rw [hz]
  apply List.ext_getElem?
  intro j
  by_cases hj : j < m * 2
  · have e : j = j / 2 * 2 ∨ j = j / 2 * 2 + 1 := by omega
    have hk : j / 2 < m := by omega
    rcases e with e | e
    · rw [e, rowS_gen _ _ (by simpa using hk)]
      simp [madeCells, show j / 2 * 2 < m * 2 by omega]
    · rw [e, rowS_ref _ _ (by simpa using hk)]
      have : (j / 2 * 2 + 1) % 2 = 1 := by omega
      simp [madeCells, show j / 2 * 2 + 1 < m * 2 by omega, this]
  · rw [List.getElem?_eq_none (by simp [madeCells]; omega), List.getElem?_eq_none (by rw [rowS_length]; simp; omega)]
/-- So many slots that are new, and behind them zeros. -/
def partly (j m : Nat) : List Slo := List.replicate j (1, 0) ++ List.replicate (m - j) (0, 0)
theorem rowS_drop (S : List Slo) (k : Nat) : (rowS S).drop (k * 2) = rowS (S.drop k) := by
  induction S generalizing k with
  | nil => simp [rowS]
  | cons s S ih =>
    cases k with
    | zero => simp
    | succ k => rw [rowS_cons, show (k + 1) * 2 = k * 2 + 1 + 1 by omega]; simp only [List.drop_succ_cons, ih]
theorem rowS_splice (T U : List Slo) (j : Nat) : (rowS T).take (j * 2) ++ rowS U ++ (rowS T).drop (j * 2 + (rowS U).length) = rowS (T.take j ++ U ++ T.drop (j + U.length)) := by
  rw [rowS_length, ← Nat.add_mul, rowS_take, rowS_drop, rowS_append, rowS_append]
theorem partly_more (j k m : Nat) (h : j + k ≤ m) : (partly j m).take j ++ List.replicate k (1, 0) ++ (partly j m).drop (j + (List.replicate k ((1, 0) : Slo)).length) = partly (j + k) m := by
  unfold partly
  rw [List.take_left' (by simp), List.drop_append, List.length_replicate, List.length_replicate, List.drop_of_length_le (by simp), List.nil_append, List.drop_replicate, List.replicate_append_replicate]
  congr 2
  omega
theorem partly_take (j k m : Nat) (h : k ≤ j) : (partly j m).take k = List.replicate k (1, 0) := by
  unfold partly
  rw [List.take_append_of_le_length (by simp; omega), List.take_replicate, Nat.min_eq_left h]
set_option maxRecDepth 20000 in
set_option maxHeartbeats 1000000 in
theorem repeat_any (X : Addr) (m : Nat) (w : World) (h1 : 1 ≤ m) (h2 : m ≤ 1024) (hr : Rd w (some X) (rowS [(1, 0)])) :
    Calls Try.prog 140 #[.slice (some X) 1 1, .int .i64 m] w fun e w' => ∃ g, e = .returned (.slice (some ⟨g, 0, none⟩) m m) ∧
      w'.ownsRow w.heap.size 150 2 (.slice (some ⟨g, 0, none⟩) m m) m (rowS (List.replicate m (1, 0))) ∧ Below w.heap.size w w' := by
  obtain ⟨C, hC, hmk⟩ : ∃ C : Array Value, C.toList = rowS (List.replicate m (0, 0)) ∧ ∀ w : World, (Instr.makeSlice 81 (.int .i64 (m : Int)) (.int .i64 (m : Int))).run Try.prog w = .ok (.slice (some ⟨w.heap.size, 0, none⟩) m m) (w.alloc (.cells C 150)) :=
    ⟨_, rowS_made m, run_mks slS m (by omega) .i64 .i64⟩
  have ho0 := World.ownsRow_lit (base := w.heap.size) (e := 150) (size := 2) w C m (Nat.le_refl _) (by unfold maxLen; omega) (by rw [← Array.length_toList, hC, rowS_length]; simp)
  rw [hC] at ho0
  have hrd : Rd (w.alloc (.cells C 150)) (some X) (rowS [(1, 0)]) := hr.below ((Below.refl _ _).alloc (Nat.le_refl _) _)
  have hb0 := (Below.refl w.heap.size w).alloc (Nat.le_refl _) (.cells C 150)
  have n1 : ¬ (m : Int) < 0 := by omega
  have n2 : (m : Int) % 18446744073709551616 = m := by omega
  have n3 : decide ((9223372036854775807 : Int) < (m : Int)) = false := by simp; omega
  obtain ⟨w2, hcp, ho2, hg2, HZ2⟩ := run_cpys slS (w.alloc (.cells C 150)) 3 w.heap.size w.heap.size m m (rowS (List.replicate m (0, 0))) ho0 0 m m (by omega) X 1 1 (rowS [(1, 0)]) (by rw [rowS_length, Nat.min_eq_left h1]; rfl) hrd (rowS_one _)
  rw [Nat.zero_mul, Nat.min_eq_left h1] at hcp
  clear hr hC
  go_enter Try.func140, Try.ntmps140
  go_wp2_with (go_at_call 161; (with_reducible refine (mul_one' m _ h2).mono ?_); rintro e w1 ⟨rfl, rfl⟩)
  rw [rowS_splice] at ho2
  have e2 : (List.replicate m ((0, 0) : Slo)).take 0 ++ [(1, 0)] ++ (List.replicate m ((0, 0) : Slo)).drop (0 + [((1, 0) : Slo)].length) = partly 1 m := by
    simp [partly, List.drop_replicate]
  rw [e2] at ho2
  have hb2 : Below w.heap.size w w2 := hb0.grown hg2 (by simp) (by simp)
  clear e2 hrd ho0 HZ2 hcp
  go_loopw [8] (fun t wr => ∃ j : Nat, t = .int .i64 j ∧ 1 ≤ j ∧ j ≤ m ∧ wr.ownsRow w.heap.size 150 2 (.slice (some ⟨w.heap.size, 0, none⟩) m m) m (rowS (partly j m)) ∧ Below w.heap.size w wr) (fun t _ => m - (intOf t).toNat)
  case atStart => exact ⟨1, rfl, Nat.le_refl _, h1, ho2, hb2⟩
  case round =>
    obtain ⟨j, rfl, hj1, hjm, hown, hbr⟩ := hrel
    by_cases hlt : j < m
    · have hne : ¬ m = j := by omega
      have hne' : ¬ j = m := by omega
      have hmin : min j (m - j) ≤ j := by omega
      go_wp2
      obtain ⟨w3, hcp, ho3, hg3, HZ3⟩ := run_cpys slS wr.drew 3 w.heap.size w.heap.size m m (rowS (partly j m)) hown j (m - j) (m - j) (by omega) ⟨w.heap.size, 0, none⟩ j m (rowS (List.replicate (min j (m - j)) (1, 0))) (by rw [rowS_length, List.length_replicate]) (by rw [← partly_take j _ m hmin, ← rowS_take]; exact (rd_row hown).take _) (rowS_one _)
      have e1 : (1 : Int) ≤ (min j (m - j) : Nat) := by omega
      obtain ⟨x, hx⟩ : ∃ x, x = min j (m - j) := ⟨_, rfl⟩
      rw [← hx] at hcp
      have HX := Lib.hid hx
      rw [rowS_splice, ← hx, partly_more j x m (by omega)] at ho3
      have hx1 : 1 ≤ x := by omega
      have hx2 : x ≤ m - j := by omega
      clear hx e1
      refine region_plan (calmB_sound _) (.leaf [0, 1, 2, 3, 4, 5, 6, 7, 8, 9]) (by kernel_rfl) (by kernel_rfl) (by kernel_rfl) ?_
      refine wpPlan_leaf fun K hK => ?_
      simp only [List.filterMap_cons, List.filterMap_nil, List.getElem?_toArray, List.getElem?_cons_succ, List.getElem?_cons_zero]
      go_wp2
      refine ⟨⟨j + x, rfl, by omega, by omega, ho3, ?_⟩, by simp [intOf]; omega⟩
      exact hbr.drew.grown hg3 hbr.size (by simp)
    · go_wp2
      go_ret
      obtain rfl : j = m := by omega
      exact ⟨_, rfl, by simpa [partly] using hown, hbr⟩
end Go.Proofs.Ytknlkmencdlpcaa

namespace Go.Proofs.Ytknlkmencdlpcaa
set_option linter.unusedVariables false
set_option linter.unusedSimpArgs false
open Go.RowKit

/-- How many slots are made. -/
def sizeS (N : Int) : Nat := (max 1 (min N 1024)).toNat
theorem sizeS_is (N : Int) : ((sizeS N : Nat) : Int) = max 1 (min N 1024) ∧ 1 ≤ sizeS N ∧ sizeS N ≤ 1024 := by
  unfold sizeS; omega
theorem repeat_any' (M : Int) (X : Addr) (m : Nat) (w : World) (hM : (m : Int) = M) (h1 : 1 ≤ m) (h2 : m ≤ 1024) (hr : Rd w (some X) (rowS [(1, 0)])) :
    Calls Try.prog 140 #[.slice (some X) 1 1, .int .i64 M] w fun e w' => ∃ g, e = .returned (.slice (some ⟨g, 0, none⟩) m m) ∧
      w'.ownsRow w.heap.size 150 2 (.slice (some ⟨g, 0, none⟩) m m) m (rowS (List.replicate m (1, 0))) ∧ Below w.heap.size w w' := by
  subst hM
  exact repeat_any X m w h1 h2 hr
set_option maxRecDepth 20000 in
set_option maxHeartbeats 1000000 in
theorem new_any (N : Int) (w : World) (hN : -9223372036854775808 ≤ N ∧ N ≤ 9223372036854775807) :
    Calls Try.prog 97 #[.int .i64 N] w fun e w' => ∃ p, e = .returned (.pointer (some ⟨p, 0, none⟩)) ∧ (∃ q c, AA w' w.heap.size p q (sizeS N) c (List.replicate (sizeS N) (1, 0))) ∧ Below w.heap.size w w' := by
  obtain ⟨h1, h2, h3⟩ := sizeS_is N
  have H1 := Lib.hid h1
  clear h1
  have hrd : Rd (w.alloc (.cells #[.int .u32 1, .int .i64 0] 150)) (some ⟨w.heap.size, 0, none⟩) (rowS [(1, 0)]) :=
    rd_row (World.ownsRow_lit (base := 0) (e := 150) (size := 2) w #[.int .u32 1, .int .i64 0] 1 (Nat.zero_le _) (by unfold maxLen; omega) rfl)
  go_enter Try.func97, Try.ntmps97
  go_wp2_with (go_at_call 140; (with_reducible refine (repeat_any' _ _ (sizeS N) _ (by rw [H1.out]; omega) h2 h3 hrd).mono ?_); rintro e w1 ⟨q, rfl, ho, hb⟩)
  all_goals
    go_ret
    have hb0 := ((Below.refl w.heap.size w).alloc (Nat.le_refl _) (.cells #[.int .u32 1, .int .i64 0] 150)).trans (hb.mono (by simp))
    refine ⟨w1.heap.size, rfl, ⟨q, sizeS N, ⟨by decide, hb0.size, heap_alloc_new w1 _, ?_, by simp, h3, by omega, ?_⟩⟩, hb0.alloc hb0.size _⟩
    · exact (own_mono ho (by simp)).alloc _
    · intro s hs
      rw [List.eq_of_mem_replicate hs]
      decide
end Go.Proofs.Ytknlkmencdlpcaa

namespace Go.Proofs.Ytknlkmencdlpcaa
set_option linter.unusedVariables false
set_option linter.unusedSimpArgs false
open Go.RowKit

abbrev RA := fun (w : World) (base p q n c : Nat) (S : List Slo) => ∃ r, ArAt 85 r w base p q n c S
theorem slB : SliceT Try.prog 83 22 (.slice none 0 0) 1 24 := sliceT_of Try.underlying83 (by kernel_rfl) rfl (by omega) (by omega)
theorem own_kind {w : World} {base : Nat} {e : TypeId} {size : Nat} {A : Option Addr} {n c : Nat} {xs : List Value} (h : w.ownsRow base e size (.slice A n c) n xs) {b : Nat} (hb : A.map Addr.block = some b) : ∃ cur, w.heap[b]? = some (.cells cur e (0, 0)) := by
  rcases h.2 with ⟨h', _⟩ | ⟨g, cap, cur, h', _, hg, _⟩
  · injection h' with h'; subst h'; simp at hb
  · injection h' with h'; subst h'; simp at hb; subst hb; exact ⟨cur, hg⟩
theorem kinds_ne {w : World} {a b : Nat} {c1 c2 : Array Value} {t1 t2 : TypeId} (h1 : w.heap[a]? = some (.cells c1 t1 (0, 0))) (h2 : w.heap[b]? = some (.cells c2 t2 (0, 0))) (hne : t1 ≠ t2) : a ≠ b := by
  rintro rfl
  rw [h1] at h2
  injection h2 with h2
  injection h2 with _ h2
  exact hne h2
theorem run_max2 (x y : Int) (w : World) : (Builtin.max_ #[3, 3] 3 #[.int .i64 x, .int .i64 y]).run Try.prog w = .ok (.int .i64 (max x y)) w := by
  simp [Builtin.max_, Builtin.max2]
  split <;> omega
theorem run_min2 (x y : Int) (w : World) : (Builtin.min_ #[3, 3] 3 #[.int .i64 x, .int .i64 y]).run Try.prog w = .ok (.int .i64 (min x y)) w := by
  simp [Builtin.min_, Builtin.min2]
  split <;> omega
/-- The document's own store while it is made. -/
structure Made (w : World) (base p k j : Nat) (A B : Option Addr) (c d : Nat) : Prop where
  hp : base ≤ p
  head : w.heap[p]? = some (.cells #[.slice A k c, .slice B j d] 85 (0, 0))
  rowL : w.ownsRow base 150 2 (.slice A k c) k (rowS (List.replicate k (1, 0)))
  rowB : w.ownsRow base 22 1 (.slice B j d) j (List.replicate j (.slice none 0 0))
theorem ne_of_kinds {w : World} {base p : Nat} {e t : TypeId} {size n c : Nat} {A : Option Addr} {xs : List Value} {cs : Array Value} (h : w.ownsRow base e size (.slice A n c) n xs) (hp : w.heap[p]? = some (.cells cs t (0, 0))) (hne : e ≠ t) : A.map Addr.block ≠ some p := by
  intro he
  obtain ⟨cur, hc⟩ := own_kind h he
  exact kinds_ne hc hp hne rfl
theorem rows_ne {w : World} {base base' : Nat} {e t : TypeId} {size size' n c m d : Nat} {A B : Option Addr} {xs ys : List Value} (h : w.ownsRow base e size (.slice A n c) n xs) (h' : w.ownsRow base' t size' (.slice B m d) m ys) (hne : e ≠ t) :
    (Value.slice B m d).ownBlock = none ∨ (Value.slice B m d).ownBlock ≠ A.map Addr.block := by
  rw [ownBlock_slice]
  cases hB : B.map Addr.block with
  | none => exact .inl rfl
  | some b =>
    refine .inr fun he => ?_
    obtain ⟨cur, hc⟩ := own_kind h' hB
    exact ne_of_kinds h hc hne he.symm
theorem row_ne_cell {w : World} {base p : Nat} {e t : TypeId} {size n c : Nat} {A : Option Addr} {xs : List Value} {cs : Array Value} (h : w.ownsRow base e size (.slice A n c) n xs) (hp : w.heap[p]? = some (.cells cs t (0, 0))) (hne : e ≠ t) :
    (Value.slice A n c).ownBlock = none ∨ (Value.slice A n c).ownBlock ≠ some p := by
  rw [ownBlock_slice]
  exact .inr (ne_of_kinds h hp hne)
theorem alloc_heap {w : World} {p : Nat} {o o' : Obj} (h : w.heap[p]? = some o) : (w.alloc o').heap[p]? = some o := ((World.grownBy_alloc w o' none).block p (block_lt h) (by simp)).trans h
theorem Made.app1 {w w1 : World} {base p k j : Nat} {A B : Option Addr} {c d : Nat} (h : Made w base p k j A B c d) {lit : Obj} (hg : (w.alloc lit).grownBy w1 (A.map Addr.block)) {A1 : Option Addr} {c1 : Nat}
    (ho1 : w1.ownsRow base 150 2 (.slice A1 (k + 1) c1) (k + 1) (rowS (List.replicate k (1, 0)) ++ rowS [(1, 0)])) :
    w1.heap[p]? = some (.cells #[.slice A k c, .slice B j d] 85 (0, 0)) ∧ Made (w1.setCell ⟨p, 0, none⟩ (.slice A1 (k + 1) c1)) base p (k + 1) j A1 B c1 d := by
  rw [← rowS_append, show List.replicate k ((1, 0) : Slo) ++ [(1, 0)] = List.replicate (k + 1) (1, 0) by rw [List.replicate_succ']] at ho1
  have h0 := alloc_heap (o' := lit) h.head
  have d1 := (hg.block p (block_lt h0) (fun e => ne_of_kinds h.rowL h.head (by decide) e.symm)).trans h0
  have hB1 := (h.rowB.alloc lit).kept hg (rows_ne h.rowL h.rowB (by decide))
  exact ⟨d1, h.hp, heap_setCell_same w1 p 0 _ _ _ d1, ho1.kept (grown_setCell w1 ⟨p, 0, none⟩ _) (row_ne_cell ho1 d1 (by decide)), hB1.kept (grown_setCell w1 ⟨p, 0, none⟩ _) (row_ne_cell hB1 d1 (by decide))⟩
theorem Made.app2 {w w1 : World} {base p k j : Nat} {A B : Option Addr} {c d : Nat} (h : Made w base p k j A B c d) {lit : Obj} (hg : (w.alloc lit).grownBy w1 (B.map Addr.block)) {B1 : Option Addr} {d1 : Nat}
    (ho1 : w1.ownsRow base 22 1 (.slice B1 (j + 1) d1) (j + 1) (List.replicate j (.slice none 0 0) ++ [.slice none 0 0])) :
    w1.heap[p]? = some (.cells #[.slice A k c, .slice B j d] 85 (0, 0)) ∧ Made (w1.setCell ⟨p, 1, none⟩ (.slice B1 (j + 1) d1)) base p k (j + 1) A B1 c d1 := by
  rw [← List.replicate_succ'] at ho1
  have h0 := alloc_heap (o' := lit) h.head
  have e1 := (hg.block p (block_lt h0) (fun e => ne_of_kinds h.rowB h.head (by decide) e.symm)).trans h0
  have hA1 := (h.rowL.alloc lit).kept hg (rows_ne h.rowB h.rowL (by decide))
  exact ⟨e1, h.hp, heap_setCell_same w1 p 1 _ _ _ e1, hA1.kept (grown_setCell w1 ⟨p, 1, none⟩ _) (row_ne_cell hA1 e1 (by decide)), ho1.kept (grown_setCell w1 ⟨p, 1, none⟩ _) (row_ne_cell ho1 e1 (by decide))⟩
set_option maxRecDepth 20000 in
set_option maxHeartbeats 1000000 in
theorem rnew_full (N : Int) (w : World) (hN : -9223372036854775808 ≤ N ∧ N ≤ 9223372036854775807) :
    Calls Try.prog 39 #[.int .i64 N] w fun e w' => ∃ p, e = .returned (.pointer (some ⟨p, 0, none⟩)) ∧ (∃ q c B d, ArAt 85 [.slice B (sizeS N) d] w' w.heap.size p q (sizeS N) c (List.replicate (sizeS N) (1, 0)) ∧ w'.ownsRow w.heap.size 22 1 (.slice B (sizeS N) d) (sizeS N) (List.replicate (sizeS N) (.slice none 0 0))) ∧ Below w.heap.size w w' := by
  obtain ⟨h1, h2, h3⟩ := sizeS_is N
  have H1 := Lib.hid h1
  clear h1
  generalize sizeS N = n at *
  obtain ⟨M, hM⟩ : ∃ M, M = max N 1 := ⟨_, rfl⟩
  have hmx : ∀ wx, (Builtin.max_ #[3, 3] 3 #[.int .i64 N, .int .i64 1]).run Try.prog wx = .ok (.int .i64 M) wx := fun wx => by rw [hM]; exact run_max2 N 1 wx
  have hmn : ∀ wx, (Builtin.min_ #[3, 3] 3 #[.int .i64 M, .int .i64 1024]).run Try.prog wx = .ok (.int .i64 n) wx := fun wx => by rw [show (n : Int) = min M 1024 by rw [H1.out, hM]; omega]; exact run_min2 M 1024 wx
  clear hM
  have hb0 := (Below.refl w.heap.size w).alloc (Nat.le_refl _) (.cells #[.slice none 0 0, .slice none 0 0] 85)
  have hm0 : Made (w.alloc (.cells #[.slice none 0 0, .slice none 0 0] 85)) w.heap.size w.heap.size 0 0 none none 0 0 :=
    ⟨Nat.le_refl _, heap_alloc_new w _, World.ownsRow_nil _ _ _ _, World.ownsRow_nil _ _ _ _⟩
  go_enter Try.func39, Try.ntmps39
  go_wp2
  go_loopw [4] (fun i wr => ∃ (k : Nat) (A B : Option Addr) (c d : Nat), i = .int .i64 k ∧ k ≤ n ∧ Made wr w.heap.size w.heap.size k k A B c d ∧ Below w.heap.size w wr) (fun i _ => n - (intOf i).toNat)
  case atStart => exact ⟨0, none, none, 0, 0, rfl, Nat.zero_le _, hm0, hb0⟩
  case round =>
    clear hm0 hb0
    obtain ⟨k, A, B, c, d, rfl, hkn, hM, hbr⟩ := hrel
    obtain ⟨m0, m1⟩ := row2_cells hM.head
    have hbs := hbr.size
    by_cases hlt : k < n
    · have hbL := own_from hM.rowL
      have hbB := own_from hM.rowB
      go_wp2_with (first
        | (at_builtin; refine wpList_app slS rfl _ _ rfl w.heap.size A k c (rowS (List.replicate k (1, 0))) rfl (hM.rowL.alloc _) (some ⟨wr.heap.size, 0, none⟩) 1 1 (rowS [(1, 0)]) rfl rfl (rd_row (World.ownsRow_lit (base := 0) (e := 150) (size := 2) wr #[.int .u32 1, .int .i64 0] 1 (Nat.zero_le _) (by unfold maxLen; omega) rfl)) (rowS_one _) (by omega) (by simp; omega) ?_; intro A1 c1 w1 ho1 hg1 hA1; obtain ⟨e1, hM1⟩ := hM.app1 hg1 ho1; obtain ⟨x0, x1⟩ := row2_cells e1; have f0 := frozen_row2 (j := 0) e1; obtain ⟨y0, y1⟩ := row2_cells hM1.head; have hB1 := ((hbr.alloc hbs (.cells #[.int .u32 1, .int .i64 0] 150)).grown hg1 (by simp; omega) hbL).setCell (p := ⟨w.heap.size, 0, none⟩) (Nat.le_refl _) (.slice A1 (k + 1) c1); generalize hW : w1.setCell ⟨w.heap.size, 0, none⟩ (.slice A1 (k + 1) c1) = W1 at *; have hbs1 := hB1.size)
        | (at_builtin; refine wpList_app slB rfl _ _ rfl w.heap.size B k d (List.replicate k (.slice none 0 0)) rfl (hM1.rowB.alloc _) (some ⟨W1.heap.size, 0, none⟩) 1 1 [.slice none 0 0] rfl rfl (Rd.own (World.ownsRow_lit (base := 0) (e := 22) (size := 1) W1 #[.slice none 0 0] 1 (Nat.zero_le _) (by unfold maxLen; omega) rfl)) (by simp [Value.oneCell']) (by omega) (by simp; omega) ?_; intro B1 d1 w2 ho2 hg2 hA2; obtain ⟨e2, hM2⟩ := hM1.app2 hg2 ho2; obtain ⟨z0, z1⟩ := row2_cells e2; have f1 := frozen_row2 (j := 1) e2; have hB2 := ((hB1.alloc hbs1 (.cells #[.slice none 0 0] 22)).grown hg2 (by simp; omega) hbB).setCell (p := ⟨w.heap.size, 1, none⟩) (Nat.le_refl _) (.slice B1 (k + 1) d1)))
      exact ⟨⟨k + 1, A1, B1, c1, d1, rfl, by omega, hM2, hB2⟩, by simp [intOf]; omega⟩
    · obtain rfl : k = n := by omega
      obtain ⟨g, cap, hv, _⟩ := hM.rowL.form (by omega)
      injection hv with hv1 hv2
      subst hv1
      go_wp2
      go_ret
      refine ⟨w.heap.size, rfl, ⟨g, c, B, d, ⟨by decide, Nat.le_refl _, hM.head, hM.rowL, by simp, h3, by omega, ?_⟩, hM.rowB⟩, hbr⟩
      intro s hs
      rw [List.eq_of_mem_replicate hs]
      decide
theorem rnew_any (N : Int) (w : World) (hN : -9223372036854775808 ≤ N ∧ N ≤ 9223372036854775807) :
    Calls Try.prog 39 #[.int .i64 N] w fun e w' => ∃ p, e = .returned (.pointer (some ⟨p, 0, none⟩)) ∧ (∃ q c, RA w' w.heap.size p q (sizeS N) c (List.replicate (sizeS N) (1, 0))) ∧ Below w.heap.size w w' :=
  (rnew_full N w hN).mono fun e w' ⟨p, h1, ⟨q, c, B, d, h2, h3⟩, h4⟩ => ⟨p, h1, ⟨q, c, _, h2⟩, h4⟩
theorem rd_at {w : World} {g : Nat} {xs : List Value} (h : Rd w (some ⟨g, 0, none⟩) xs) {j : Nat} {u : Value} (hu : xs[j]? = some u) : w.cell? ⟨g, j, none⟩ = some u := by
  obtain ⟨ad, he, hc⟩ := h j u hu
  injection he with he
  subst he
  rwa [add_lit] at hc
set_option maxRecDepth 20000 in
set_option maxHeartbeats 1000000 in
theorem same_any (g1 g2 n c1 c2 : Nat) (S : List Slo) (w : World) (hlen : S.length = n) (htop : n ≤ 1024) (hr1 : Rd w (some ⟨g1, 0, none⟩) (rowS S)) (hr2 : Rd w (some ⟨g2, 0, none⟩) (rowS S)) :
    Calls Try.prog 55 #[.slice (some ⟨g1, 0, none⟩) n c1, .slice (some ⟨g2, 0, none⟩) n c2] w fun e w' => e = .returned (.bool true) ∧ Below w.heap.size w w' := by
  go_enter Try.func55, Try.ntmps55
  go_wp2
  go_loopw [13] (fun i wr => ∃ k : Nat, i = .int .i64 k ∧ k ≤ n ∧ Below w.heap.size w wr) (fun i _ => n - (intOf i).toNat)
  case atStart => exact ⟨0, rfl, Nat.zero_le _, Below.refl _ _⟩
  case round =>
    obtain ⟨k, rfl, hkn, hbr⟩ := hrel
    by_cases hlt : k < n
    · have hk : k < S.length := by omega
      have a0 : ∀ j, (wr.drewN j).cell? ⟨g1, k * 2, none⟩ = some (.int .u32 S[k].1) := fun j => rd_at (hr1.below hbr) (rowS_gen S k hk)
      have a1 : ∀ j, (wr.drewN j).cell? ⟨g1, k * 2 + 1, none⟩ = some (.int .i64 S[k].2) := fun j => rd_at (hr1.below hbr) (rowS_ref S k hk)
      have b0 : ∀ j, (wr.drewN j).cell? ⟨g2, k * 2, none⟩ = some (.int .u32 S[k].1) := fun j => rd_at (hr2.below hbr) (rowS_gen S k hk)
      have b1 : ∀ j, (wr.drewN j).cell? ⟨g2, k * 2 + 1, none⟩ = some (.int .i64 S[k].2) := fun j => rd_at (hr2.below hbr) (rowS_ref S k hk)
      go_wp2
      go_quiet (fail)
      go_wp2
      exact ⟨⟨k + 1, rfl, by omega, below_drewN hbr _⟩, by simp [intOf]; omega⟩
    · go_wp2
      go_ret
      exact ⟨rfl, hbr⟩
/-- The cells of a list of handles. -/
def rowH (l : List Slo) : List Value := l.flatMap fun h => [.int .i64 h.1, .int .u32 h.2]
theorem rowH_cons (s : Slo) (S : List Slo) : rowH (s :: S) = .int .i64 s.1 :: .int .u32 s.2 :: rowH S := rfl
theorem rowH_append (S T : List Slo) : rowH (S ++ T) = rowH S ++ rowH T := by simp [rowH]
theorem rowH_length (S : List Slo) : (rowH S).length = S.length * 2 := by
  induction S with
  | nil => rfl
  | cons s S ih => rw [rowH_cons]; simp [ih]; omega
theorem rowH_one (S : List Slo) : ∀ u ∈ rowH S, u.oneCell' = true := by
  intro u hu
  simp only [rowH, List.mem_flatMap] at hu
  obtain ⟨s, _, hs⟩ := hu
  simp at hs
  rcases hs with rfl | rfl <;> rfl
theorem rowH_slot (S : List Slo) (i : Nat) (h : i < S.length) : (rowH S)[i * 2]? = some (.int .i64 S[i].1) := by
  induction S generalizing i with
  | nil => simp at h
  | cons s S ih =>
    cases i with
    | zero => rfl
    | succ i => rw [rowH_cons, show (i + 1) * 2 = i * 2 + 1 + 1 by omega]; simpa using ih i (by simpa using h)
theorem rowH_gen (S : List Slo) (i : Nat) (h : i < S.length) : (rowH S)[i * 2 + 1]? = some (.int .u32 S[i].2) := by
  induction S generalizing i with
  | nil => simp at h
  | cons s S ih =>
    cases i with
    | zero => rfl
    | succ i => rw [rowH_cons, show (i + 1) * 2 + 1 = i * 2 + 1 + 1 + 1 by omega]; simpa using ih i (by simpa using h)
theorem pick_is (x : Int) (n : Nat) (h1 : 1 ≤ n) (h2 : n ≤ 60) : ∃ K : Nat, (wrap64 (x.tmod n + n)).tmod n = (K : Int) ∧ K < n := by
  have a1 := Int.tmod_lt_of_pos x (show (0 : Int) < n by omega)
  have a2 := Int.lt_tmod_of_pos x (show (0 : Int) < n by omega)
  generalize x.tmod n = t at *
  have e : wrap64 (t + n) = t + n := by unfold wrap64; omega
  rw [e, Int.tmod_eq_emod_of_nonneg (by omega)]
  obtain ⟨K, hK⟩ := Int.eq_ofNat_of_zero_le (Int.emod_nonneg (t + n) (show (n : Int) ≠ 0 by omega))
  exact ⟨K, hK, by have := Int.emod_lt_of_pos (t + n) (show (0 : Int) < n by omega); omega⟩
end Go.Proofs.Ytknlkmencdlpcaa
