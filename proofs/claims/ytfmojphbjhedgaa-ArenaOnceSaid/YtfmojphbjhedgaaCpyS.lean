/-
The builtin copy into a row of the call's own whose elements have several cells; make of such a row. Over any program.
-/
import Derived.Test.YtfmojphbjhedgaaApp
import Derived.Laws.CopyOwn
import Derived.Laws.CopyRow
import Derived.Laws.MakeOwn
import Derived.Deep.RegionLaw
namespace Go.Proofs.Ytfmojphbjhedgaa
set_option linter.unusedVariables false
set_option linter.unusedSimpArgs false
open Go Go.RowKit

theorem cut_splices {α : Type} (cur cs : List α) (k n : Nat) (h : k + cs.length ≤ n) (hk : k ≤ cur.length) :
    (cur.take k ++ cs ++ cur.drop (k + cs.length)).take n = (cur.take n).take k ++ cs ++ (cur.take n).drop (k + cs.length) := by
  have e1 : (cur.take k ++ cs).length = k + cs.length := by simp; omega
  rw [List.take_append, e1, List.take_of_length_le (by omega), List.take_take, List.drop_take, show min k n = k by omega]

section
variable {P : Program} {t e : TypeId} {z : Value} {size bytes : Nat}
theorem run_cpys (hT : SliceT P t e z size bytes) (w : World) (ty : TypeId) (base g n c : Nat) (xs : List Value) (hown : w.ownsRow base e size (.slice (some ⟨g, 0, none⟩) n c) n xs)
    (k dl dc : Nat) (hk : k + dl = n) (ad : Addr) (m d : Nat) (news : List Value) (hl : news.length = min m dl * size) (hr : Rd w (some ad) news) (h1 : ∀ u ∈ news, u.oneCell' = true) :
    ∃ w', (Builtin.copy_ #[t, t] ty #[.slice (some ⟨g, k * size, none⟩) dl dc, .slice (some ad) m d]).run P w = .ok (goInt ((min m dl : Nat) : Int)) w' ∧
      w'.ownsRow base e size (.slice (some ⟨g, 0, none⟩) n c) n (xs.take (k * size) ++ news ++ xs.drop (k * size + news.length)) ∧ w.grownBy w' (some g) ∧ w'.heap.size = w.heap.size := by
  obtain ⟨ht, hzs, hsz, hby, i, hi, hz, hs, hbt⟩ := hT
  have hxl := hown.1
  rcases hown.2 with ⟨h', _⟩ | ⟨g', cap', cur, h', hbg, hg, hnc, hcm, hcs, htake⟩
  · simp at h'
  · simp only [Value.slice.injEq, Option.some.injEq, Addr.mk.injEq, and_true, true_and] at h'
    obtain ⟨rfl, rfl⟩ := h'
    have hcells : ∀ j v, news[j]? = some v → w.cell? (ad.add j) = some v := by
      intro j u hu
      obtain ⟨ad', h, hc⟩ := hr j u hu
      injection h with h; subst h; exact hc
    have hmul : k * size + min m dl * size ≤ n * size := by
      rw [← Nat.add_mul]; exact Nat.mul_le_mul_right _ (by omega)
    have hmul2 : n * size ≤ c * size := Nat.mul_le_mul_right _ hnc
    have hld := run_loadCells_list (P := P) w ad news hcells
    rw [hl] at hld
    have hst := run_storeCells_at P g (k * size) e news 0 cur w hg (by omega) h1
    have hrun : (Builtin.copy_ #[t, t] ty #[.slice (some ⟨g, k * size, none⟩) dl dc, .slice (some ad) m d]).run P w = .ok (goInt ((min m dl : Nat) : Int)) (w.setRow g (cur.toList.take (k * size) ++ news ++ cur.toList.drop (k * size + news.length)).toArray) := by
      have e2 : Nat.min m dl = min m dl := rfl
      simp [Builtin.copy_, run_underlying ht, Builtin.lenOf, Builtin.firstCells, sizeOf, typeInfo, hi, hs, e2, hld, hst]
    refine ⟨_, hrun, ⟨?_, .inr ⟨g, c, _, rfl, hbg, setRow_heap w g cur _ e _ hg, hnc, hcm, ?_, ?_⟩⟩, ⟨rfl, rfl, rfl, by simp, fun j _ hj => setRow_other w g j _ (fun e => hj (by simp [e]))⟩, by simp⟩
    · simp only [List.length_append, List.length_take, List.length_drop, hxl]
      omega
    · simp only [List.size_toArray, List.length_append, List.length_take, List.length_drop, Array.length_toList]
      omega
    · rw [← htake]
      have := cut_splices cur.toList news (k * size) (n * size) (by omega) (by simp; omega)
      simpa using this
theorem step_cpys (hT : SliceT P t e z size bytes) {w : World} {ops : Array Oper} {o : Oper} {a : Act} {K : Act → World → Prop} {Q : Exit → Act → World → Prop} {E : Prop} (hgd : o.guard = none) (s x : Operand)
    (ho : o.op = .call { callee := .builtin .copy, args := #[s, x], argTypes := #[t, t] })
    (base g n c : Nat) (xs : List Value) (hown : w.ownsRow base e size (.slice (some ⟨g, 0, none⟩) n c) n xs)
    (k dl dc : Nat) (hs : a.eval s = .slice (some ⟨g, k * size, none⟩) dl dc) (hk : k + dl = n) (ad : Addr) (m d : Nat) (hx : a.eval x = .slice (some ad) m d) (news : List Value) (hl : news.length = min m dl * size) (hr : Rd w (some ad) news) (h1 : ∀ u ∈ news, u.oneCell' = true)
    (h : ∀ w', w'.ownsRow base e size (.slice (some ⟨g, 0, none⟩) n c) n (xs.take (k * size) ++ news ++ xs.drop (k * size + news.length)) → w.grownBy w' (some g) → Hid (w'.heap.size = w.heap.size) →
      K (a.put o.dst (goInt ((min m dl : Nat) : Int))) w') : if Region.wanted o (yielded ops a.tmps) = true then Oper.wp P o a w K Q else E := by
  obtain ⟨w', hrun, h2, h3, h4⟩ := run_cpys hT w o.type base g n c xs hown k dl dc hk ad m d news hl hr h1
  rw [if_pos (by simp [Region.wanted, hgd])]
  unfold Oper.wp execOp
  simp only [ho, resolve, invoke, builtin, Sem.run_bind, Sem.run_pure, Result.andThen_ok, List.map_toArray, List.map_cons, List.map_nil, hs, hx, hrun]
  exact h w' h2 h3 h4
theorem wpList_cpys (hT : SliceT P t e z size bytes) {w : World} {ops : Array Oper} {rest : List Oper} {o : Oper} {a : Act} {Q : Exit → Act → World → Prop} (hgd : o.guard = none) (s x : Operand)
    (ho : o.op = .call { callee := .builtin .copy, args := #[s, x], argTypes := #[t, t] })
    (base g n c : Nat) (xs : List Value) (hown : w.ownsRow base e size (.slice (some ⟨g, 0, none⟩) n c) n xs)
    (k dl dc : Nat) (hs : a.eval s = .slice (some ⟨g, k * size, none⟩) dl dc) (hk : k + dl = n) (ad : Addr) (m d : Nat) (hx : a.eval x = .slice (some ad) m d) (news : List Value) (hl : news.length = min m dl * size) (hr : Rd w (some ad) news) (h1 : ∀ u ∈ news, u.oneCell' = true)
    (h : ∀ w', w'.ownsRow base e size (.slice (some ⟨g, 0, none⟩) n c) n (xs.take (k * size) ++ news ++ xs.drop (k * size + news.length)) → w.grownBy w' (some g) → Hid (w'.heap.size = w.heap.size) →
      wpList P ops Q rest (a.put o.dst (goInt ((min m dl : Nat) : Int))) w') : wpList P ops Q (o :: rest) a w := by
  obtain ⟨w', hrun, h2, h3, h4⟩ := run_cpys hT w o.type base g n c xs hown k dl dc hk ad m d news hl hr h1
  refine wpList_plain hgd fun K hK => ?_
  unfold Oper.wp execOp
  simp only [ho, resolve, invoke, builtin, Sem.run_bind, Sem.run_pure, Result.andThen_ok, List.map_toArray, List.map_cons, List.map_nil, hs, hx, hrun]
  exact hK _ _ (h w' h2 h3 h4)
theorem run_mks (hT : SliceT P t e z size bytes) (n : Nat) (hb : n * bytes ≤ 281474976710656) (kl kc : IntKind) (w : World) :
    (Instr.makeSlice t (.int kl (n : Int)) (.int kc (n : Int))).run P w = .ok (.slice (some ⟨w.heap.size, 0, none⟩) n n) (w.alloc (.cells (madeCells z.cells (n * size)) e)) := by
  obtain ⟨ht, hzs, hsz, hby, i, hi, hz, hs, hbt⟩ := hT
  subst hbt
  have h1 : n * 1 ≤ n * i.bytes := Nat.mul_le_mul_left _ hby
  have hb' : (i.bytes : Int) * (n : Int) ≤ 281474976710656 := by
    have : ((n * i.bytes : Nat) : Int) ≤ 281474976710656 := by omega
    rw [Int.natCast_mul] at this
    rw [Int.mul_comm]; exact this
  have hr := run_make (P := P) w t e i z ht hi hz kl kc n n (by omega) (by omega) hb' (by omega)
  simp only [Int.toNat_natCast, hs] at hr
  exact hr
end
end Go.Proofs.Ytfmojphbjhedgaa
