/-
The builtin copy into a row of the call's own, and make of a row of zeros. Over any program.
-/
import Derived.Test.YtnkclbaeamcplaaApp
import Derived.Laws.CopyOwn
import Derived.Deep.RegionLaw
namespace Go.Proofs.Ytnkclbaeamcplaa
set_option linter.unusedVariables false
set_option linter.unusedSimpArgs false
open Go Go.RowKit

theorem cut_splice {α : Type} (cur cs : List α) (k n : Nat) (h : k + cs.length ≤ n) (hk : k ≤ cur.length) :
    (cur.take k ++ cs ++ cur.drop (k + cs.length)).take n = (cur.take n).take k ++ cs ++ (cur.take n).drop (k + cs.length) := by
  have e1 : (cur.take k ++ cs).length = k + cs.length := by simp; omega
  rw [List.take_append, e1, List.take_of_length_le (by omega), List.take_take, List.drop_take, show min k n = k by omega]

section
variable {P : Program} {t e : TypeId} {z : Value} {bytes : Nat}

/-- copy(v[k:], src): at most what is there. -/
theorem run_cpy (hT : SliceT P t e z 1 bytes) (w : World) (ty : TypeId) (base : Nat) (A : Option Addr) (n c : Nat) (xs : List Value) (hown : w.ownsRow base e 1 (.slice A n c) n xs)
    (k : Nat) (hk : k ≤ n) (D : Option Addr) (dl dc : Nat) (hdl : dl = n - k) (hD : 0 < dl → D = A.map (·.add k))
    (X : Option Addr) (m d : Nat) (news : List Value) (hl : news.length = m) (hr : Rd w X news) (h1 : ∀ u ∈ news, u.oneCell' = true) :
    ∃ w', (Builtin.copy_ #[t, t] ty #[.slice D dl dc, .slice X m d]).run P w = .ok (goInt (news.take dl).length) w' ∧
      w'.ownsRow base e 1 (.slice A n c) n (xs.take k ++ news.take dl ++ xs.drop (k + (news.take dl).length)) ∧ w.grownBy w' (A.map Addr.block) ∧ w'.heap.size = w.heap.size := by
  obtain ⟨ht, hzs, hsz, hby, i, hi, hz, hs, hbt⟩ := hT
  have hsome : (P.info? e).map (·.size) = some 1 := by rw [hi]; simp [hs]
  have hxl := hown.1
  by_cases h0 : (news.take dl).length = 0
  · have hrun := run_copy_none (P := P) w t t ty e D X dl dc m d ht hsome (by
      simp at h0
      simp
      rcases h0 with h | h
      · omega
      · subst h; simp at hl; omega)
    refine ⟨w, by rw [h0]; exact hrun, ?_, World.grownBy.refl _ _, rfl⟩
    rw [List.eq_nil_of_length_eq_zero h0]
    simpa using hown
  · have hq : (news.take dl).length = min dl m := by simp [hl]
    have hpos : 0 < dl := by omega
    obtain rfl := hD hpos
    obtain ⟨g, cap, hv, hb, _⟩ := hown.form (by omega)
    have hvA : A = some ⟨g, 0, none⟩ := by injection hv
    subst hvA
    rcases hown.2 with ⟨h', _⟩ | ⟨g', cap', cur, h', hbg, hg, hnc, hcm, hcs, htake⟩
    · simp at h'
    · simp only [Value.slice.injEq, Option.some.injEq, Addr.mk.injEq, and_true, true_and] at h'
      obtain ⟨rfl, rfl⟩ := h'
      have hne : news ≠ [] := by rintro rfl; simp at h0
      have hX : ∃ ad, X = some ad := by
        rcases news with _ | ⟨x, l⟩
        · exact absurd rfl hne
        · obtain ⟨ad, h, _⟩ := hr 0 x rfl
          exact ⟨ad, h⟩
      obtain ⟨ad, rfl⟩ := hX
      have hcells : ∀ j v, (news.take dl)[j]? = some v → w.cell? (ad.add j) = some v := by
        intro j u hu
        obtain ⟨ad', h, hc⟩ := (hr.take dl) j u hu
        injection h with h; subst h; exact hc
      have hrun := run_copy_row (P := P) w t t ty e g k dl dc ad m d cur e (news.take dl) ht hsome hg (by rw [hq]; show _ = min m dl; omega) hcells (by omega) (fun v hv => h1 v (List.mem_of_mem_take hv))
      refine ⟨_, by simpa [Addr.add_lit] using hrun, ⟨?_, .inr ⟨g, c, _, rfl, hbg, setRow_heap w g cur _ e _ hg, hnc, hcm, ?_, ?_⟩⟩, ⟨rfl, rfl, rfl, by simp, fun j _ hj => setRow_other w g j _ (fun e => hj (by simp [e]))⟩, by simp⟩
      · simp only [List.length_append, List.length_take, List.length_drop, hxl]
        omega
      · simp only [List.size_toArray, List.length_append, List.length_take, List.length_drop, Array.length_toList]
        omega
      · rw [← htake]
        simp only [Nat.mul_one]
        have := cut_splice cur.toList (news.take dl) k n (by omega) (by simp; omega)
        simpa using this

theorem wpList_cpy (hT : SliceT P t e z 1 bytes) {w : World} {ops : Array Oper} {rest : List Oper} {o : Oper} {a : Act} {Q : Exit → Act → World → Prop} (hgd : o.guard = none) (s x : Operand)
    (ho : o.op = .call { callee := .builtin .copy, args := #[s, x], argTypes := #[t, t] })
    (base : Nat) (A : Option Addr) (n c : Nat) (xs : List Value) (hown : w.ownsRow base e 1 (.slice A n c) n xs)
    (k : Nat) (hk : k ≤ n) (D : Option Addr) (dl dc : Nat) (hs : a.eval s = .slice D dl dc) (hdl : dl = n - k) (hD : 0 < dl → D = A.map (·.add k))
    (X : Option Addr) (m d : Nat) (hx : a.eval x = .slice X m d) (news : List Value) (hl : news.length = m) (hr : Rd w X news) (h1 : ∀ u ∈ news, u.oneCell' = true)
    (h : ∀ w', w'.ownsRow base e 1 (.slice A n c) n (xs.take k ++ news.take dl ++ xs.drop (k + (news.take dl).length)) → w.grownBy w' (A.map Addr.block) → Hid (w'.heap.size = w.heap.size) →
      wpList P ops Q rest (a.put o.dst (goInt (news.take dl).length)) w') : wpList P ops Q (o :: rest) a w := by
  obtain ⟨w', hrun, h2, h3, h4⟩ := run_cpy hT w o.type base A n c xs hown k hk D dl dc hdl hD X m d news hl hr h1
  refine wpList_plain hgd fun K hK => ?_
  unfold Oper.wp execOp
  simp only [ho, resolve, invoke, builtin, Sem.run_bind, Sem.run_pure, Result.andThen_ok, List.map_toArray, List.map_cons, List.map_nil, hs, hx, hrun]
  exact hK _ _ (h w' h2 h3 h4)

theorem step_cpy (hT : SliceT P t e z 1 bytes) {w : World} {ops : Array Oper} {o : Oper} {a : Act} {K : Act → World → Prop} {Q : Exit → Act → World → Prop} {E : Prop} (hgd : o.guard = none) (s x : Operand)
    (ho : o.op = .call { callee := .builtin .copy, args := #[s, x], argTypes := #[t, t] })
    (base : Nat) (A : Option Addr) (n c : Nat) (xs : List Value) (hown : w.ownsRow base e 1 (.slice A n c) n xs)
    (k : Nat) (hk : k ≤ n) (D : Option Addr) (dl dc : Nat) (hs : a.eval s = .slice D dl dc) (hdl : dl = n - k) (hD : 0 < dl → D = A.map (·.add k))
    (X : Option Addr) (m d : Nat) (hx : a.eval x = .slice X m d) (news : List Value) (hl : news.length = m) (hr : Rd w X news) (h1 : ∀ u ∈ news, u.oneCell' = true)
    (h : ∀ w', w'.ownsRow base e 1 (.slice A n c) n (xs.take k ++ news.take dl ++ xs.drop (k + (news.take dl).length)) → w.grownBy w' (A.map Addr.block) → Hid (w'.heap.size = w.heap.size) →
      K (a.put o.dst (goInt (news.take dl).length)) w') : if Region.wanted o (yielded ops a.tmps) = true then Oper.wp P o a w K Q else E := by
  obtain ⟨w', hrun, h2, h3, h4⟩ := run_cpy hT w o.type base A n c xs hown k hk D dl dc hdl hD X m d news hl hr h1
  rw [if_pos (by simp [Region.wanted, hgd])]
  unfold Oper.wp execOp
  simp only [ho, resolve, invoke, builtin, Sem.run_bind, Sem.run_pure, Result.andThen_ok, List.map_toArray, List.map_cons, List.map_nil, hs, hx, hrun]
  exact h w' h2 h3 h4

/-- make([]T, n): a row of zeros of the call's own, as an equation for the walk. -/
theorem run_mk (hT : SliceT P t e z 1 bytes) (hzc : z.cells = #[z]) (n : Nat) (hb : n * bytes ≤ 281474976710656) (kl kc : IntKind) (w : World) :
    (Instr.makeSlice t (.int kl (n : Int)) (.int kc (n : Int))).run P w = .ok (.slice (some ⟨w.heap.size, 0, none⟩) n n) (w.alloc (.cells (madeCells #[z] n) e)) := by
  obtain ⟨ht, hzs, hsz, hby, i, hi, hz, hs, hbt⟩ := hT
  subst hbt
  have h1 : n * 1 ≤ n * i.bytes := Nat.mul_le_mul_left _ hby
  have hb' : (i.bytes : Int) * (n : Int) ≤ 281474976710656 := by
    have : ((n * i.bytes : Nat) : Int) ≤ 281474976710656 := by omega
    rw [Int.natCast_mul] at this
    rw [Int.mul_comm]; exact this
  have hr := run_make (P := P) w t e i z ht hi hz kl kc n n (by omega) (by omega) hb' (by omega)
  simp only [Int.toNat_natCast, hs, Nat.mul_one, hzc] at hr
  exact hr
theorem own_made (z : Value) (w : World) (n : Nat) (e : TypeId) (hm : n ≤ maxLen) (base : Nat) (hb : base ≤ w.heap.size) :
    (w.alloc (.cells (madeCells #[z] n) e)).ownsRow base e 1 (.slice (some ⟨w.heap.size, 0, none⟩) n n) n (List.replicate n z) := by
  have := World.ownsRow_lit (base := base) (e := e) (size := 1) w (madeCells #[z] n) n hb hm (by rw [size_madeCells, Nat.mul_one])
  rwa [toList_madeCells_one] at this
end
theorem bys_zeros (n : Nat) : List.replicate n (Value.int .u8 0) = bys (List.replicate n 0) := by simp [bys, u8v]
end Go.Proofs.Ytnkclbaeamcplaa
