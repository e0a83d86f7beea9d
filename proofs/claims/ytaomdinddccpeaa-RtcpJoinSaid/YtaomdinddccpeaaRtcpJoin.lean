/-
RtcpJoin: bytes of items, one behind the other, are the items of both, if there are not too many. For all bytes.
-/
import Derived.Test.YtaomdinddccpeaaRcV
import Derived.Test.YtaomdinddccpeaaItsFrame
import Derived.Test.YtaomdinddccpeaaRows
namespace Go.Proofs.Ytaomdinddccpeaa
set_option linter.unusedVariables false
set_option linter.unusedSimpArgs false
open Go Go.RowKit

theorem itso_over {w w' : World} {base b k c m d s' : Nat} {A C : Option Addr} {e' : TypeId} {xs : List Sl} {ys : List Value} (h : ItsO w base A k c xs) (ho : w.ownsRow b e' s' (.slice C m d) m ys) (h1 : 64 ≠ e') (h2 : 91 ≠ e') (h3 : 24 ≠ e') (h4 : 111 ≠ e') (hg : w.grownBy w' (C.map Addr.block)) : ItsO w' base A k c xs :=
  ⟨row_over h.own ho h1 hg, fun x hx => ⟨row_over (h.rows x hx).oa ho h2 hg, row_over (h.rows x hx).og ho h3 hg, row_over (h.rows x hx).op ho h4 hg⟩, h.ok⟩
theorem rowI_app (l m : List Sl) : rowI l ++ rowI m = rowI (l ++ m) := by simp [rowI]
theorem rowI_one (l : List Sl) : ∀ u ∈ rowI l, u.oneCell' = true := by
  intro u hu
  simp only [rowI, List.mem_flatMap] at hu
  obtain ⟨x, _, hx⟩ := hu
  exact slV_one x u hx
theorem itm_append (l m : List Sl) : itm (l ++ m) = itm l ++ itm m := by simp [itm]
theorem itso_next {w w' : World} {base k c : Nat} {A : Option Addr} {xs : List Sl} (h : ItsO w base A k c xs) (hg : w.grownBy w' ((none : Option Addr).map Addr.block)) : ItsO w' base A k c xs :=
  ⟨h.own.kept hg (own_none _), fun x hx => ⟨(h.rows x hx).oa.kept hg (own_none _), (h.rows x hx).og.kept hg (own_none _), (h.rows x hx).op.kept hg (own_none _)⟩, h.ok⟩
theorem slr_of {w : World} {base : Nat} {x : Sl} (h : SlX w base x) (ok : x.i.Ok) : SlR w x := ⟨own_rowG 28 h.oa, own_rowG 4 h.og, own_rowG 4 h.op, ok⟩
/-- Two rows of items, one behind the other. -/
theorem its_joined {w w' : World} {b1 b2 b3 k j c2 c3 c7 c8 k1 j1 : Nat} {A2 A3 A7 A8 : Option Addr} {xs ys : List Sl} {zs : List Value} (hx : ItsO w b1 A2 k1 c2 xs) (hy : ItsO w b2 A3 j1 c3 ys) (ho : w.ownsRow b3 64 10 (.slice A7 k c7) k zs) (hg : w.grownBy w' (A7.map Addr.block)) (ho8 : w'.ownsRow b3 64 10 (.slice A8 j c8) j (rowI (xs ++ ys))) :
    Its w' A8 j c8 (xs ++ ys) := by
  have r := own_rowG 120 ho8
  refine ⟨?_, r.nc, r.cm, r.rd, fun x hxy => ?_⟩
  · have := ho8.1
    rw [rowI_length] at this
    omega
  · rcases List.mem_append.1 hxy with h | h
    · exact slr_of (slx_over (hx.rows x h) ho hg) (hx.ok x h)
    · exact slr_of (slx_over (hy.rows x h) ho hg) (hy.ok x h)
theorem wpList_app_g {P : Program} {t e : TypeId} {z : Value} {size bytes : Nat} (hT : SliceT P t e z size bytes) {w : World} {ops : Array Oper} {rest : List Oper} {o : Oper} {a : Act} {Q : Exit → Act → World → Prop} (hgd : Region.wanted o (yielded ops a.tmps) = true) (s x : Operand)
    (ho : o.op = .call { callee := .builtin .append, args := #[s, x], argTypes := #[t, t] })
    (base : Nat) (A : Option Addr) (n c : Nat) (xs : List Value) (hs : a.eval s = .slice A n c) (hown : w.ownsRow base e size (.slice A n c) n xs)
    (X : Option Addr) (m d : Nat) (news : List Value) (hx : a.eval x = .slice X m d) (hl : news.length = m * size) (hr : Rd w X news) (h1 : ∀ u ∈ news, u.oneCell' = true)
    (hb : (n + m) * bytes ≤ 140737488355328) (hbase : base ≤ w.heap.size)
    (h : ∀ A' c' w', w'.ownsRow base e size (.slice A' (n + m) c') (n + m) (xs ++ news) → w.grownBy w' (A.map Addr.block) → (A' = A ∨ A' = some ⟨w.heap.size, 0, none⟩) →
      wpList P ops Q rest (a.put o.dst (.slice A' (n + m) c')) w') : wpList P ops Q (o :: rest) a w := by
  obtain ⟨A', c', w', hrun, h2, h3, h4⟩ := run_app hT w o.type base A n c xs hown X m d news hl hr h1 hb hbase
  refine wpList_step fun K hK => ?_
  rw [if_pos hgd]
  unfold Oper.wp execOp
  simp only [ho, resolve, invoke, builtin, Sem.run_bind, Sem.run_pure, Result.andThen_ok, List.map_toArray, List.map_cons, List.map_nil, hs, hx, hrun]
  exact hK _ _ (h A' c' w' h2 h3 h4)
theorem its_over {w w' : World} {b1 b3 k c c7 k7 : Nat} {A A7 : Option Addr} {xs : List Sl} {zs : List Value} {W : World} (h : ItsO w b1 A k c xs) (hle : W.heap.size ≤ W.heap.size) (ho : w.ownsRow b3 64 10 (.slice A7 k7 c7) k7 zs) (hA : A7 = none ∨ A7 = some ⟨W.heap.size, 0, none⟩) (hne : ∀ b, A.map Addr.block = some b → b < W.heap.size) (hg : w.grownBy w' (A7.map Addr.block)) : Its w' A k c xs := by
  have hk : ItsO w' b1 A k c xs := by
    refine ⟨h.own.kept hg ?_, fun x hx => slx_over (h.rows x hx) ho hg, h.ok⟩
    rw [ownBlock_slice]
    rcases hA with rfl | rfl
    · exact own_none _
    · refine .inr fun e => ?_
      exact absurd (hne _ e) (Nat.lt_irrefl _)
  exact hk.its
namespace rtcpJoin
set_option maxRecDepth 20000 in
set_option maxHeartbeats 8000000 in
theorem rtcpJoin_walk (A : Option Addr) (n c : Nat) (l : List UInt8) (A' : Option Addr) (n' c' : Nat) (l' : List UInt8) (w : World) (hl : l.length = n) (hc : n ≤ c) (hm : c ≤ maxLen) (hn : n ≤ 140737488351232) (hA : A = none → n = 0 ∧ c = 0) (hr : Rd w A (bys l)) (hl' : l'.length = n') (hc' : n' ≤ c') (hm' : c' ≤ maxLen) (hn' : n' ≤ 140737488351232) (hA' : A' = none → n' = 0 ∧ c' = 0) (hr' : Rd w A' (bys l')) :
    Calls Try.prog 12 #[.slice A n c, .slice A' n' c'] w fun e w' => e = .returned (.bool true) ∧ Below w.heap.size w w' := by
  have HB : Hid (Bts w A n c l) := ⟨hl, hc, hm, hr⟩
  have HB' : Hid (Bts w A' n' c' l') := ⟨hl', hc', hm', hr'⟩
  by_cases h0 : getsE l = 0
  case neg =>
    obtain ⟨Z, h2⟩ : ∃ x : Int, x = (getsE l : Nat) := ⟨_, rfl⟩
    have hZ0 : (Z != 0) = true := by simp; omega
    have HG : Hid (Z = (getsE l : Nat) ∧ getsL l = [] ∧ ([] : List Itm).length = 0) := ⟨h2, getsL_no h0, rfl⟩
    obtain ⟨js, g1⟩ : ∃ x, getsL l' = x := ⟨_, rfl⟩
    obtain ⟨Z2, g2⟩ : ∃ x : Int, x = (getsE l' : Nat) := ⟨_, rfl⟩
    obtain ⟨j, g3⟩ : ∃ x, js.length = x := ⟨_, rfl⟩
    have HG2 : Hid (Z2 = (getsE l' : Nat) ∧ getsL l' = js ∧ js.length = j) := ⟨g2, g1, g3⟩
    clear hl hc hm hA hr hl' hc' hm' hA' hr' h0 h2 g1 g2 g3
    go_enter Try.func12, Try.ntmps12
    go_wp2_with (first
      | (go_at_call 29; ((with_reducible refine (shown9_any _).mono ?_); rintro e w1 ⟨rfl, hb1⟩))
      | (go_at_call 36; (fail_if_success have := hw2); ((with_reducible refine (rcget_v A n c l _ (HB.out.below hb1) [] Z 0 HG.out.1 HG.out.2.1 HG.out.2.2).mono ?_); rintro e w2 ⟨A2, c2, xs, rfl, hi2, ho2, hb2⟩; have hw2 := hb1.trans (hb2.mono hb1.size)))
      | (go_at_call 36; (fail_if_success have := hw3); ((with_reducible refine (rcget_v A' n' c' l' _ (HB'.out.below hw2) js Z2 j HG2.out.1 HG2.out.2.1 HG2.out.2.2).mono ?_); rintro e w3 ⟨A3, c3, ys, rfl, hi3, ho3, hb3⟩; have hw3 := hw2.trans (hb3.mono hw2.size); have HX3 := Lib.hid (ho2.out.below hb3))))
    go_ret
    exact ⟨rfl, hw3⟩
  obtain ⟨is, f1⟩ : ∃ x, getsL l = x := ⟨_, rfl⟩
  obtain ⟨k, f3⟩ : ∃ x, is.length = x := ⟨_, rfl⟩
  have HG : Hid ((0 : Int) = (getsE l : Nat) ∧ getsL l = is ∧ is.length = k) := ⟨by rw [h0]; rfl, f1, f3⟩
  by_cases h0' : getsE l' = 0
  case neg =>
    obtain ⟨Z2, h2⟩ : ∃ x : Int, x = (getsE l' : Nat) := ⟨_, rfl⟩
    have hZ0 : (Z2 != 0) = true := by simp; omega
    have HG2 : Hid (Z2 = (getsE l' : Nat) ∧ getsL l' = [] ∧ ([] : List Itm).length = 0) := ⟨h2, getsL_no h0', rfl⟩
    clear hl hc hm hA hr hl' hc' hm' hA' hr' h0 h0' h2 f1 f3
    go_enter Try.func12, Try.ntmps12
    go_wp2_with (first
      | (go_at_call 29; ((with_reducible refine (shown9_any _).mono ?_); rintro e w1 ⟨rfl, hb1⟩))
      | (go_at_call 36; (fail_if_success have := hw2); ((with_reducible refine (rcget_v A n c l _ (HB.out.below hb1) is 0 k HG.out.1 HG.out.2.1 HG.out.2.2).mono ?_); rintro e w2 ⟨A2, c2, xs, rfl, hi2, ho2, hb2⟩; have hw2 := hb1.trans (hb2.mono hb1.size)))
      | (go_at_call 36; (fail_if_success have := hw3); ((with_reducible refine (rcget_v A' n' c' l' _ (HB'.out.below hw2) [] Z2 0 HG2.out.1 HG2.out.2.1 HG2.out.2.2).mono ?_); rintro e w3 ⟨A3, c3, ys, rfl, hi3, ho3, hb3⟩; have hw3 := hw2.trans (hb3.mono hw2.size); have HX3 := Lib.hid (ho2.out.below hb3))))
    go_ret
    exact ⟨rfl, hw3⟩
  obtain ⟨js, g1⟩ : ∃ x, getsL l' = x := ⟨_, rfl⟩
  obtain ⟨j, g3⟩ : ∃ x, js.length = x := ⟨_, rfl⟩
  have HG2 : Hid ((0 : Int) = (getsE l' : Nat) ∧ getsL l' = js ∧ js.length = j) := ⟨by rw [h0']; rfl, g1, g3⟩
  obtain ⟨q1, q2⟩ := gets_join h0 h0'
  have n5 := (puts_gets h0).2.2.2.2.2.2
  have n5' := (puts_gets h0').2.2.2.2.2.2
  have k8 := (puts_gets h0).2.2.2.2.1
  have j8 := (puts_gets h0').2.2.2.2.1
  rw [f1, f3] at k8
  rw [g1, g3] at j8
  rw [hl] at n5
  rw [hl'] at n5'
  rw [hl, hl', f1, g1, f3, g3] at q1
  rw [f1, g1] at q2
  clear hl hc hm hA hr hl' hc' hm' hA' hr' h0 h0' f1 f3 g1 g3
  by_cases t5 : 512 < n + n'
  · have u5 : decide ((512 : Int) < (n : Int) + (n' : Int)) = true := by simp; omega
    rw [if_pos t5] at q1
    have HG3 : Hid ((5 : Int) = (getsE (l ++ l') : Nat) ∧ getsL (l ++ l') = [] ∧ ([] : List Itm).length = 0) := ⟨by rw [q1]; rfl, getsL_no (by rw [q1]; decide), rfl⟩
    clear t5 q1 q2
    go_enter Try.func12, Try.ntmps12
    go_wp2_with (first
      | (go_at_call 29; ((with_reducible refine (shown9_any _).mono ?_); rintro e w1 ⟨rfl, hb1⟩))
      | (go_at_call 36; (fail_if_success have := hw2); ((with_reducible refine (rcget_v A n c l _ (HB.out.below hb1) is 0 k HG.out.1 HG.out.2.1 HG.out.2.2).mono ?_); rintro e w2 ⟨A2, c2, xs, rfl, hi2, ho2, hb2⟩; have hw2 := hb1.trans (hb2.mono hb1.size)))
      | (go_at_call 36; (fail_if_success have := hw3); ((with_reducible refine (rcget_v A' n' c' l' _ (HB'.out.below hw2) js 0 j HG2.out.1 HG2.out.2.1 HG2.out.2.2).mono ?_); rintro e w3 ⟨A3, c3, ys, rfl, hi3, ho3, hb3⟩; have hw3 := hw2.trans (hb3.mono hw2.size); have HX3 := Lib.hid (ho2.out.below hb3)))
      | (go_at_call 36; ((with_reducible refine (rcget_v A5 (n + n') c5 (l ++ l') _ (own_btsR ho5) [] 5 0 HG3.out.1 HG3.out.2.1 HG3.out.2.2).mono ?_); rintro e w6 ⟨A6, c6, zs, rfl, hi6, ho6, hb6⟩; have hw6 := hw5.trans (hb6.mono hw5.size)))
      | (at_builtin; (refine wpList_app slU8 rfl _ _ rfl w.heap.size none 0 0 [] rfl (World.ownsRow_nil _ _ _ _) A n c (bys l) rfl (by rw [bys_length, HB.out.len, Nat.mul_one]) (HB.out.below hw3).rd (bys_one _) (by omega) hw3.size ?_; intro A4 c4 w4 ho4 hg4 hA4; simp only [Nat.zero_add, List.nil_append] at ho4; have hw4 := hw3.grown hg4 hw3.size (by simp); have HX4 := Lib.hid (itso_over HX3.out (World.ownsRow_nil w3 0 5 1) (by decide) (by decide) (by decide) (by decide) hg4); have HY4 := Lib.hid (itso_over ho3.out (World.ownsRow_nil w3 0 5 1) (by decide) (by decide) (by decide) (by decide) hg4)))
      | (at_builtin; (refine wpList_app slU8 rfl _ _ rfl w.heap.size A4 n c4 (bys l) rfl ho4 A' n' c' (bys l') rfl (by rw [bys_length, HB'.out.len, Nat.mul_one]) (HB'.out.below hw4).rd (bys_one _) (by omega) hw4.size ?_; intro A5 c5 w5 ho5 hg5 hA5; rw [bys_append] at ho5; have hw5 := hw4.grown hg5 hw4.size (own_from ho4))))
    go_ret
    exact ⟨by simp, hw6⟩
  have u5 : decide ((512 : Int) < (n : Int) + (n' : Int)) = false := by simp; omega
  rw [if_neg t5] at q1
  by_cases t8 : 8 < k + j
  · have u8 : decide ((8 : Int) < (k : Int) + (j : Int)) = true := by simp; omega
    rw [if_pos t8] at q1
    have HG3 : Hid ((3 : Int) = (getsE (l ++ l') : Nat) ∧ getsL (l ++ l') = [] ∧ ([] : List Itm).length = 0) := ⟨by rw [q1]; rfl, getsL_no (by rw [q1]; decide), rfl⟩
    clear t5 t8 q1 q2
    go_enter Try.func12, Try.ntmps12
    go_wp2_with (first
      | (go_at_call 29; ((with_reducible refine (shown9_any _).mono ?_); rintro e w1 ⟨rfl, hb1⟩))
      | (go_at_call 36; (fail_if_success have := hw2); ((with_reducible refine (rcget_v A n c l _ (HB.out.below hb1) is 0 k HG.out.1 HG.out.2.1 HG.out.2.2).mono ?_); rintro e w2 ⟨A2, c2, xs, rfl, hi2, ho2, hb2⟩; have hw2 := hb1.trans (hb2.mono hb1.size)))
      | (go_at_call 36; (fail_if_success have := hw3); ((with_reducible refine (rcget_v A' n' c' l' _ (HB'.out.below hw2) js 0 j HG2.out.1 HG2.out.2.1 HG2.out.2.2).mono ?_); rintro e w3 ⟨A3, c3, ys, rfl, hi3, ho3, hb3⟩; have hw3 := hw2.trans (hb3.mono hw2.size); have HX3 := Lib.hid (ho2.out.below hb3)))
      | (go_at_call 36; ((with_reducible refine (rcget_v A5 (n + n') c5 (l ++ l') _ (own_btsR ho5) [] 3 0 HG3.out.1 HG3.out.2.1 HG3.out.2.2).mono ?_); rintro e w6 ⟨A6, c6, zs, rfl, hi6, ho6, hb6⟩; have hw6 := hw5.trans (hb6.mono hw5.size)))
      | (at_builtin; (refine wpList_app slU8 rfl _ _ rfl w.heap.size none 0 0 [] rfl (World.ownsRow_nil _ _ _ _) A n c (bys l) rfl (by rw [bys_length, HB.out.len, Nat.mul_one]) (HB.out.below hw3).rd (bys_one _) (by omega) hw3.size ?_; intro A4 c4 w4 ho4 hg4 hA4; simp only [Nat.zero_add, List.nil_append] at ho4; have hw4 := hw3.grown hg4 hw3.size (by simp); have HX4 := Lib.hid (itso_over HX3.out (World.ownsRow_nil w3 0 5 1) (by decide) (by decide) (by decide) (by decide) hg4); have HY4 := Lib.hid (itso_over ho3.out (World.ownsRow_nil w3 0 5 1) (by decide) (by decide) (by decide) (by decide) hg4)))
      | (at_builtin; (refine wpList_app slU8 rfl _ _ rfl w.heap.size A4 n c4 (bys l) rfl ho4 A' n' c' (bys l') rfl (by rw [bys_length, HB'.out.len, Nat.mul_one]) (HB'.out.below hw4).rd (bys_one _) (by omega) hw4.size ?_; intro A5 c5 w5 ho5 hg5 hA5; rw [bys_append] at ho5; have hw5 := hw4.grown hg5 hw4.size (own_from ho4))))
    go_ret
    exact ⟨by simp, hw6⟩
  have u8 : decide ((8 : Int) < (k : Int) + (j : Int)) = false := by simp; omega
  rw [if_neg t8] at q1
  have HG3 : Hid ((0 : Int) = (getsE (l ++ l') : Nat) ∧ getsL (l ++ l') = is ++ js ∧ (is ++ js).length = k + j) := ⟨by rw [q1]; rfl, q2 q1, by rw [List.length_append, HG.out.2.2, HG2.out.2.2]⟩
  clear t5 t8 q1 q2
  go_enter Try.func12, Try.ntmps12
  go_wp2_with (first
    | (go_at_call 29; ((with_reducible refine (shown9_any _).mono ?_); rintro e w1 ⟨rfl, hb1⟩))
    | (go_at_call 36; (fail_if_success have := hw2); ((with_reducible refine (rcget_v A n c l _ (HB.out.below hb1) is 0 k HG.out.1 HG.out.2.1 HG.out.2.2).mono ?_); rintro e w2 ⟨A2, c2, xs, rfl, hi2, ho2, hb2⟩; have hw2 := hb1.trans (hb2.mono hb1.size)))
    | (go_at_call 36; (fail_if_success have := hw3); ((with_reducible refine (rcget_v A' n' c' l' _ (HB'.out.below hw2) js 0 j HG2.out.1 HG2.out.2.1 HG2.out.2.2).mono ?_); rintro e w3 ⟨A3, c3, ys, rfl, hi3, ho3, hb3⟩; have hw3 := hw2.trans (hb3.mono hw2.size); have HX3 := Lib.hid (ho2.out.below hb3)))
    | (go_at_call 36; ((with_reducible refine (rcget_v A5 (n + n') c5 (l ++ l') _ (own_btsR ho5) (is ++ js) 0 (k + j) HG3.out.1 HG3.out.2.1 HG3.out.2.2).mono ?_); rintro e w6 ⟨A6, c6, zs, rfl, hi6, ho6, hb6⟩; have hw6 := hw5.trans (hb6.mono hw5.size)))
    | (at_builtin; (refine wpList_app slU8 rfl _ _ rfl w.heap.size none 0 0 [] rfl (World.ownsRow_nil _ _ _ _) A n c (bys l) rfl (by rw [bys_length, HB.out.len, Nat.mul_one]) (HB.out.below hw3).rd (bys_one _) (by omega) hw3.size ?_; intro A4 c4 w4 ho4 hg4 hA4; simp only [Nat.zero_add, List.nil_append] at ho4; have hw4 := hw3.grown hg4 hw3.size (by simp); have HX4 := Lib.hid (itso_over HX3.out (World.ownsRow_nil w3 0 5 1) (by decide) (by decide) (by decide) (by decide) hg4); have HY4 := Lib.hid (itso_over ho3.out (World.ownsRow_nil w3 0 5 1) (by decide) (by decide) (by decide) (by decide) hg4)))
    | (at_builtin; (refine wpList_app slU8 rfl _ _ rfl w.heap.size A4 n c4 (bys l) rfl ho4 A' n' c' (bys l') rfl (by rw [bys_length, HB'.out.len, Nat.mul_one]) (HB'.out.below hw4).rd (bys_one _) (by omega) hw4.size ?_; intro A5 c5 w5 ho5 hg5 hA5; rw [bys_append] at ho5; have HX5 := Lib.hid (itso_over HX4.out ho4 (by decide) (by decide) (by decide) (by decide) hg5); have HY5 := Lib.hid (itso_over HY4.out ho4 (by decide) (by decide) (by decide) (by decide) hg5); have hw5 := hw4.grown hg5 hw4.size (own_from ho4)))
    | (at_builtin; (refine wpList_app_g slIt rfl _ _ rfl w.heap.size none 0 0 [] rfl (World.ownsRow_nil _ _ _ _) A2 k c2 (rowI xs) rfl (by have := (HX5.out.below hb6).own.1; omega) ((HX5.out.below hb6).its.rd) (rowI_one xs) (by omega) hw6.size ?_; intro A7 c7 w7 ho7 hg7 hA7; simp only [Nat.zero_add, List.nil_append] at ho7; have hlt6 := fun b (hb : A6.map Addr.block = some b) => (ho6.out.own.lt b (by rw [ownBlock_slice]; exact hb)).2; have hw7 := hw6.grown hg7 hw6.size (by simp); have HX7 := Lib.hid (itso_next (HX5.out.below hb6) hg7); have HY7 := Lib.hid (itso_next (HY5.out.below hb6) hg7); have HZ7 := Lib.hid (itso_next ho6.out hg7)))
    | (at_builtin; (refine wpList_app_g slIt rfl _ _ rfl w.heap.size A7 k c7 (rowI xs) rfl ho7 A3 j c3 (rowI ys) rfl (by have := HY7.out.own.1; omega) HY7.out.its.rd (rowI_one ys) (by omega) hw7.size ?_; intro A8 c8 w8 ho8 hg8 hA8; rw [rowI_app] at ho8; have hw8 := hw7.grown hg8 hw7.size (own_from ho7); have HU := Lib.hid (its_joined HX7.out HY7.out ho7 hg8 ho8); have HZ8 := Lib.hid (its_over HZ7.out (Nat.le_refl _) ho7 hA7 hlt6 hg8); have HE : Hid (itm zs = itm (xs ++ ys)) := (by show _ = _; rw [hi6.out, itm_append, hi2.out, hi3.out])))
    | (go_at_call 38; ((with_reducible refine (sameIts_any A6 (k + j) c6 zs A8 (k + j) c8 (xs ++ ys) _ HZ8.out HU.out HE.out).mono ?_); rintro e w9 ⟨rfl, hb9⟩)))
  go_ret
  exact ⟨by simp, hw8.trans (hb9.mono hw8.size)⟩
end rtcpJoin
namespace rtcpJoin
open Go.ChangeShapes Go.WideShapes Go.ChangeAt Go.RowKit
open Go.ChangeMaps (open_string shut_string)
set_option linter.unusedVariables false

theorem own : ownKnob Try.prog.godebug = none := by kernel_rfl
theorem laidOut : laidOutB Try.prog = true := by kernel_rfl

set_option maxRecDepth 100000 in
theorem lifted (os : Os) (started : os.Started) (H : Type) (enc : TypeId × Value → H) :
    ReturnsInHanded {} Try.checked os 12 .any (Rows.rtcpJoinSpec.pre6 enc Try.prog Try.f12 Rows.rtcpJoinRow.domain false) (Rows.rtcpJoinSpec.post enc Try.prog Try.f12 false true false false) := by
  refine returnsInHanded_of_change_sized (C := Try.checked) own started (by kernel_rfl) Try.func12
    (ChangeSpec.witness6 (enc := enc) (C := Try.checked) false ⟨#[], #[.slice none 0 0, .slice none 0 0], []⟩ 8 (by kernel_rfl) (by kernel_rfl) (by kernel_rfl) (by kernel_rfl)) ?_
  intro W base args ds gs before hval0 hW hcnd hsz0 _
  have hsz : (DataW.weightsEach Try.prog (Try.f12.params.toList ++ Rows.rtcpJoinSpec.plain.varTypes Try.prog) (ds ++ gs)).all (· ≤ reachBytes) = true := hsz0
  have hval : ∀ (j : Nat) t v, Try.f12.params[j]? = some t → args[j]? = some v → Value.okWide Try.prog W .any base t v := hval0
  have hW' := hW
  obtain ⟨p, q, hA0, hV, rfl, hfz, hnd⟩ := hW
  have hA : DataW.TrodAll enc Try.prog W 0 (fun _ => true) true Try.f12.params.toList args.toList ds p := hA0
  rw [Try.params12] at hA hval hsz
  obtain ⟨v0, vs0, d0, ds0, p0, q0, hargs, rfl, rfl, h0, r0⟩ := trodAll_cons hA
  obtain ⟨v1, vs1, d1, ds1, p1, q1, rfl, rfl, rfl, h1, r1⟩ := trodAll_cons r0
  obtain ⟨rfl, rfl, rfl⟩ := trodAll_nil r1
  obtain rfl : args = #[v0, v1] := by cases args; simp_all
  obtain ⟨rfl, rfl⟩ := trodVars_none hV
  obtain ⟨a0, len0, cap0, rfl⟩ := okWide_slice Try.underlying22 (hval 0 22 v0 rfl rfl)
  have k0 := h0
  have lt0 : ∀ x ∈ p0, x.block < W.heap.size := by obtain ⟨m, hm⟩ := k0; exact DataW.trod_lt m _ _ _ hm
  obtain ⟨l0, n0, nc0, cm0, nl0, rd0, hl0⟩ : ∃ l : List UInt8, l.length = len0 ∧ len0 ≤ cap0 ∧ cap0 ≤ maxLen ∧ (a0 = none → len0 = 0 ∧ cap0 = 0) ∧ Rd W a0 (bys l) ∧ (len0 = 0 ∨ ∃ es sp, d0 = .slice es sp ∧ es.length = len0) := by
    obtain ⟨fuel, hf⟩ := h0
    exact open_byte_slice Try.underlying22 Try.underlying5 (by kernel_rfl) hf
  have hb0 : len0 * 1 ≤ 140737488351232 := reach_slice hsz (j := 0) rfl rfl Try.underlying22 (by kernel_rfl) hl0
  rw [Nat.mul_one] at hb0
  obtain ⟨a1, len1, cap1, rfl⟩ := okWide_slice Try.underlying22 (hval 1 22 v1 rfl rfl)
  have k1 := h1
  have lt1 : ∀ x ∈ p1, x.block < W.heap.size := by obtain ⟨m, hm⟩ := k1; exact DataW.trod_lt m _ _ _ hm
  obtain ⟨l1, n1, nc1, cm1, nl1, rd1, hl1⟩ : ∃ l : List UInt8, l.length = len1 ∧ len1 ≤ cap1 ∧ cap1 ≤ maxLen ∧ (a1 = none → len1 = 0 ∧ cap1 = 0) ∧ Rd W a1 (bys l) ∧ (len1 = 0 ∨ ∃ es sp, d1 = .slice es sp ∧ es.length = len1) := by
    obtain ⟨fuel, hf⟩ := h1
    exact open_byte_slice Try.underlying22 Try.underlying5 (by kernel_rfl) hf
  have hb1 : len1 * 1 ≤ 140737488351232 := reach_slice hsz (j := 1) rfl rfl Try.underlying22 (by kernel_rfl) hl1
  rw [Nat.mul_one] at hb1
  clear hA0 hval0 hsz0
  refine (rtcpJoin_walk a0 len0 cap0 l0 a1 len1 cap1 l1 W n0 nc0 cm0 hb0 nl0 rd0 n1 nc1 cm1 hb1 nl1 rd1).mono fun e W' ⟨he, bel⟩ => ?_
  subst he
  exact ⟨_, rfl, _, _, _, [], _, [], hW', trodAll_mk1 (shut_bool Try.underlying4 _), (trodAll_cons_mk (Below.trod laidOut (by kernel_rfl) (of_decide_eq_true (by kernel_rfl)) k0 bel lt0) (trodAll_cons_mk (Below.trod laidOut (by kernel_rfl) (of_decide_eq_true (by kernel_rfl)) k1 bel lt1) trodAll_mk0)), rfl, bel.frame _, fun h => by cases h⟩

/-- The statement. -/
theorem proved : Rows.RtcpJoinSaid :=
  OpenClaim.holds_of_wide 12 Try.f12 rfl rfl rfl rfl rfl rfl rfl ⟨rfl, rfl, rfl, rfl, rfl⟩ rfl rfl rfl rfl rfl (by kernel_rfl) Try.func12 (by kernel_rfl)
    (of_decide_eq_true (by kernel_rfl)) (by unfold Func.isWrapper; rw [if_neg (of_decide_eq_false (by kernel_rfl))]; exact ⟨rfl, rfl⟩)
    (fun os started H enc _ => lifted os started H enc)
#print axioms proved
end rtcpJoin
end Go.Proofs.Ytaomdinddccpeaa
