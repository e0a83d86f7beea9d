/-
DescAll: May, Put and Get return what the document's own functions return. For every descriptor and every slice of bytes.
-/
import Derived.Test.YtgmgjblekejgnaaLaw4
import Derived.Test.YtgmgjblekejgnaaReg
import Derived.Test.YtgmgjblekejgnaaDescFrame
import Derived.Test.YtgmgjblekejgnaaRows
namespace Go.Proofs.Ytgmgjblekejgnaa
set_option linter.unusedVariables false
set_option linter.unusedSimpArgs false
open Go.RowKit

theorem size_alloc' (w : World) (o : Obj) : (w.alloc o).heap.size = w.heap.size + 1 := by simp
/-- Three rows of four that no call has touched. -/
def Kept (w w' : World) (a b c : Nat) (d x y : Value × Value × Value × Value) (t : TypeId) : Prop :=
  Below w.heap.size w w' ∧ a < w'.heap.size ∧ b < w'.heap.size ∧ c < w'.heap.size ∧ w'.heap[a]? = some (.cells #[d.1, d.2.1, d.2.2.1, d.2.2.2] t (0, 0)) ∧
    w'.heap[b]? = some (.cells #[x.1, x.2.1, x.2.2.1, x.2.2.2] t (0, 0)) ∧ w'.heap[c]? = some (.cells #[y.1, y.2.1, y.2.2.1, y.2.2.2] t (0, 0))
theorem Kept.next {w w' w'' : World} {a b c : Nat} {d x y : Value × Value × Value × Value} {t : TypeId} (h : Kept w w' a b c d x y t) (hb : Below w'.heap.size w' w'') : Kept w w'' a b c d x y t := by
  obtain ⟨h1, h2, h3, h4, h5, h6, h7⟩ := h
  have hs := hb.size
  exact ⟨h1.trans (hb.mono h1.size), by omega, by omega, by omega, (hb.block a h2).trans h5, (hb.block b h3).trans h6, (hb.block c h4).trans h7⟩
theorem Kept.cells {w w' : World} {a b c : Nat} {d x y : Value × Value × Value × Value} {t : TypeId} (h : Kept w w' a b c d x y t) :
    (w'.cell? ⟨a, 0, none⟩ = some d.1 ∧ w'.cell? ⟨a, 1, none⟩ = some d.2.1 ∧ w'.cell? ⟨a, 2, none⟩ = some d.2.2.1 ∧ w'.cell? ⟨a, 3, none⟩ = some d.2.2.2) ∧
    (w'.cell? ⟨b, 0, none⟩ = some x.1 ∧ w'.cell? ⟨b, 1, none⟩ = some x.2.1 ∧ w'.cell? ⟨b, 2, none⟩ = some x.2.2.1 ∧ w'.cell? ⟨b, 3, none⟩ = some x.2.2.2) ∧
    (w'.cell? ⟨c, 0, none⟩ = some y.1 ∧ w'.cell? ⟨c, 1, none⟩ = some y.2.1 ∧ w'.cell? ⟨c, 2, none⟩ = some y.2.2.1 ∧ w'.cell? ⟨c, 3, none⟩ = some y.2.2.2) :=
  ⟨row4_cells h.2.2.2.2.1, row4_cells h.2.2.2.2.2.1, row4_cells h.2.2.2.2.2.2⟩
set_option maxHeartbeats 1000000 in
theorem descAll_walk (L : Int) (k s : Bool) (f : Int) (X : Option Addr) (n c : Nat) (l : List UInt8) (w : World)
    (h0a : (-9223372036854775808 ≤ L ∧ L ≤ 9223372036854775807) ∧ (0 ≤ f ∧ f ≤ 65535))
    (hn : l.length = n) (hnc : n ≤ c) (hcm : c ≤ maxLen) (hb0 : n ≤ 140737488351232) (hX : X = none → n = 0 ∧ c = 0) (hr : Rd w X (bys l)) :
    Calls Try.prog 8 #[.agg #[.int .i64 L, .bool k, .bool s, .int .u16 f], .slice X n c] w fun e w' => e = .returned (.bool true) ∧ Below w.heap.size w w' := by
  obtain ⟨_, hf0, hf1⟩ := h0a
  obtain ⟨f, rfl⟩ := Int.eq_ofNat_of_zero_le hf0
  have hf : f ≤ 65535 := by omega
  clear hX
  go_enter Try.func8, Try.ntmps8
  go_wp2_with (first
    | (go_at_call 20; (with_reducible refine (shown4_any _).mono ?_); rintro e w1 ⟨rfl, hb1⟩; have hbw1 := ((Below.refl w.heap.size w).alloc (Nat.le_refl _) _).trans (hb1.mono (by simp)); have hr1 := hr.below hbw1; have d1 := (hb1.block w.heap.size (by simp)).trans (heap_alloc_new w _); have s1 := hb1.size; rw [size_alloc'] at s1)
    | (go_at_call 21; (with_reducible refine (dget_agg X n c l _ hn hnc hcm hr1).mono ?_); rintro e w2 ⟨rfl, hb2⟩; have s2 := hb2.size; have hbw2 := (hbw1.trans (hb2.mono hbw1.size)).alloc (by omega) (.cells #[.int .i64 (dL l), .bool (dK l), .bool (dS l), .int .u16 (dF l)] 40); have hr2 := hr.below hbw2)
    | (go_at_call 22; (with_reducible refine (rdget_agg X n c l _ hn hnc hcm hr2).mono ?_); rintro e w3 ⟨rfl, hb3⟩; have s3 := hb3.size; rw [size_alloc'] at s3))
  have hk : Kept w (w3.alloc (.cells #[.int .i64 (dL l), .bool (dK l), .bool (dS l), .int .u16 (dF l)] 40)).drew w.heap.size w2.heap.size w3.heap.size (.int .i64 L, .bool k, .bool s, .int .u16 f) (.int .i64 (dL l), .bool (dK l), .bool (dS l), .int .u16 (dF l)) (.int .i64 (dL l), .bool (dK l), .bool (dS l), .int .u16 (dF l)) 40 := by
    have b3 := (Below.refl w3.heap.size w3).alloc (Nat.le_refl _) (.cells #[.int .i64 (dL l), .bool (dK l), .bool (dS l), .int .u16 (dF l)] 40)
    have b2 := (Below.refl w2.heap.size w2).alloc (Nat.le_refl _) (.cells #[.int .i64 (dL l), .bool (dK l), .bool (dS l), .int .u16 (dF l)] 40)
    have hsz := size_alloc' w3 (.cells #[.int .i64 (dL l), .bool (dK l), .bool (dS l), .int .u16 (dF l)] 40)
    refine ⟨((hbw2.trans (hb3.mono hbw2.size)).alloc (by omega) _).drew, ?_, ?_, ?_, ?_, ?_, ?_⟩
    · show _ < (w3.alloc _).heap.size; omega
    · show _ < (w3.alloc _).heap.size; omega
    · show _ < (w3.alloc _).heap.size; omega
    · exact ((b3.block w.heap.size (by omega)).trans ((hb3.block w.heap.size (by rw [size_alloc']; omega)).trans ((b2.block w.heap.size (by omega)).trans ((hb2.block w.heap.size (by omega)).trans d1))))
    · exact (b3.block w2.heap.size (by omega)).trans ((hb3.block w2.heap.size (by rw [size_alloc']; omega)).trans (heap_alloc_new w2 _))
    · exact heap_alloc_new w3 _
  refine region_plan (calmB_sound _) (.fork [0] (.fork [2, 1, 3, 4, 5, 6] (.fork [9, 7] (.leaf [10, 8, 11, 12, 13, 14, 15, 16, 17, 18, 19, 20, 21, 22, 23, 24]) (.leaf [8, 10, 11, 12, 13, 14, 15, 16, 17, 18, 19, 20, 21, 22, 23, 24])) (.fork [7, 9] (.leaf [10, 8, 11, 12, 13, 14, 15, 16, 17, 18, 19, 20, 21, 22, 23, 24]) (.leaf [8, 10, 11, 12, 13, 14, 15, 16, 17, 18, 19, 20, 21, 22, 23, 24]))) (.fork [1, 2, 3, 4, 5, 6] (.fork [9, 7] (.leaf [10, 8, 11, 12, 13, 14, 15, 16, 17, 18, 19, 20, 21, 22, 23, 24]) (.leaf [8, 10, 11, 12, 13, 14, 15, 16, 17, 18, 19, 20, 21, 22, 23, 24])) (.fork [7, 9] (.leaf [10, 8, 11, 12, 13, 14, 15, 16, 17, 18, 19, 20, 21, 22, 23, 24]) (.leaf [8, 10, 11, 12, 13, 14, 15, 16, 17, 18, 19, 20, 21, 22, 23, 24])))) (by kernel_rfl) (by kernel_rfl) (by kernel_rfl) ?_
  generalize (w3.alloc (.cells #[.int .i64 (dL l), .bool (dK l), .bool (dS l), .int .u16 (dF l)] 40)).drew = w4 at *
  obtain ⟨⟨a0, a1, a2, a3⟩, ⟨b0, b1, b2, b3⟩, c0, c1, c2, c3⟩ := hk.cells
  refine wpPlan_fork fun K hK => ?_
  simp only [List.filterMap_cons, List.filterMap_nil, List.getElem?_toArray, List.getElem?_cons_succ, List.getElem?_cons_zero]
  go_wp2
  refine hK _ _ ?_ ?_
  all_goals
    refine wpPlan_fork fun K1 hK1 => ?_
    simp only [List.filterMap_cons, List.filterMap_nil, List.getElem?_toArray, List.getElem?_cons_succ, List.getElem?_cons_zero]
    go_wp2_with (first
      | (go_at_call 23; (with_reducible refine (dmay_any _ _ _ _ _).mono ?_); rintro e w5 ⟨rfl, hb⟩; have hk := hk.next hb; obtain ⟨⟨a0, a1, a2, a3⟩, ⟨b0, b1, b2, b3⟩, c0, c1, c2, c3⟩ := hk.cells)
      | (go_at_call 24; (with_reducible refine (rdmay_any _ _ _ _ _).mono ?_); rintro e w5 ⟨rfl, hb⟩; have hk := hk.next hb; obtain ⟨⟨a0, a1, a2, a3⟩, ⟨b0, b1, b2, b3⟩, c0, c1, c2, c3⟩ := hk.cells)
      | (go_at_call 25; (with_reducible refine (dput_any L f k s f _ rfl hf).mono ?_); rintro e w7 ⟨A7, m7, c7, rfl, HM7, ho7, hb⟩; have hcv7 := conv_own ho7; have hk := hk.next hb; obtain ⟨⟨a0, a1, a2, a3⟩, ⟨b0, b1, b2, b3⟩, c0, c1, c2, c3⟩ := hk.cells)
      | (go_at_call 26; (with_reducible refine (rdput_any L f k s f _ rfl hf).mono ?_); rintro e w8 ⟨A8, m8, c8, rfl, HM8, ho8, hb⟩; have hcv8 := conv_own ho8; have hcv9 := conv_own (ho7.kept (own_below hb) (own_none _)); have hk := hk.next hb; obtain ⟨⟨a0, a1, a2, a3⟩, ⟨b0, b1, b2, b3⟩, c0, c1, c2, c3⟩ := hk.cells))
    refine hK1 _ _ ?_ ?_
    all_goals
      refine wpPlan_fork fun K2 hK2 => ?_
      simp only [List.filterMap_cons, List.filterMap_nil, List.getElem?_toArray, List.getElem?_cons_succ, List.getElem?_cons_zero]
      go_wp2_with (first
      | (go_at_call 23; (with_reducible refine (dmay_any _ _ _ _ _).mono ?_); rintro e w5 ⟨rfl, hb⟩; have hk := hk.next hb; obtain ⟨⟨a0, a1, a2, a3⟩, ⟨b0, b1, b2, b3⟩, c0, c1, c2, c3⟩ := hk.cells)
      | (go_at_call 24; (with_reducible refine (rdmay_any _ _ _ _ _).mono ?_); rintro e w5 ⟨rfl, hb⟩; have hk := hk.next hb; obtain ⟨⟨a0, a1, a2, a3⟩, ⟨b0, b1, b2, b3⟩, c0, c1, c2, c3⟩ := hk.cells)
      | (go_at_call 25; (with_reducible refine (dput_any L f k s f _ rfl hf).mono ?_); rintro e w7 ⟨A7, m7, c7, rfl, HM7, ho7, hb⟩; have hcv7 := conv_own ho7; have hk := hk.next hb; obtain ⟨⟨a0, a1, a2, a3⟩, ⟨b0, b1, b2, b3⟩, c0, c1, c2, c3⟩ := hk.cells)
      | (go_at_call 26; (with_reducible refine (rdput_any L f k s f _ rfl hf).mono ?_); rintro e w8 ⟨A8, m8, c8, rfl, HM8, ho8, hb⟩; have hcv8 := conv_own ho8; have hcv9 := conv_own (ho7.kept (own_below hb) (own_none _)); have hk := hk.next hb; obtain ⟨⟨a0, a1, a2, a3⟩, ⟨b0, b1, b2, b3⟩, c0, c1, c2, c3⟩ := hk.cells))
      refine hK2 _ _ ?_ ?_
      all_goals
        refine wpPlan_leaf fun K3 hK3 => ?_
        simp only [List.filterMap_cons, List.filterMap_nil, List.getElem?_toArray, List.getElem?_cons_succ, List.getElem?_cons_zero]
        go_wp2_with (first
      | (go_at_call 23; (with_reducible refine (dmay_any _ _ _ _ _).mono ?_); rintro e w5 ⟨rfl, hb⟩; have hk := hk.next hb; obtain ⟨⟨a0, a1, a2, a3⟩, ⟨b0, b1, b2, b3⟩, c0, c1, c2, c3⟩ := hk.cells)
      | (go_at_call 24; (with_reducible refine (rdmay_any _ _ _ _ _).mono ?_); rintro e w5 ⟨rfl, hb⟩; have hk := hk.next hb; obtain ⟨⟨a0, a1, a2, a3⟩, ⟨b0, b1, b2, b3⟩, c0, c1, c2, c3⟩ := hk.cells)
      | (go_at_call 25; (with_reducible refine (dput_any L f k s f _ rfl hf).mono ?_); rintro e w7 ⟨A7, m7, c7, rfl, HM7, ho7, hb⟩; have hcv7 := conv_own ho7; have hk := hk.next hb; obtain ⟨⟨a0, a1, a2, a3⟩, ⟨b0, b1, b2, b3⟩, c0, c1, c2, c3⟩ := hk.cells)
      | (go_at_call 26; (with_reducible refine (rdput_any L f k s f _ rfl hf).mono ?_); rintro e w8 ⟨A8, m8, c8, rfl, HM8, ho8, hb⟩; have hcv8 := conv_own ho8; have hcv9 := conv_own (ho7.kept (own_below hb) (own_none _)); have hk := hk.next hb; obtain ⟨⟨a0, a1, a2, a3⟩, ⟨b0, b1, b2, b3⟩, c0, c1, c2, c3⟩ := hk.cells))
        go_ret
        exact ⟨rfl, hk.1⟩
namespace descAll
open Go.ChangeShapes Go.WideShapes Go.ChangeAt Go.RowKit
open Go.ChangeMaps (open_string shut_string)
set_option linter.unusedVariables false

theorem own : ownKnob Try.prog.godebug = none := by kernel_rfl
theorem laidOut : laidOutB Try.prog = true := by kernel_rfl

set_option maxRecDepth 100000 in
theorem lifted (os : Os) (started : os.Started) (H : Type) (enc : TypeId × Value → H) :
    ReturnsInHanded {} Try.checked os 8 .any (Rows.descAllSpec.pre6 enc Try.prog Try.f8 Rows.descAllRow.domain false) (Rows.descAllSpec.post enc Try.prog Try.f8 false true false false) := by
  refine returnsInHanded_of_change_sized (C := Try.checked) own started (by kernel_rfl) Try.func8
    (ChangeSpec.witness6 (enc := enc) (C := Try.checked) false ⟨#[], #[.agg #[.int .i64 0, .bool false, .bool false, .int .u16 0], .slice none 0 0], []⟩ 8 (by kernel_rfl) (by kernel_rfl) (by kernel_rfl) (by kernel_rfl)) ?_
  intro W base args ds gs before hval0 hW hcnd hsz0 _
  have hsz : (DataW.weightsEach Try.prog (Try.f8.params.toList ++ Rows.descAllSpec.plain.varTypes Try.prog) (ds ++ gs)).all (· ≤ reachBytes) = true := hsz0
  have hval : ∀ (j : Nat) t v, Try.f8.params[j]? = some t → args[j]? = some v → Value.okWide Try.prog W .any base t v := hval0
  have hW' := hW
  obtain ⟨p, q, hA0, hV, rfl, hfz, hnd⟩ := hW
  have hA : DataW.TrodAll enc Try.prog W 0 (fun _ => true) true Try.f8.params.toList args.toList ds p := hA0
  rw [Try.params8] at hA hval hsz
  obtain ⟨v0, vs0, d0, ds0, p0, q0, hargs, rfl, rfl, h0, r0⟩ := trodAll_cons hA
  obtain ⟨v1, vs1, d1, ds1, p1, q1, rfl, rfl, rfl, h1, r1⟩ := trodAll_cons r0
  obtain ⟨rfl, rfl, rfl⟩ := trodAll_nil r1
  obtain rfl : args = #[v0, v1] := by cases args; simp_all
  obtain ⟨rfl, rfl⟩ := trodVars_none hV
  obtain ⟨L0, k0, s0, f0, rfl, rfl, rfl, wL0, wf0⟩ := open_desc (hval 0 40 v0 rfl rfl) h0
  obtain ⟨a1, len1, cap1, rfl⟩ := okWide_slice Try.underlying22 (hval 1 22 v1 rfl rfl)
  have k1 := h1
  have lt1 : ∀ x ∈ p1, x.block < W.heap.size := by obtain ⟨m, hm⟩ := k1; exact DataW.trod_lt m _ _ _ hm
  obtain ⟨l1, n1, nc1, cm1, nl1, rd1, hl1⟩ : ∃ l : List UInt8, l.length = len1 ∧ len1 ≤ cap1 ∧ cap1 ≤ maxLen ∧ (a1 = none → len1 = 0 ∧ cap1 = 0) ∧ Rd W a1 (bys l) ∧ (len1 = 0 ∨ ∃ es sp, d1 = .slice es sp ∧ es.length = len1) := by
    obtain ⟨fuel, hf⟩ := h1
    exact open_byte_slice Try.underlying22 Try.underlying5 (by kernel_rfl) hf
  have hb1 : len1 * 1 ≤ 140737488351232 := reach_slice hsz (j := 1) rfl rfl Try.underlying22 (by kernel_rfl) hl1
  rw [Nat.mul_one] at hb1
  clear hA0 hval0 hsz0
  refine (descAll_walk L0 k0 s0 f0 a1 len1 cap1 l1 W ⟨bounds_i64 wL0, bounds_u16 wf0⟩ n1 nc1 cm1 hb1 nl1 rd1).mono fun e W' ⟨he, bel⟩ => ?_
  subst he
  exact ⟨_, rfl, _, _, _, [], _, [], hW', trodAll_mk1 (shut_bool Try.underlying4 _), (trodAll_cons_mk (shut_desc wL0 wf0) (trodAll_cons_mk (Below.trod laidOut (by kernel_rfl) (of_decide_eq_true (by kernel_rfl)) k1 bel lt1) trodAll_mk0)), rfl, bel.frame _, fun h => by cases h⟩

/-- The statement. -/
theorem proved : Rows.DescAllSaid :=
  OpenClaim.holds_of_wide 8 Try.f8 rfl rfl rfl rfl rfl rfl rfl ⟨rfl, rfl, rfl, rfl, rfl⟩ rfl rfl rfl rfl rfl (by kernel_rfl) Try.func8 (by kernel_rfl)
    (of_decide_eq_true (by kernel_rfl)) (by unfold Func.isWrapper; rw [if_neg (of_decide_eq_false (by kernel_rfl))]; exact ⟨rfl, rfl⟩)
    (fun os started H enc _ => lifted os started H enc)
#print axioms proved
end descAll
end Go.Proofs.Ytgmgjblekejgnaa
