/-
BatchNone: what the calls of a batch that is none tell. For every write.
-/
import Derived.Test.YtnkgkiiagifnmaaBt5
import Derived.Test.YtnkgkiiagifnmaaWrFrame
import Derived.Test.YtnkgkiiagifnmaaRows
namespace Go.Proofs.Ytnkgkiiagifnmaa
set_option linter.unusedVariables false
set_option linter.unusedSimpArgs false
open Go Go.RowKit

theorem none_add (x : Wr) (w : World) : Calls Try.prog 60 #[.pointer none, wrA x] w fun e w' => e = .returned (.int .i64 7) ∧ Below w.heap.size w w' := by
  go_enter Try.func60, Try.ntmps60
  go_wp2
  go_ret
  exact ⟨rfl, (Below.refl _ w).alloc (Nat.le_refl _) _⟩
theorem none_len (w : World) : Calls Try.prog 62 #[.pointer none] w fun e w' => e = .returned (.int .i64 0) ∧ w = w' := by
  go_enter Try.func62, Try.ntmps62
  go_wp2
  go_ret
  exact ⟨rfl, rfl⟩
theorem none_flush (w : World) : Calls Try.prog 61 #[.pointer none] w fun e w' => e = .returned (.slice none 0 0) ∧ w = w' := by
  go_enter Try.func61, Try.ntmps61
  go_wp2
  go_ret
  exact ⟨rfl, rfl⟩
theorem none_held (w : World) : Calls Try.prog 64 #[.pointer none] w fun e w' => e = .returned (.slice none 0 0) ∧ w = w' := by
  go_enter Try.func64, Try.ntmps64
  go_wp2
  go_ret
  exact ⟨rfl, rfl⟩
theorem none_full (w : World) : Calls Try.prog 63 #[.pointer none] w fun e w' => e = .returned (.bool false) ∧ Below w.heap.size w w' := by
  go_enter Try.func63, Try.ntmps63
  go_wp2_with fail
  refine region_planA (calmB_sound _) (.fork [0, 1, 2, 3, 8] (.fork [9, 10] (.leaf [11, 4, 5, 6, 7, 12, 13, 14]) (.leaf [4, 5, 6, 7, 11, 12, 13, 14])) (.fork [4, 5] (.leaf [9, 6, 7, 10, 11, 12, 13, 14]) (.leaf [6, 7, 9, 10, 11, 12, 13, 14]))) (by kernel_rfl) (by kernel_rfl) (by kernel_rfl) ?_
  refine wpPlan_fork fun PL0 hPL0 => ?_
  simp only [List.filterMap_cons, List.filterMap_nil, List.getElem?_toArray, List.getElem?_cons_succ, List.getElem?_cons_zero]
  change wpList _ _ _ [_, _, _, _, _] _ _
  go_wp2_with (fail)
  refine hPL0 _ _ ?_ ?_
  · refine wpPlan_fork fun PL1 hPL1 => ?_
    simp only [List.filterMap_cons, List.filterMap_nil, List.getElem?_toArray, List.getElem?_cons_succ, List.getElem?_cons_zero]
    change wpList _ _ _ [_, _] _ _
    go_wp2_with (fail)
    refine hPL1 _ _ ?_ ?_
    · refine wpPlan_leaf fun PL2 hPL2 => ?_
      simp only [List.filterMap_cons, List.filterMap_nil, List.getElem?_toArray, List.getElem?_cons_succ, List.getElem?_cons_zero]
      change wpList _ _ _ [_, _, _, _, _, _, _, _] _ _
      go_wp2_with (fail)
      go_ret
      exact ⟨rfl, (Below.refl _ w).drew⟩
    · refine wpPlan_leaf fun PL2 hPL2 => ?_
      simp only [List.filterMap_cons, List.filterMap_nil, List.getElem?_toArray, List.getElem?_cons_succ, List.getElem?_cons_zero]
      change wpList _ _ _ [_, _, _, _, _, _, _, _] _ _
      go_wp2_with (fail)
      go_ret
      exact ⟨rfl, (Below.refl _ w).drew⟩
  · refine wpPlan_fork fun PL1 hPL1 => ?_
    simp only [List.filterMap_cons, List.filterMap_nil, List.getElem?_toArray, List.getElem?_cons_succ, List.getElem?_cons_zero]
    change wpList _ _ _ [_, _] _ _
    go_wp2_with (fail)
    refine hPL1 _ _ ?_ ?_
    · refine wpPlan_leaf fun PL2 hPL2 => ?_
      simp only [List.filterMap_cons, List.filterMap_nil, List.getElem?_toArray, List.getElem?_cons_succ, List.getElem?_cons_zero]
      change wpList _ _ _ [_, _, _, _, _, _, _, _] _ _
      go_wp2_with (fail)
      go_ret
      exact ⟨rfl, (Below.refl _ w).drew⟩
    · refine wpPlan_leaf fun PL2 hPL2 => ?_
      simp only [List.filterMap_cons, List.filterMap_nil, List.getElem?_toArray, List.getElem?_cons_succ, List.getElem?_cons_zero]
      change wpList _ _ _ [_, _, _, _, _, _, _, _] _ _
      go_wp2_with (fail)
      go_ret
      exact ⟨rfl, (Below.refl _ w).drew⟩
set_option maxRecDepth 20000 in
set_option maxHeartbeats 1000000 in
theorem batchNone_walk (x : Wr) (w : World) (hz : x.z.ok w) (hp : x.pOk) (hb : -9223372036854775808 ≤ x.k ∧ x.k ≤ 9223372036854775807) :
    Calls Try.prog 12 #[wrA x] w fun e w' => e = .returned (.bool true) ∧ Below w.heap.size w w' := by
  have hb0 := (Below.refl w.heap.size w).alloc (Nat.le_refl _) (.cells (wrC x) 93)
  have h0 := heap_alloc_new w (.cells (wrC x) 93)
  clear hz hp hb
  go_enter Try.func12, Try.ntmps12
  go_wp2_with (first
    | (go_at_call 58; (with_reducible refine (shown24_any _).mono ?_); rintro e w1 ⟨rfl, hb1⟩; obtain ⟨a0, a1, a2, a3, a4, a5, a6, a7, a8, a9⟩ := ten_cells ((hb1.block _ (block_lt h0)).trans h0); have hbb := hb0.trans (hb1.mono hb0.size))
    | (go_at_call 60; (with_reducible refine (none_add x _).mono ?_); rintro e w2 ⟨rfl, hb2⟩)
    | (go_at_call 62; (with_reducible refine (none_len _).mono ?_); rintro e w3 ⟨rfl, rfl⟩)
    | (go_at_call 63; (with_reducible refine (none_full _).mono ?_); rintro e w4 ⟨rfl, hb4⟩)
    | (go_at_call 61; (with_reducible refine (none_flush _).mono ?_); rintro e w5 ⟨rfl, rfl⟩)
    | (go_at_call 64; (with_reducible refine (none_held _).mono ?_); rintro e w6 ⟨rfl, rfl⟩))
  go_ret
  have hb12 := hbb.trans (hb2.mono hbb.size)
  exact ⟨by simp, hb12.trans (hb4.mono hb12.size)⟩
namespace batchNone
open Go.ChangeShapes Go.WideShapes Go.ChangeAt Go.RowKit
open Go.ChangeMaps (open_string shut_string)
set_option linter.unusedVariables false

theorem own : ownKnob Try.prog.godebug = none := by kernel_rfl
theorem laidOut : laidOutB Try.prog = true := by kernel_rfl

set_option maxRecDepth 100000 in
theorem lifted (os : Os) (started : os.Started) (H : Type) (enc : TypeId × Value → H) :
    ReturnsInHanded {} Try.checked os 12 .any (Rows.batchNoneSpec.pre6 enc Try.prog Try.f12 Rows.batchNoneRow.domain false) (Rows.batchNoneSpec.post enc Try.prog Try.f12 false true false false) := by
  refine returnsInHanded_of_change_sized (C := Try.checked) own started (by kernel_rfl) Try.func12
    (ChangeSpec.witness6 (enc := enc) (C := Try.checked) false ⟨#[], #[.agg #[.int .i64 0, .int .i64 0, .int .i64 0, .int .i64 0, .int .u32 0, .int .u16 0, .int .u32 0, .int .u32 0, .int .u16 0, .slice none 0 0]], []⟩ 8 (by kernel_rfl) (by kernel_rfl) (by kernel_rfl) (by kernel_rfl)) ?_
  intro W base args ds gs before hval0 hW hcnd hsz0 _
  have hsz : (DataW.weightsEach Try.prog (Try.f12.params.toList ++ Rows.batchNoneSpec.plain.varTypes Try.prog) (ds ++ gs)).all (· ≤ reachBytes) = true := hsz0
  have hval : ∀ (j : Nat) t v, Try.f12.params[j]? = some t → args[j]? = some v → Value.okWide Try.prog W .any base t v := hval0
  have hW' := hW
  obtain ⟨p, q, hA0, hV, rfl, hfz, hnd⟩ := hW
  have hA : DataW.TrodAll enc Try.prog W 0 (fun _ => true) true Try.f12.params.toList args.toList ds p := hA0
  rw [Try.params12] at hA hval hsz
  obtain ⟨v0, vs0, d0, ds0, p0, q0, hargs, rfl, rfl, h0, r0⟩ := trodAll_cons hA
  obtain ⟨rfl, rfl, rfl⟩ := trodAll_nil r0
  obtain rfl : args = #[v0] := by cases args; simp_all
  obtain ⟨rfl, rfl⟩ := trodVars_none hV
  have k0 := h0
  have lt0 : ∀ x ∈ p0, x.block < W.heap.size := by obtain ⟨m, hm⟩ := k0; exact DataW.trod_lt m _ _ _ hm
  obtain ⟨x0, rfl, zo0, po0, bk0⟩ := open_write (hval 0 93 v0 rfl rfl) h0 (fun x hx => by have := List.all_eq_true.1 hsz _ (DataW.weights_mem_each (j := 0) rfl rfl x hx); simpa using this)
  clear hA0 hval0 hsz0
  refine (batchNone_walk x0 W zo0 po0 bk0).mono fun e W' ⟨he, bel⟩ => ?_
  subst he
  exact ⟨_, rfl, _, _, _, [], _, [], hW', trodAll_mk1 (shut_bool Try.underlying4 _), (trodAll_cons_mk (Below.trod laidOut (by kernel_rfl) (of_decide_eq_true (by kernel_rfl)) k0 bel lt0) trodAll_mk0), rfl, bel.frame _, fun h => by cases h⟩

/-- The statement. -/
theorem proved : Rows.BatchNoneSaid :=
  OpenClaim.holds_of_wide 12 Try.f12 rfl rfl rfl rfl rfl rfl rfl ⟨rfl, rfl, rfl, rfl, rfl⟩ rfl rfl rfl rfl rfl (by kernel_rfl) Try.func12 (by kernel_rfl)
    (of_decide_eq_true (by kernel_rfl)) (by unfold Func.isWrapper; rw [if_neg (of_decide_eq_false (by kernel_rfl))]; exact ⟨rfl, rfl⟩)
    (fun os started H enc _ => lifted os started H enc)
#print axioms proved
end batchNone
end Go.Proofs.Ytnkgkiiagifnmaa
