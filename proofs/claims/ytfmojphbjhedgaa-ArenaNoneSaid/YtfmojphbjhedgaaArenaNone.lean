/-
ArenaNone: what an arena that is none tells. For every handle.
-/
import Derived.Test.YtfmojphbjhedgaaLaw11
import Derived.Test.YtfmojphbjhedgaaHandFrame
import Derived.Test.YtfmojphbjhedgaaRows
namespace Go.Proofs.Ytfmojphbjhedgaa
set_option linter.unusedVariables false
set_option linter.unusedSimpArgs false
open Go.RowKit

theorem none_free (w : World) : Calls Try.prog 19 #[.pointer none] w fun e w' => e = .returned (.int .i64 0) ∧ Below w.heap.size w w' := by
  go_enter Try.func19, Try.ntmps19
  go_wp2_with (go_at_call 22; (with_reducible refine (slots_none _).mono ?_); rintro e w1 ⟨rfl, rfl⟩)
  go_loopw [3, 9] (fun f i wr => f = .int .i64 0 ∧ i = .int .i64 0 ∧ w = wr) (fun _ _ _ => 0)
  case atStart => exact ⟨rfl, rfl, rfl⟩
  case round =>
    obtain ⟨rfl, rfl, rfl⟩ := hrel
    go_wp2
    go_ret
    exact ⟨rfl, Below.refl _ _⟩
theorem none_live (i g : Int) (w : World) : Calls Try.prog 24 #[.pointer none, .agg #[.int .i64 i, .int .u32 g]] w fun e w' => e = .returned (.bool false) ∧ Below w.heap.size w w' := by
  have hb := (Below.refl w.heap.size w).alloc (Nat.le_refl _) (.cells #[.int .i64 i, .int .u32 g] 31)
  have hq := fun wx => neq_none 24 (by kernel_rfl) wx
  go_enter Try.func24, Try.ntmps24
  go_wp2
  go_quiet (fail)
  go_wp2
  go_ret
  exact ⟨rfl, below_drewN hb _⟩
theorem none_keep (i g : Int) (w : World) : Calls Try.prog 13 #[.pointer none, .agg #[.int .i64 i, .int .u32 g]] w fun e w' => e = .returned (.int .i64 7) ∧ Below w.heap.size w w' := by
  have hb := (Below.refl w.heap.size w).alloc (Nat.le_refl _) (.cells #[.int .i64 i, .int .u32 g] 31)
  go_enter Try.func13, Try.ntmps13
  go_wp2_with (go_at_call 24; (with_reducible refine (none_live _ _ _).mono ?_); rintro e w1 ⟨rfl, hb1⟩)
  go_ret
  exact ⟨rfl, hb.trans (hb1.mono hb.size)⟩
theorem none_drop (i g : Int) (w : World) : Calls Try.prog 15 #[.pointer none, .agg #[.int .i64 i, .int .u32 g]] w fun e w' => e = .returned (.int .i64 7) ∧ Below w.heap.size w w' := by
  have hb := (Below.refl w.heap.size w).alloc (Nat.le_refl _) (.cells #[.int .i64 i, .int .u32 g] 31)
  go_enter Try.func15, Try.ntmps15
  go_wp2_with (go_at_call 24; (with_reducible refine (none_live _ _ _).mono ?_); rintro e w1 ⟨rfl, hb1⟩)
  go_ret
  exact ⟨rfl, hb.trans (hb1.mono hb.size)⟩
theorem none_refs (i g : Int) (w : World) : Calls Try.prog 17 #[.pointer none, .agg #[.int .i64 i, .int .u32 g]] w fun e w' => e = .returned (.int .i64 0) ∧ Below w.heap.size w w' := by
  have hb := (Below.refl w.heap.size w).alloc (Nat.le_refl _) (.cells #[.int .i64 i, .int .u32 g] 31)
  go_enter Try.func17, Try.ntmps17
  go_wp2_with (go_at_call 24; (with_reducible refine (none_live _ _ _).mono ?_); rintro e w1 ⟨rfl, hb1⟩)
  go_ret
  exact ⟨rfl, hb.trans (hb1.mono hb.size)⟩
set_option maxHeartbeats 400000 in
theorem none_take (w : World) : Calls Try.prog 11 #[.pointer none] w fun e w' => e = .returned (.tuple #[.agg #[.int .i64 0, .int .u32 0], .int .i64 6]) ∧ Below w.heap.size w w' := by
  have hb0 := (Below.refl w.heap.size w).alloc (Nat.le_refl _) (.cells #[.int .i64 0, .int .u32 0] 31)
  have d0 := heap_alloc_new w (.cells #[.int .i64 0, .int .u32 0] 31)
  go_enter Try.func11, Try.ntmps11
  go_wp2_with (go_at_call 22; (with_reducible refine (slots_none _).mono ?_); rintro e w1 ⟨rfl, rfl⟩)
  generalize w.alloc (.cells #[.int .i64 0, .int .u32 0] 31) = W at *
  go_loopw [9] (fun i wr => i = .int .i64 0 ∧ W = wr) (fun _ _ => 0)
  case atStart => exact ⟨rfl, rfl⟩
  case round =>
    obtain ⟨rfl, rfl⟩ := hrel
    obtain ⟨⟨x0, x1⟩, ⟨x2, x3⟩, x4⟩ := row2_store d0 (.int .i64 0) (.int .u32 0)
    obtain ⟨r0, r1⟩ := row2_cells x4
    go_wp2
    exact bodyPost_ret (v := .tuple #[.agg #[.int .i64 0, .int .u32 0], .int .i64 6]) (by simp [results, Try.results11, go_sem, r0, r1]) rfl ⟨rfl, (hb0.setCell (p := ⟨w.heap.size, 0, none⟩) (Nat.le_refl _) _).setCell (p := ⟨w.heap.size, 1, none⟩) (Nat.le_refl _) _⟩
set_option maxHeartbeats 1000000 in
theorem arenaNone_walk (i g : Int) (w : World) (h0 : (-9223372036854775808 ≤ i ∧ i ≤ 9223372036854775807) ∧ (0 ≤ g ∧ g ≤ 4294967295)) :
    Calls Try.prog 6 #[.agg #[.int .i64 i, .int .u32 g]] w fun e w' => e = .returned (.bool true) ∧ Below w.heap.size w w' := by
  have hb := (Below.refl w.heap.size w).alloc (Nat.le_refl _) (.cells #[.int .i64 i, .int .u32 g] 31)
  have d0 := heap_alloc_new w (.cells #[.int .i64 i, .int .u32 g] 31)
  have s0 := block_lt d0
  go_enter Try.func6, Try.ntmps6
  go_wp2_with (first
    | (go_at_call 7; (with_reducible refine (shown11_any _).mono ?_); rintro e w1 ⟨rfl, hb1⟩; have c1 := hb.trans (hb1.mono hb.size); have d1 := (hb1.block w.heap.size s0).trans d0)
    | (go_at_call 11; (with_reducible refine (none_take _).mono ?_); rintro e w2 ⟨rfl, hb2⟩; have c2 := (c1.trans (hb2.mono c1.size)).alloc (Nat.le_trans c1.size hb2.size) (.cells #[.int .i64 0, .int .u32 0] 31); have d2 := (Below.block ((Below.refl w2.heap.size w2).alloc (Nat.le_refl _) (.cells #[.int .i64 0, .int .u32 0] 31)) w.heap.size (Nat.lt_of_lt_of_le (block_lt d1) hb2.size)).trans ((hb2.block w.heap.size (block_lt d1)).trans d1); obtain ⟨b0, b1⟩ := row2_cells d2)
    | (go_at_call 13; (with_reducible refine (none_keep _ _ _).mono ?_); rintro e w3 ⟨rfl, hb3⟩; have c3 := c2.trans (hb3.mono c2.size); have d3 := (hb3.block w.heap.size (block_lt d2)).trans d2; obtain ⟨b0, b1⟩ := row2_cells d3)
    | (go_at_call 15; (with_reducible refine (none_drop _ _ _).mono ?_); rintro e w4 ⟨rfl, hb4⟩; have c4 := c3.trans (hb4.mono c3.size); have d4 := (hb4.block w.heap.size (block_lt d3)).trans d3; obtain ⟨b0, b1⟩ := row2_cells d4)
    | (go_at_call 17; (with_reducible refine (none_refs _ _ _).mono ?_); rintro e w5 ⟨rfl, hb5⟩; have c5 := c4.trans (hb5.mono c4.size))
    | (go_at_call 19; (with_reducible refine (none_free _).mono ?_); rintro e w6 ⟨rfl, hb6⟩; have c6 := c5.trans (hb6.mono c5.size))
    | (go_at_call 22; (with_reducible refine (slots_none _).mono ?_); rintro e w7 ⟨rfl, rfl⟩))
  go_ret
  exact ⟨rfl, c6⟩
namespace arenaNone
open Go.ChangeShapes Go.WideShapes Go.ChangeAt Go.RowKit
open Go.ChangeMaps (open_string shut_string)
set_option linter.unusedVariables false

theorem own : ownKnob Try.prog.godebug = none := by kernel_rfl
theorem laidOut : laidOutB Try.prog = true := by kernel_rfl

set_option maxRecDepth 100000 in
theorem lifted (os : Os) (started : os.Started) (H : Type) (enc : TypeId × Value → H) :
    ReturnsInHanded {} Try.checked os 6 .any (Rows.arenaNoneSpec.pre6 enc Try.prog Try.f6 Rows.arenaNoneRow.domain false) (Rows.arenaNoneSpec.post enc Try.prog Try.f6 false true false false) := by
  refine returnsInHanded_of_change_sized (C := Try.checked) own started (by kernel_rfl) Try.func6
    (ChangeSpec.witness6 (enc := enc) (C := Try.checked) false ⟨#[], #[.agg #[.int .i64 0, .int .u32 0]], []⟩ 8 (by kernel_rfl) (by kernel_rfl) (by kernel_rfl) (by kernel_rfl)) ?_
  intro W base args ds gs before hval0 hW hcnd hsz0 _
  have hsz : (DataW.weightsEach Try.prog (Try.f6.params.toList ++ Rows.arenaNoneSpec.plain.varTypes Try.prog) (ds ++ gs)).all (· ≤ reachBytes) = true := hsz0
  have hval : ∀ (j : Nat) t v, Try.f6.params[j]? = some t → args[j]? = some v → Value.okWide Try.prog W .any base t v := hval0
  have hW' := hW
  obtain ⟨p, q, hA0, hV, rfl, hfz, hnd⟩ := hW
  have hA : DataW.TrodAll enc Try.prog W 0 (fun _ => true) true Try.f6.params.toList args.toList ds p := hA0
  rw [Try.params6] at hA hval hsz
  obtain ⟨v0, vs0, d0, ds0, p0, q0, hargs, rfl, rfl, h0, r0⟩ := trodAll_cons hA
  obtain ⟨rfl, rfl, rfl⟩ := trodAll_nil r0
  obtain rfl : args = #[v0] := by cases args; simp_all
  obtain ⟨rfl, rfl⟩ := trodVars_none hV
  obtain ⟨i0, g0, rfl, rfl, rfl, wi0, wg0⟩ := open_handle (hval 0 31 v0 rfl rfl) h0
  clear hA0 hval0 hsz0
  refine (arenaNone_walk i0 g0 W ⟨bounds_i64 wi0, bounds_u32 wg0⟩).mono fun e W' ⟨he, bel⟩ => ?_
  subst he
  exact ⟨_, rfl, _, _, _, [], _, [], hW', trodAll_mk1 (shut_bool Try.underlying4 _), (trodAll_cons_mk (shut_handle wi0 wg0) trodAll_mk0), rfl, bel.frame _, fun h => by cases h⟩

/-- The statement. -/
theorem proved : Rows.ArenaNoneSaid :=
  OpenClaim.holds_of_wide 6 Try.f6 rfl rfl rfl rfl rfl rfl rfl ⟨rfl, rfl, rfl, rfl, rfl⟩ rfl rfl rfl rfl rfl (by kernel_rfl) Try.func6 (by kernel_rfl)
    (of_decide_eq_true (by kernel_rfl)) (by unfold Func.isWrapper; rw [if_neg (of_decide_eq_false (by kernel_rfl))]; exact ⟨rfl, rfl⟩)
    (fun os started H enc _ => lifted os started H enc)
#print axioms proved
end arenaNone
end Go.Proofs.Ytfmojphbjhedgaa
