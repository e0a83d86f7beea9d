/-
TextAll: any script's text; whether each operation has a line. For every script.
-/
import Derived.Test.YtaghecgjmkhpcaaGreatDoorTz6
import Derived.Test.YtaghecgjmkhpcaaGreatDoorTxH
import Derived.Test.YtaghecgjmkhpcaaGreatDoorTxFr
import Derived.Test.YtaghecgjmkhpcaaGreatDoorCards
import Derived.Test.YtaghecgjmkhpcaaGreatDoorTie
import Derived.SevenTiedAt
namespace Go.Proofs.YtaghecgjmkhpcaaGreatDoor
set_option linter.unusedVariables false
set_option linter.unusedSimpArgs false
open Go Go.RowKit

namespace textAll
set_option maxRecDepth 20000 in
set_option maxHeartbeats 2000000 in
theorem textAll_walk (A : Option Addr) (n c : Nat) (xs : List Sp) (w : World) (hx : Ops w A n c xs) (hb : n * 96 ≤ 140737488351232) (hA : A = none → n = 0 ∧ c = 0) (hT : LaidT w) :
    Calls Tryz.prog 3 #[.slice A n c] w fun e w' => e = .returned (.bool true) ∧ Below w.heap.size w w' := by
  have HO := Lib.hid hx
  have HT := Lib.hid hT
  have hl := hx.len
  have hnc := hx.nc
  have hcm := hx.cm
  unfold maxLen at hcm
  have HL := Lib.hid hl
  obtain ⟨P, hP⟩ : ∃ P, printL (opl xs) = P := ⟨_, rfl⟩
  have HP := Lib.hid hP
  clear hx hT hA hl hP
  go_enter Tryz.func3, Tryz.ntmps3
  go_wp2_with (go_at_call 5; (with_reducible refine (shown_any _ HT.out).mono ?_); rintro e w1 ⟨rfl, hb1⟩)
  go_loopw [9] (fun ix wr => ∃ j : Nat, ix = .int .i64 j ∧ j ≤ n ∧ Below w.heap.size w wr) (fun ix _ => n - (intOf ix).toNat)
  case atStart => exact ⟨0, rfl, Nat.zero_le _, hb1⟩
  case round =>
    obtain ⟨j, rfl, hjn, hbr⟩ := hrel
    by_cases hlt : j < n
    · have hj : j < xs.length := by rw [HL.out]; exact hlt
      obtain ⟨ad, rfl, c0, c1, c2, c3, c4, c5, c6⟩ := rd_sp (HO.out.rd.below hbr) hj
      obtain ⟨x, hx⟩ : ∃ x, xs[j] = x := ⟨_, rfl⟩
      have hxr : SpR w x := by rw [← hx]; exact HO.out.rows _ (List.getElem_mem hj)
      rw [hx] at c0 c1 c2 c3 c4 c5 c6
      have HR := Lib.hid hxr
      clear hx hxr
      go_upto_region 6 with fail
      have hi1 : (wr.alloc (.cells #[.int .i64 x.o.k, .int .i64 x.o.p, .int .i64 x.o.s, .int .i64 x.o.y, .string ⟨x.o.nm.toArray⟩, .slice x.A x.an x.ac, .slice x.B x.bn x.bc] 27)).heap[wr.heap.size]? = some (.cells #[.int .i64 x.o.k, .int .i64 x.o.p, .int .i64 x.o.s, .int .i64 x.o.y, .string ⟨x.o.nm.toArray⟩, .slice x.A x.an x.ac, .slice x.B x.bn x.bc] 27 (0, 0)) := heap_alloc_new wr _
      have hb1 : Below wr.heap.size wr (wr.alloc (.cells #[.int .i64 x.o.k, .int .i64 x.o.p, .int .i64 x.o.s, .int .i64 x.o.y, .string ⟨x.o.nm.toArray⟩, .slice x.A x.an x.ac, .slice x.B x.bn x.bc] 27)) := (Below.refl _ wr).alloc (Nat.le_refl _) _
      generalize wr.alloc _ = w1 at *
      have hbw1 := hbr.trans (hb1.mono hbr.size)
      obtain ⟨x0, x1, x2, x3, x4, x5, x6⟩ := seven_cells hi1
      obtain ⟨M, hM⟩ : ∃ M, mayO x.o = M := ⟨_, rfl⟩
      have HM := Lib.hid hM
      have HBD := Lib.hid hbw1.drew
      have HR2 := Lib.hid (HR.out.below HBD.out)
      have hid := Lib.hid (blk_below hi1 (Below.refl w1.heap.size w1).drew)
      clear hM x0 x1 x2 x3 x4 x5 x6 c0 c1 c2 c3 c4 c5 c6
      go_cut [17] from 13 to 17 (fun v17 wx => v17 = .bool false ∧ Below w.heap.size w wx)
      case rest =>
        obtain ⟨rfl, hb9⟩ := hcut
        go_wp2
        exact ⟨⟨j + 1, rfl, by omega, hb9⟩, by simp [intOf]; omega⟩
      refine region_plan (calmB_sound _) (.fork [0] (.leaf [2, 1, 3, 4]) (.leaf [1, 2, 3, 4])) (by kernel_rfl) (by kernel_rfl) (by kernel_rfl) ?_
      obtain ⟨x0, x1, x2, x3, x4, x5, x6⟩ := seven_cells hid.out
      generalize w1.drew = wd at *
      refine wpPlan_fork fun PL0 hPL0 => ?_
      simp only [List.filterMap_cons, List.filterMap_nil, List.getElem?_toArray, List.getElem?_cons_succ, List.getElem?_cons_zero]
      change wpList _ _ _ [_] _ _
      go_wp2_with ((first
        | (go_at_call 6; (with_reducible refine (may_o x _ HR2.out).mono ?_); rintro e w3 ⟨rfl, hb3⟩; rw [HM.out]; obtain ⟨z0, z1, z2, z3, z4, z5, z6⟩ := seven_cells (blk_below hid.out hb3); have B3 := HBD.out.trans (hb3.mono HBD.out.size))
        | (go_at_call 7; (with_reducible refine (rmay_o x _ (HR.out.below B3) (HT.out.below B3)).mono ?_); rintro e w4 ⟨rfl, hb4⟩; rw [HM.out]; have B4 := B3.trans (hb4.mono B3.size))))
      refine hPL0 _ _ ?_ ?_
      · refine wpPlan_leaf fun PL1 hPL1 => ?_
        simp only [List.filterMap_cons, List.filterMap_nil, List.getElem?_toArray, List.getElem?_cons_succ, List.getElem?_cons_zero]
        change wpList _ _ _ [_, _, _, _] _ _
        go_wp2_with ((first
        | (go_at_call 6; (with_reducible refine (may_o x _ HR2.out).mono ?_); rintro e w3 ⟨rfl, hb3⟩; rw [HM.out]; obtain ⟨z0, z1, z2, z3, z4, z5, z6⟩ := seven_cells (blk_below hid.out hb3); have B3 := HBD.out.trans (hb3.mono HBD.out.size))
        | (go_at_call 7; (with_reducible refine (rmay_o x _ (HR.out.below B3) (HT.out.below B3)).mono ?_); rintro e w4 ⟨rfl, hb4⟩; rw [HM.out]; have B4 := B3.trans (hb4.mono B3.size))))
        go_meet
        exact ⟨by simp, B4⟩
      · refine wpPlan_leaf fun PL1 hPL1 => ?_
        simp only [List.filterMap_cons, List.filterMap_nil, List.getElem?_toArray, List.getElem?_cons_succ, List.getElem?_cons_zero]
        change wpList _ _ _ [_, _, _, _] _ _
        go_wp2_with ((first
        | (go_at_call 6; (with_reducible refine (may_o x _ HR2.out).mono ?_); rintro e w3 ⟨rfl, hb3⟩; rw [HM.out]; obtain ⟨z0, z1, z2, z3, z4, z5, z6⟩ := seven_cells (blk_below hid.out hb3); have B3 := HBD.out.trans (hb3.mono HBD.out.size))
        | (go_at_call 7; (with_reducible refine (rmay_o x _ (HR.out.below B3) (HT.out.below B3)).mono ?_); rintro e w4 ⟨rfl, hb4⟩; rw [HM.out]; have B4 := B3.trans (hb4.mono B3.size))))
        go_meet
        exact ⟨by simp, B4⟩
    · obtain rfl : j = n := by omega
      go_wp2_with (first
        | (go_at_call 8; (with_reducible refine (print_any A j c xs _ (HO.out.below hbr) (HT.out.below hbr)).mono ?_); rintro e w3 ⟨rfl, hb3⟩; rw [HP.out]; have B3 := below_nextT hbr hb3)
        | (go_at_call 9; (with_reducible refine (rprint_any A j c xs _ (HO.out.below B3) (HT.out.below B3)).mono ?_); rintro e w4 ⟨rfl, hb4⟩; rw [HP.out]; have B4 := below_nextT B3 hb4))
      go_ret
      exact ⟨rfl, B4⟩
end textAll
namespace textAll
open Go.ChangeShapes Go.WideShapes Go.ChangeAt Go.RowKit
open Go.ChangeMaps (open_string shut_string)
set_option linter.unusedVariables false

theorem own : ownKnob Tryz.prog.godebug = none := by kernel_rfl
theorem laidOut : laidOutB Tryz.prog = true := by kernel_rfl

set_option maxRecDepth 100000 in
set_option maxHeartbeats 2000000 in
theorem lifted (os : Os) (started : os.Started) (H : Type) (enc : TypeId × Value → H) :
    ReturnsInHanded {} Tryz.checked os 3 .any (fun w args => (Rows.textAllSpec.pre enc Tryz.prog Tryz.f3 Rows.textAllRow.domain false w args ∧ laidMetH Tryz.prog laidL w) ∧ sizedMet enc Tryz.prog Tryz.f3 (OpenSpec.ofChange Rows.textAllSpec) false w args) (Rows.textAllSpec.post enc Tryz.prog Tryz.f3 false true false false) := by
  refine returnsInHanded_of_row (C := Tryz.checked) (s := OpenSpec.ofChange Rows.textAllSpec) (F := fun _ _ _ => 0) own started (by kernel_rfl) Tryz.func3
    (ChangeSpec.witness_shaped (enc := enc) (C := Tryz.checked) (os := os) (X := fun w _ => laidMetH Tryz.prog laidL w) false (World.laidAll Tryz.prog os laidL) #[.slice none 0 0] 8 (World.laidAll_os _ _ _)
      (World.shaped_of_ZipB (by kernel_rfl) (by kernel_rfl)) (by kernel_rfl) (by kernel_rfl) (by kernel_rfl)
      (by rw [MakeChecks.laidMetH_plain _ _ _ (by kernel_rfl)]; exact laidMet_laidAll _ (by kernel_rfl) (by kernel_rfl))) ?_
  intro W base args ds gs before hval0 hW hcnd hcnd2 hsz0 hL hsh _
  have hT : LaidT W := laid_of hL hsh
  clear hL hsh
  have hsz : (DataW.weightsEach Tryz.prog (Tryz.f3.params.toList ++ (OpenSpec.ofChange Rows.textAllSpec).bare.plain.varTypes Tryz.prog) (ds ++ gs)).all (· ≤ reachBytes) = true := hsz0
  have hval : ∀ (j : Nat) t v, Tryz.f3.params[j]? = some t → args[j]? = some v → Value.okWide Tryz.prog W .any base t v := hval0
  have hW' := hW
  obtain ⟨p, q, hA0, hV, rfl, hfz, hnd⟩ := hW
  have hA : DataW.TrodAll enc Tryz.prog W 0 (fun _ => true) true Tryz.f3.params.toList args.toList ds p := hA0
  rw [Tryz.params3] at hA hval hsz
  obtain ⟨v0, vs0, d0, ds0, p0, q0, hargs, rfl, rfl, h0, r0⟩ := trodAll_cons hA
  obtain ⟨rfl, rfl, rfl⟩ := trodAll_nil r0
  obtain rfl : args = #[v0] := by cases args; simp_all
  obtain ⟨rfl, rfl⟩ := trodVars_none hV
  obtain ⟨a0, len0, cap0, rfl⟩ := okWide_slice Tryz.underlying22 (hval 0 22 v0 rfl rfl)
  have k0 := h0
  have lt0 : ∀ x ∈ p0, x.block < W.heap.size := by obtain ⟨m, hm⟩ := k0; exact DataW.trod_lt m _ _ _ hm
  obtain ⟨xs0, it0, nl0⟩ : ∃ xs, Ops W a0 len0 cap0 xs ∧ (a0 = none → len0 = 0 ∧ cap0 = 0) := by obtain ⟨fuel, hf⟩ := h0; exact open_ops hf (fun x hx => by have := List.all_eq_true.1 hsz _ (DataW.weights_mem_each (j := 0) rfl rfl x hx); simpa using this)
  have hl0 : len0 = 0 ∨ ∃ es sp, d0 = .slice es sp ∧ es.length = len0 := by obtain ⟨fuel, hf⟩ := h0; exact slice_len Tryz.underlying22 hf
  have hb0 : len0 * 96 ≤ 140737488351232 := reach_slice hsz (j := 0) rfl rfl Tryz.underlying22 (by kernel_rfl) hl0
  clear hA0 hval0 hsz0
  refine (textAll_walk a0 len0 cap0 xs0 W it0 hb0 nl0 hT).mono fun e W' ⟨he, bel⟩ => ?_
  subst he
  exact ⟨_, rfl, _, _, _, [], _, [], hW', trodAll_mk1 (shut_bool Tryz.underlying4 _), (trodAll_cons_mk (Below.trod laidOut (by kernel_rfl) (of_decide_eq_true (by kernel_rfl)) k0 bel lt0) trodAll_mk0), rfl, bel.frame _, fun h => by cases h⟩

/-- The row's statement. -/
theorem said : Rows.TextAllSaid :=
  OpenClaim.holds_of_wide 3 Tryz.f3 rfl rfl rfl rfl rfl rfl rfl ⟨rfl, rfl, rfl, rfl, rfl⟩ rfl rfl rfl rfl rfl (by kernel_rfl) Tryz.func3 (by kernel_rfl)
    (of_decide_eq_true (by kernel_rfl)) (by unfold Func.isWrapper; rw [if_neg (of_decide_eq_false (by kernel_rfl))]; exact ⟨rfl, rfl⟩)
    (fun os started H enc _ => lifted os started H enc)
/-- The statement: the tied card. -/
theorem proved : Rows.TextAllCardSaid :=
  Claim7.holds_tied_plain_at .later [] Rows.textAllCard.laidKinds true Rows.textAllCard.stood.harness true said (fun _ h => by cases h) (by kernel_rfl) (fun _ h => by cases h) textAll_row_tie rfl ⟨rfl, rfl⟩ (by kernel_rfl) rfl
    (fun f fn hf hfn => by
      obtain rfl : f = 3 := Option.some.inj ((show Tryz.prog.funcNamed "sluicegate/sluicegatelaw30.TextAll" = some 3 by kernel_rfl).symm.trans hf) |>.symm
      obtain rfl : fn = Tryz.f3 := (Option.some.inj (Tryz.func3.symm.trans hfn)).symm
      exact ⟨by kernel_rfl, fun j t ht => by
        rw [Tryz.params3] at ht
        have hm : t ∈ [22] := by simpa using Array.mem_of_getElem? ht
        have hall : ([22].all fun u => !Tryz.prog.wantsStandIn u) = true := by kernel_rfl
        exact (show Tryz.prog.wantsStandIn t = false by simpa using List.all_eq_true.1 hall t hm)⟩)
    (by kernel_rfl)
#print axioms proved
end textAll

end Go.Proofs.YtaghecgjmkhpcaaGreatDoor
