/-
TextParse: any text as a script, or what is wrong first, and in which line. For every text.
-/
import Derived.Test.YtaghecgjmkhpcaaGreatDoorTzQ
import Derived.Test.YtaghecgjmkhpcaaGreatDoorTxH
import Derived.Test.YtaghecgjmkhpcaaGreatDoorTxFr
import Derived.Test.YtaghecgjmkhpcaaGreatDoorCards
import Derived.Test.YtaghecgjmkhpcaaGreatDoorTie
import Derived.SevenTiedAt
namespace Go.Proofs.YtaghecgjmkhpcaaGreatDoor
set_option linter.unusedVariables false
set_option linter.unusedSimpArgs false
open Go Go.RowKit

namespace textParse
set_option maxRecDepth 20000 in
set_option maxHeartbeats 2000000 in
theorem textParse_walk (sb : ByteArray) (w : World) (hl : sb.size ≤ 140737488351232) (hT : LaidT w) :
    Calls Tryz.prog 4 #[.string sb] w fun e w' => e = .returned (.bool true) ∧ Below w.heap.size w w' := by
  obtain ⟨s, hs⟩ : ∃ s : List UInt8, ⟨s.toArray⟩ = sb := ⟨sb.data.toList, by simp⟩
  have hsl : s.length ≤ 140737488351232 := by rw [← hs] at hl; exact hl
  obtain ⟨O, N, E, ht⟩ : ∃ O N E, textL s = (O, N, E) := ⟨_, _, _, rfl⟩
  have c1 := (fun w hT => parse_o s w (by omega) hT O N E ht)
  have c2 : ∀ w, LaidT w → Calls Tryz.prog 11 #[.string ⟨s.toArray⟩] w fun e w' => ∃ (A : Option Addr) (n c : Nat) (xs : List Sp), e = .returned (.tuple #[.slice A n c, .int .i64 N, .int .i64 E]) ∧ OpsO w' w.heap.size A n c xs ∧ opl xs = O ∧ Below w.heap.size w w' := (fun w hT => rparse_any s w (by omega) hT O N E ht)
  rw [hs] at c1 c2
  have C1 := Lib.hid c1
  have C2 := Lib.hid c2
  have HT := Lib.hid hT
  clear c1 c2 hT hs ht hsl
  go_enter Tryz.func4, Tryz.ntmps4
  go_wp2_with (first
    | (go_at_call 5; (with_reducible refine (shown_any _ HT.out).mono ?_); rintro e w1 ⟨rfl, hb1⟩)
    | (go_at_call 10; (with_reducible refine (C1.out _ (HT.out.below hb1)).mono ?_); rintro e w2 ⟨A2, n2, c2, xs, rfl, hx, hxo, hb2⟩; have HX := Lib.hid hx; have HXO := Lib.hid hxo; have B2 := below_nextT hb1 hb2; clear hx hxo)
    | (go_at_call 11; (with_reducible refine (C2.out _ (HT.out.below B2)).mono ?_); rintro e w3 ⟨A3, n3, c3, ys, rfl, hy, hyo, hb3⟩; have HY := Lib.hid hy; have HYO := Lib.hid hyo; have HX3 := Lib.hid (HX.out.below hb3); have B3 := below_nextT B2 hb3; clear hy hyo)
    | (go_at_call 12; (with_reducible refine (sameOps_any A2 n2 c2 xs A3 n3 c3 ys _ HX3.out.ops HY.out.ops (HXO.out.trans HYO.out.symm)).mono ?_); rintro e w4 ⟨rfl, hb4⟩; have B4 := below_nextT B3 hb4))
  go_ret
  exact ⟨rfl, B4⟩
end textParse
namespace textParse
open Go.ChangeShapes Go.WideShapes Go.ChangeAt Go.RowKit
open Go.ChangeMaps (open_string shut_string)
set_option linter.unusedVariables false

theorem own : ownKnob Tryz.prog.godebug = none := by kernel_rfl
theorem laidOut : laidOutB Tryz.prog = true := by kernel_rfl

set_option maxRecDepth 100000 in
set_option maxHeartbeats 2000000 in
theorem lifted (os : Os) (started : os.Started) (H : Type) (enc : TypeId × Value → H) :
    ReturnsInHanded {} Tryz.checked os 4 .any (fun w args => (Rows.textParseSpec.pre enc Tryz.prog Tryz.f4 Rows.textParseRow.domain false w args ∧ laidMetH Tryz.prog laidL w) ∧ sizedMet enc Tryz.prog Tryz.f4 (OpenSpec.ofChange Rows.textParseSpec) false w args) (Rows.textParseSpec.post enc Tryz.prog Tryz.f4 false true false false) := by
  refine returnsInHanded_of_row (C := Tryz.checked) (s := OpenSpec.ofChange Rows.textParseSpec) (F := fun _ _ _ => 0) own started (by kernel_rfl) Tryz.func4
    (ChangeSpec.witness_shaped (enc := enc) (C := Tryz.checked) (os := os) (X := fun w _ => laidMetH Tryz.prog laidL w) false (World.laidAll Tryz.prog os laidL) #[.string .empty] 8 (World.laidAll_os _ _ _)
      (World.shaped_of_ZipB (by kernel_rfl) (by kernel_rfl)) (by kernel_rfl) (by kernel_rfl) (by kernel_rfl)
      (by rw [MakeChecks.laidMetH_plain _ _ _ (by kernel_rfl)]; exact laidMet_laidAll _ (by kernel_rfl) (by kernel_rfl))) ?_
  intro W base args ds gs before hval0 hW hcnd hcnd2 hsz0 hL hsh _
  have hT : LaidT W := laid_of hL hsh
  clear hL hsh
  have hsz : (DataW.weightsEach Tryz.prog (Tryz.f4.params.toList ++ (OpenSpec.ofChange Rows.textParseSpec).bare.plain.varTypes Tryz.prog) (ds ++ gs)).all (· ≤ reachBytes) = true := hsz0
  have hval : ∀ (j : Nat) t v, Tryz.f4.params[j]? = some t → args[j]? = some v → Value.okWide Tryz.prog W .any base t v := hval0
  have hW' := hW
  obtain ⟨p, q, hA0, hV, rfl, hfz, hnd⟩ := hW
  have hA : DataW.TrodAll enc Tryz.prog W 0 (fun _ => true) true Tryz.f4.params.toList args.toList ds p := hA0
  rw [Tryz.params4] at hA hval hsz
  obtain ⟨v0, vs0, d0, ds0, p0, q0, hargs, rfl, rfl, h0, r0⟩ := trodAll_cons hA
  obtain ⟨rfl, rfl, rfl⟩ := trodAll_nil r0
  obtain rfl : args = #[v0] := by cases args; simp_all
  obtain ⟨rfl, rfl⟩ := trodVars_none hV
  obtain ⟨s0, rfl, rfl, rfl, ws0⟩ := open_string Tryz.underlying9 (hval 0 9 v0 rfl rfl) h0
  have hs0 : s0.size ≤ 140737488351232 := by
    have := sized_string hsz (j := 0) rfl rfl
    have e : s0.data.toList.length = s0.size := by rw [Array.length_toList]; rfl
    have e2 : reachBytes = 140737488351232 := rfl
    omega
  clear hA0 hval0 hsz0
  refine (textParse_walk s0 W hs0 hT).mono fun e W' ⟨he, bel⟩ => ?_
  subst he
  exact ⟨_, rfl, _, _, _, [], _, [], hW', trodAll_mk1 (shut_bool Tryz.underlying4 _), (trodAll_cons_mk (shut_string Tryz.underlying9 ws0) trodAll_mk0), rfl, bel.frame _, fun h => by cases h⟩

/-- The row's statement. -/
theorem said : Rows.TextParseSaid :=
  OpenClaim.holds_of_wide 4 Tryz.f4 rfl rfl rfl rfl rfl rfl rfl ⟨rfl, rfl, rfl, rfl, rfl⟩ rfl rfl rfl rfl rfl (by kernel_rfl) Tryz.func4 (by kernel_rfl)
    (of_decide_eq_true (by kernel_rfl)) (by unfold Func.isWrapper; rw [if_neg (of_decide_eq_false (by kernel_rfl))]; exact ⟨rfl, rfl⟩)
    (fun os started H enc _ => lifted os started H enc)
/-- The statement: the tied card. -/
theorem proved : Rows.TextParseCardSaid :=
  Claim7.holds_tied_plain_at .later [] Rows.textParseCard.laidKinds true Rows.textParseCard.stood.harness true said (fun _ h => by cases h) (by kernel_rfl) (fun _ h => by cases h) textParse_row_tie rfl ⟨rfl, rfl⟩ (by kernel_rfl) rfl
    (fun f fn hf hfn => by
      obtain rfl : f = 4 := Option.some.inj ((show Tryz.prog.funcNamed "sluicegate/sluicegatelaw30.TextParse" = some 4 by kernel_rfl).symm.trans hf) |>.symm
      obtain rfl : fn = Tryz.f4 := (Option.some.inj (Tryz.func4.symm.trans hfn)).symm
      exact ⟨by kernel_rfl, fun j t ht => by
        rw [Tryz.params4] at ht
        have hm : t ∈ [9] := by simpa using Array.mem_of_getElem? ht
        have hall : ([9].all fun u => !Tryz.prog.wantsStandIn u) = true := by kernel_rfl
        exact (show Tryz.prog.wantsStandIn t = false by simpa using List.all_eq_true.1 hall t hm)⟩)
    (by kernel_rfl)
#print axioms proved
end textParse
end Go.Proofs.YtaghecgjmkhpcaaGreatDoor
