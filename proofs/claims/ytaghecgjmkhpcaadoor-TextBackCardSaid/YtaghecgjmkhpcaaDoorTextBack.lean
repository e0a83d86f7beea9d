/-
TextBack: a text that is a script is written as it was; with an error there are no operations, and a line exactly if the error is not ErrRange. For every string.
-/
import Derived.Test.YtaghecgjmkhpcaaDoorTxH
import Derived.Test.YtaghecgjmkhpcaaDoorTxFr
import Derived.Test.YtaghecgjmkhpcaaDoorCards
import Derived.Test.YtaghecgjmkhpcaaDoorTie
import Derived.SevenTiedAt
namespace Go.Proofs.YtaghecgjmkhpcaaDoor
set_option linter.unusedVariables false
set_option linter.unusedSimpArgs false
open Go Go.RowKit

namespace textBack
set_option maxRecDepth 20000 in
set_option maxHeartbeats 2000000 in
theorem textBack_walk (sb : ByteArray) (w : World) (hl : sb.size ≤ 140737488351232) (hT : LaidT w) :
    Calls Tryd.prog 4 #[.string sb] w fun e w' => e = .returned (.bool true) ∧ Below w.heap.size w w' := by
  obtain ⟨s, hs⟩ : ∃ s : List UInt8, ⟨s.toArray⟩ = sb := ⟨sb.data.toList, by simp⟩
  have hsl : s.length ≤ 140737488351232 := by rw [← hs] at hl; exact hl
  obtain ⟨O, N, E, ht⟩ : ∃ O N E, textL s = (O, N, E) := ⟨_, _, _, rfl⟩
  have C := Lib.hid (fun w hT => parse_o s w hsl hT O N E ht)
  have HT := Lib.hid hT
  have HS := Lib.hid hs
  by_cases h0 : E = 0
  · have hb := text_back (s := s) (by rw [ht]; exact h0)
    rw [ht] at hb
    obtain ⟨hb1, hb2, hb3⟩ := hb
    dsimp only at hb1 hb2
    have e1 : (E == 0) = true := by simp [h0]
    have e2 : (N == 0) = true := by simp [hb1]
    have HB := Lib.hid hb2
    clear h0 hb1 hb2 hb3 ht hT hs
    go_enter Tryd.func4, Tryd.ntmps4
    go_wp2_with (first
      | (go_at_call 8; (with_reducible refine (shown_any _ HT.out).mono ?_); rintro e w1 ⟨rfl, hb1⟩)
      | (go_at_call 11; rw [← HS.out]; (with_reducible refine (C.out _ (HT.out.below hb1)).mono ?_); rintro e w2 ⟨A, n, c, xs, rfl, hops, hxo, hb2⟩; rw [HS.out]; have HOPS := Lib.hid hops; have HXO := Lib.hid hxo; have hb12 := below_nextT hb1 hb2; clear hops hxo)
      | (go_at_call 9; (with_reducible refine (print_any A n c xs _ HOPS.out.ops (HT.out.below hb12)).mono ?_); rintro e w3 ⟨rfl, hb3⟩; rw [HXO.out, HB.out, HS.out]))
    go_ret
    exact ⟨rfl, below_nextT hb12 hb3⟩
  · have he := text_err (s := s) (by rw [ht]; exact h0)
    rw [ht] at he
    obtain ⟨hb1, hb2⟩ := he
    dsimp only at hb1 hb2
    have e1 : (E == 0) = false := by simp [h0]
    have HO := Lib.hid hb1
    have e3 : decide (0 < N) = !(E == 5) := by
      by_cases h5 : E = 5
      · rw [decide_eq_false (fun h => hb2.1 h h5)]
        simp [h5]
      · rw [decide_eq_true (hb2.2 h5)]
        simp [h5]
    have HE3 := Lib.hid e3
    clear h0 hb1 hb2 ht hT hs e3
    go_enter Tryd.func4, Tryd.ntmps4
    go_wp2_with (first
      | (go_at_call 8; (with_reducible refine (shown_any _ HT.out).mono ?_); rintro e w1 ⟨rfl, hb1⟩)
      | (go_at_call 11; rw [← HS.out]; (with_reducible refine (C.out _ (HT.out.below hb1)).mono ?_); rintro e w2 ⟨A, n, c, xs, rfl, hops, hxo, hb2⟩; rw [HS.out]; have hn0 : n = 0 := (by have h := hops.len; have h2 := congrArg List.length hxo; rw [opl_length, HO.out] at h2; simp at h2; rw [← h, h2]; rfl); subst hn0; have hb12 := below_nextT hb1 hb2; clear hops hxo))
    go_ret
    have e4 : (decide (0 < N) == (E != 5)) = true := by rw [HE3.out]; simp [bne]
    exact ⟨by show Ending.returned (Value.bool (decide (0 < N) == (E != 5))) = _; rw [e4], hb12⟩
end textBack
namespace textBack
open Go.ChangeShapes Go.WideShapes Go.ChangeAt Go.RowKit
open Go.ChangeMaps (open_string shut_string)
set_option linter.unusedVariables false

theorem own : ownKnob Tryd.prog.godebug = none := by kernel_rfl
theorem laidOut : laidOutB Tryd.prog = true := by kernel_rfl

set_option maxRecDepth 100000 in
set_option maxHeartbeats 2000000 in
theorem lifted (os : Os) (started : os.Started) (H : Type) (enc : TypeId × Value → H) :
    ReturnsInHanded {} Tryd.checked os 4 .any (fun w args => (Rows.textBackSpec.pre enc Tryd.prog Tryd.f4 Rows.textBackRow.domain false w args ∧ laidMetH Tryd.prog laidL w) ∧ sizedMet enc Tryd.prog Tryd.f4 (OpenSpec.ofChange Rows.textBackSpec) false w args) (Rows.textBackSpec.post enc Tryd.prog Tryd.f4 false true false false) := by
  refine returnsInHanded_of_row (C := Tryd.checked) (s := OpenSpec.ofChange Rows.textBackSpec) (F := fun _ _ _ => 0) own started (by kernel_rfl) Tryd.func4
    (ChangeSpec.witness_shaped (enc := enc) (C := Tryd.checked) (os := os) (X := fun w _ => laidMetH Tryd.prog laidL w) false (World.laidAll Tryd.prog os laidL) #[.string .empty] 8 (World.laidAll_os _ _ _)
      (World.shaped_of_ZipB (by kernel_rfl) (by kernel_rfl)) (by kernel_rfl) (by kernel_rfl) (by kernel_rfl)
      (by rw [MakeChecks.laidMetH_plain _ _ _ (by kernel_rfl)]; exact laidMet_laidAll _ (by kernel_rfl) (by kernel_rfl))) ?_
  intro W base args ds gs before hval0 hW hcnd hcnd2 hsz0 hL hsh _
  have hT : LaidT W := laid_of hL hsh
  clear hL hsh
  have hsz : (DataW.weightsEach Tryd.prog (Tryd.f4.params.toList ++ (OpenSpec.ofChange Rows.textBackSpec).bare.plain.varTypes Tryd.prog) (ds ++ gs)).all (· ≤ reachBytes) = true := hsz0
  have hval : ∀ (j : Nat) t v, Tryd.f4.params[j]? = some t → args[j]? = some v → Value.okWide Tryd.prog W .any base t v := hval0
  have hW' := hW
  obtain ⟨p, q, hA0, hV, rfl, hfz, hnd⟩ := hW
  have hA : DataW.TrodAll enc Tryd.prog W 0 (fun _ => true) true Tryd.f4.params.toList args.toList ds p := hA0
  rw [Tryd.params4] at hA hval hsz
  obtain ⟨v0, vs0, d0, ds0, p0, q0, hargs, rfl, rfl, h0, r0⟩ := trodAll_cons hA
  obtain ⟨rfl, rfl, rfl⟩ := trodAll_nil r0
  obtain rfl : args = #[v0] := by cases args; simp_all
  obtain ⟨rfl, rfl⟩ := trodVars_none hV
  obtain ⟨s0, rfl, rfl, rfl, ws0⟩ := open_string Tryd.underlying9 (hval 0 9 v0 rfl rfl) h0
  have hs0 : s0.size ≤ 140737488351232 := by
    have := sized_string hsz (j := 0) rfl rfl
    have e : s0.data.toList.length = s0.size := by rw [Array.length_toList]; rfl
    have e2 : reachBytes = 140737488351232 := rfl
    omega
  clear hA0 hval0 hsz0
  refine (textBack_walk s0 W hs0 hT).mono fun e W' ⟨he, bel⟩ => ?_
  subst he
  exact ⟨_, rfl, _, _, _, [], _, [], hW', trodAll_mk1 (shut_bool Tryd.underlying4 _), (trodAll_cons_mk (shut_string Tryd.underlying9 ws0) trodAll_mk0), rfl, bel.frame _, fun h => by cases h⟩

/-- The row's statement. -/
theorem said : Rows.TextBackSaid :=
  OpenClaim.holds_of_wide 4 Tryd.f4 rfl rfl rfl rfl rfl rfl rfl ⟨rfl, rfl, rfl, rfl, rfl⟩ rfl rfl rfl rfl rfl (by kernel_rfl) Tryd.func4 (by kernel_rfl)
    (of_decide_eq_true (by kernel_rfl)) (by unfold Func.isWrapper; rw [if_neg (of_decide_eq_false (by kernel_rfl))]; exact ⟨rfl, rfl⟩)
    (fun os started H enc _ => lifted os started H enc)
/-- The statement: the tied card. -/
theorem proved : Rows.TextBackCardSaid :=
  Claim7.holds_tied_plain_at .later [] Rows.textBackCard.laidKinds true Rows.textBackCard.stood.harness true said (fun _ h => by cases h) (by kernel_rfl) (fun _ h => by cases h) textBack_row_tie rfl ⟨rfl, rfl⟩ (by kernel_rfl) rfl
    (fun f fn hf hfn => by
      obtain rfl : f = 4 := Option.some.inj ((show Tryd.prog.funcNamed "sluicegate/sluicegatelaw30.TextBack" = some 4 by kernel_rfl).symm.trans hf) |>.symm
      obtain rfl : fn = Tryd.f4 := (Option.some.inj (Tryd.func4.symm.trans hfn)).symm
      exact ⟨by kernel_rfl, fun j t ht => by
        rw [Tryd.params4] at ht
        have hm : t ∈ [9] := by simpa using Array.mem_of_getElem? ht
        have hall : ([9].all fun u => !Tryd.prog.wantsStandIn u) = true := by kernel_rfl
        exact (show Tryd.prog.wantsStandIn t = false by simpa using List.all_eq_true.1 hall t hm)⟩)
    (by kernel_rfl)
#print axioms proved
end textBack
end Go.Proofs.YtaghecgjmkhpcaaDoor
