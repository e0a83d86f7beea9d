/-
TextTurn: what is written is read as it was; a script that may not be written, or is too long, is an empty text. For every script.
-/
import Derived.Test.YtaghecgjmkhpcaaDoorTxH
import Derived.Test.YtaghecgjmkhpcaaDoorTxFr
import Derived.Test.YtaghecgjmkhpcaaDoorCards
import Derived.Test.YtaghecgjmkhpcaaDoorTie
import Derived.SevenTiedAt
namespace Go.Proofs.YtaghecgjmkhpcaaDoor
set_option linter.unusedVariables false
set_option linter.unusedSimpArgs false
open Go Go.RowKit

namespace textTurn
set_option maxRecDepth 20000 in
set_option maxHeartbeats 2000000 in
theorem textTurn_walk (A : Option Addr) (n c : Nat) (xs : List Sp) (w : World) (hx : Ops w A n c xs) (hb : n * 96 ≤ 140737488351232) (hA : A = none → n = 0 ∧ c = 0) (hT : LaidT w) :
    Calls Tryd.prog 3 #[.slice A n c] w fun e w' => e = .returned (.bool true) ∧ Below w.heap.size w w' := by
  have HX := Lib.hid hx
  have HT := Lib.hid hT
  have HL := Lib.hid hx.len
  have hnc := hx.nc
  have hcm := hx.cm
  unfold maxLen at hcm
  obtain ⟨P, hP⟩ : ∃ P, printL (opl xs) = P := ⟨_, rfl⟩
  have HP := Lib.hid hP
  clear hx hT hA hP
  go_enter Tryd.func3, Tryd.ntmps3
  go_wp2_with (first
    | (go_at_call 8; (with_reducible refine (shown_any _ HT.out).mono ?_); rintro e w1 ⟨rfl, hb1⟩)
    | (go_at_call 9; (with_reducible refine (print_any A n c xs _ (HX.out.below hb1) (HT.out.below hb1)).mono ?_); rintro e w2 ⟨rfl, hb2⟩; rw [HP.out]; have B2 := below_nextT hb1 hb2))
  go_loopw [15] (fun i wr => ∃ j : Nat, i = .int .i64 j ∧ j ≤ n ∧ Below w.heap.size w wr ∧ Hid (∀ q ∈ opl (xs.take j), mayO q = true)) (fun i _ => n - (intOf i).toNat)
  case atStart => exact ⟨0, rfl, Nat.zero_le _, B2, Lib.hid (by simp [opl])⟩
  case round =>
    obtain ⟨j, rfl, hjn, hbr, HMY⟩ := hrel
    clear hb1 hb2 B2
    by_cases hlt : j < n
    · have hj : j < xs.length := by rw [HL.out]; exact hlt
      obtain ⟨ad, rfl, c0, c1, c2, c3, c4, c5, c6⟩ := rd_sp (HX.out.rd.below hbr) hj
      obtain ⟨x, hx⟩ : ∃ x, xs[j] = x := ⟨_, rfl⟩
      have hxr : SpR w x := by rw [← hx]; exact HX.out.rows _ (List.getElem_mem hj)
      rw [hx] at c0 c1 c2 c3 c4 c5 c6
      have HXX := Lib.hid hx
      have HR := Lib.hid hxr
      clear hx hxr
      go_upto_region 7 with fail
      have hi1 : (wr.alloc (.cells (spA x) 28)).heap[wr.heap.size]? = some (.cells (spA x) 28 (0, 0)) := heap_alloc_new wr _
      have hb1 : Below wr.heap.size wr (wr.alloc (.cells (spA x) 28)) := (Below.refl _ wr).alloc (Nat.le_refl _) _
      generalize wr.alloc _ = w3 at *
      have hbw1 := hbr.trans (hb1.mono hbr.size)
      have HR1 := Lib.hid (HR.out.below hbw1)
      obtain ⟨x0, x1, x2, x3, x4, x5, x6⟩ := seven_cells hi1
      cases hm : mayO x.o with
      | false =>
        have HMX := Lib.hid hm
        have e0 : P = [] := by
          rw [← HP.out]
          unfold printL
          rw [if_neg]
          rintro ⟨_, h2⟩
          have := List.all_eq_true.1 h2 x.o (List.mem_map.2 ⟨x, by rw [← HXX.out]; exact List.getElem_mem hj, rfl⟩)
          rw [HMX.out] at this
          cases this
        have e1 : (P == []) = true := by rw [e0]; rfl
        have e2 : P.isEmpty = true := by rw [e0]; rfl
        have E0 := Lib.hid e0
        clear e0
        go_wp2_with (go_at_call 10; (with_reducible refine (may_o x _ HR1.out).mono ?_); rintro e w4 ⟨rfl, hb4⟩; have hm' := HMX.out; rw [hm'])
        go_ret
        exact ⟨rfl, hbw1.trans (hb4.mono hbw1.size)⟩
      | true =>
        have HMX := Lib.hid hm
        clear hm
        go_wp2_with (go_at_call 10; (with_reducible refine (may_o x _ HR1.out).mono ?_); rintro e w4 ⟨rfl, hb4⟩; have hm' := HMX.out; rw [hm'])
        refine ⟨⟨j + 1, rfl, by omega, hbw1.trans (hb4.mono hbw1.size), ?_⟩, by simp [intOf]; omega⟩
        refine Lib.hid ?_
        intro q hq
        rw [opl_take_succ (by rw [HL.out]; exact hlt), HXX.out] at hq
        rcases List.mem_append.1 hq with hq | hq
        · exact HMY.out q hq
        · rw [List.mem_singleton.1 hq]
          exact HMX.out
    · have hje : j = n := by omega
      subst hje
      have hall : ∀ q ∈ opl xs, mayO q = true ∧ ssOk q := by
        have := HMY.out
        rw [List.take_of_length_le (by rw [HL.out]; exact Nat.le_refl _)] at this
        exact fun q hq => ⟨this q hq, HX.out.sok q hq⟩
      have HALL := Lib.hid hall
      clear hall
      by_cases hn : j ≤ 256
      · have e1 : decide ((256 : Int) < (j : Int)) = false := decide_eq_false (by omega)
        by_cases hpl : P.length ≤ 262144
        · have ht : textL P = (opl xs, 0, 0) := by
            have := text_turn (l := opl xs) (by rw [opl_length, HL.out]; exact hn) HALL.out (by rw [HP.out]; exact hpl)
            rwa [HP.out] at this
          have C := Lib.hid (fun w hT => parse_o P w (by omega) hT _ 0 0 ht)
          have e2 : decide ((262144 : Int) < (P.length : Int)) = false := decide_eq_false (by omega)
          clear ht
          go_wp2_with (first
            | (go_at_call 11; (with_reducible refine (C.out _ (HT.out.below hbr)).mono ?_); rintro e w2 ⟨A2, n2, c2, ys, rfl, hops, hxo, hb2⟩; have HOPS := Lib.hid hops; have HXO := Lib.hid hxo; have B2 := below_nextT hbr hb2; clear hops hxo)
            | (go_at_call 12; (with_reducible refine (sameOps_any A j c xs A2 n2 c2 ys _ (HX.out.below B2) HOPS.out.ops HXO.out.symm).mono ?_); rintro e w3 ⟨rfl, hb3⟩))
          go_ret
          exact ⟨rfl, below_nextT B2 hb3⟩
        · have ht : textL P = ([], 0, 5) := by unfold textL; rw [if_pos (by omega)]
          have hpl2 : P.length ≤ 4611686018427387904 := by
            have h1 := lines_len (opl xs) (fun q hq => (HALL.out q hq).1)
            rw [← print_yes (by rw [opl_length, HL.out]; exact hn) (fun q hq => (HALL.out q hq).1), HP.out, opl_length, HL.out] at h1
            omega
          have C := Lib.hid (fun w hT => parse_o P w hpl2 hT _ 0 5 ht)
          have e2 : decide ((262144 : Int) < (P.length : Int)) = true := decide_eq_true (by omega)
          clear ht hpl2
          go_wp2_with (first
            | (go_at_call 11; (with_reducible refine (C.out _ (HT.out.below hbr)).mono ?_); rintro e w2 ⟨A2, n2, c2, ys, rfl, hops, hxo, hb2⟩; have hn0 : n2 = 0 := (by have h := hops.len; have h2 := congrArg List.length hxo; rw [opl_length] at h2; simp at h2; rw [← h, h2]; rfl); subst hn0; have B2 := below_nextT hbr hb2; clear hops hxo))
          go_ret
          exact ⟨rfl, B2⟩
      · have e1 : decide ((256 : Int) < (j : Int)) = true := decide_eq_true (by omega)
        have e0 : P = [] := by
          rw [← HP.out]
          unfold printL
          rw [if_neg]
          rintro ⟨h1, _⟩
          rw [opl_length, HL.out] at h1
          exact hn h1
        have e2 : (P == []) = true := by rw [e0]; rfl
        have e3 : P.isEmpty = true := by rw [e0]; rfl
        have E0 := Lib.hid e0
        clear e0
        go_wp2
        go_ret
        exact ⟨rfl, hbr⟩
end textTurn
namespace textTurn
open Go.ChangeShapes Go.WideShapes Go.ChangeAt Go.RowKit
open Go.ChangeMaps (open_string shut_string)
set_option linter.unusedVariables false

theorem own : ownKnob Tryd.prog.godebug = none := by kernel_rfl
theorem laidOut : laidOutB Tryd.prog = true := by kernel_rfl

set_option maxRecDepth 100000 in
set_option maxHeartbeats 2000000 in
theorem lifted (os : Os) (started : os.Started) (H : Type) (enc : TypeId × Value → H) :
    ReturnsInHanded {} Tryd.checked os 3 .any (fun w args => (Rows.textTurnSpec.pre enc Tryd.prog Tryd.f3 Rows.textTurnRow.domain false w args ∧ laidMetH Tryd.prog laidL w) ∧ sizedMet enc Tryd.prog Tryd.f3 (OpenSpec.ofChange Rows.textTurnSpec) false w args) (Rows.textTurnSpec.post enc Tryd.prog Tryd.f3 false true false false) := by
  refine returnsInHanded_of_row (C := Tryd.checked) (s := OpenSpec.ofChange Rows.textTurnSpec) (F := fun _ _ _ => 0) own started (by kernel_rfl) Tryd.func3
    (ChangeSpec.witness_shaped (enc := enc) (C := Tryd.checked) (os := os) (X := fun w _ => laidMetH Tryd.prog laidL w) false (World.laidAll Tryd.prog os laidL) #[.slice none 0 0] 8 (World.laidAll_os _ _ _)
      (World.shaped_of_ZipB (by kernel_rfl) (by kernel_rfl)) (by kernel_rfl) (by kernel_rfl) (by kernel_rfl)
      (by rw [MakeChecks.laidMetH_plain _ _ _ (by kernel_rfl)]; exact laidMet_laidAll _ (by kernel_rfl) (by kernel_rfl))) ?_
  intro W base args ds gs before hval0 hW hcnd hcnd2 hsz0 hL hsh _
  have hT : LaidT W := laid_of hL hsh
  clear hL hsh
  have hsz : (DataW.weightsEach Tryd.prog (Tryd.f3.params.toList ++ (OpenSpec.ofChange Rows.textTurnSpec).bare.plain.varTypes Tryd.prog) (ds ++ gs)).all (· ≤ reachBytes) = true := hsz0
  have hval : ∀ (j : Nat) t v, Tryd.f3.params[j]? = some t → args[j]? = some v → Value.okWide Tryd.prog W .any base t v := hval0
  have hW' := hW
  obtain ⟨p, q, hA0, hV, rfl, hfz, hnd⟩ := hW
  have hA : DataW.TrodAll enc Tryd.prog W 0 (fun _ => true) true Tryd.f3.params.toList args.toList ds p := hA0
  rw [Tryd.params3] at hA hval hsz
  obtain ⟨v0, vs0, d0, ds0, p0, q0, hargs, rfl, rfl, h0, r0⟩ := trodAll_cons hA
  obtain ⟨rfl, rfl, rfl⟩ := trodAll_nil r0
  obtain rfl : args = #[v0] := by cases args; simp_all
  obtain ⟨rfl, rfl⟩ := trodVars_none hV
  obtain ⟨a0, len0, cap0, rfl⟩ := okWide_slice Tryd.underlying22 (hval 0 22 v0 rfl rfl)
  have k0 := h0
  have lt0 : ∀ x ∈ p0, x.block < W.heap.size := by obtain ⟨m, hm⟩ := k0; exact DataW.trod_lt m _ _ _ hm
  obtain ⟨xs0, it0, nl0⟩ : ∃ xs, Ops W a0 len0 cap0 xs ∧ (a0 = none → len0 = 0 ∧ cap0 = 0) := by obtain ⟨fuel, hf⟩ := h0; exact open_ops hf (fun x hx => by have := List.all_eq_true.1 hsz _ (DataW.weights_mem_each (j := 0) rfl rfl x hx); simpa using this)
  have hl0 : len0 = 0 ∨ ∃ es sp, d0 = .slice es sp ∧ es.length = len0 := by obtain ⟨fuel, hf⟩ := h0; exact slice_len Tryd.underlying22 hf
  have hb0 : len0 * 96 ≤ 140737488351232 := reach_slice hsz (j := 0) rfl rfl Tryd.underlying22 (by kernel_rfl) hl0
  clear hA0 hval0 hsz0
  refine (textTurn_walk a0 len0 cap0 xs0 W it0 hb0 nl0 hT).mono fun e W' ⟨he, bel⟩ => ?_
  subst he
  exact ⟨_, rfl, _, _, _, [], _, [], hW', trodAll_mk1 (shut_bool Tryd.underlying4 _), (trodAll_cons_mk (Below.trod laidOut (by kernel_rfl) (of_decide_eq_true (by kernel_rfl)) k0 bel lt0) trodAll_mk0), rfl, bel.frame _, fun h => by cases h⟩

/-- The row's statement. -/
theorem said : Rows.TextTurnSaid :=
  OpenClaim.holds_of_wide 3 Tryd.f3 rfl rfl rfl rfl rfl rfl rfl ⟨rfl, rfl, rfl, rfl, rfl⟩ rfl rfl rfl rfl rfl (by kernel_rfl) Tryd.func3 (by kernel_rfl)
    (of_decide_eq_true (by kernel_rfl)) (by unfold Func.isWrapper; rw [if_neg (of_decide_eq_false (by kernel_rfl))]; exact ⟨rfl, rfl⟩)
    (fun os started H enc _ => lifted os started H enc)
/-- The statement: the tied card. -/
theorem proved : Rows.TextTurnCardSaid :=
  Claim7.holds_tied_plain_at .later [] Rows.textTurnCard.laidKinds true Rows.textTurnCard.stood.harness true said (fun _ h => by cases h) (by kernel_rfl) (fun _ h => by cases h) textTurn_row_tie rfl ⟨rfl, rfl⟩ (by kernel_rfl) rfl
    (fun f fn hf hfn => by
      obtain rfl : f = 3 := Option.some.inj ((show Tryd.prog.funcNamed "sluicegate/sluicegatelaw30.TextTurn" = some 3 by kernel_rfl).symm.trans hf) |>.symm
      obtain rfl : fn = Tryd.f3 := (Option.some.inj (Tryd.func3.symm.trans hfn)).symm
      exact ⟨by kernel_rfl, fun j t ht => by
        rw [Tryd.params3] at ht
        have hm : t ∈ [22] := by simpa using Array.mem_of_getElem? ht
        have hall : ([22].all fun u => !Tryd.prog.wantsStandIn u) = true := by kernel_rfl
        exact (show Tryd.prog.wantsStandIn t = false by simpa using List.all_eq_true.1 hall t hm)⟩)
    (by kernel_rfl)
#print axioms proved
end textTurn
end Go.Proofs.YtaghecgjmkhpcaaDoor
