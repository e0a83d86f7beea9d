/-
TextKey: a name is written and read without a change of case, for every name that may be; for every peer's number and every string.
-/
import Derived.Test.YtaghecgjmkhpcaaDoorTxH
import Derived.Test.YtaghecgjmkhpcaaDoorTxFr
import Derived.Test.YtaghecgjmkhpcaaDoorCards
import Derived.Test.YtaghecgjmkhpcaaDoorTie
import Derived.SevenTiedAt
namespace Go.Proofs.YtaghecgjmkhpcaaDoor
set_option linter.unusedVariables false
set_option linter.unusedSimpArgs false
open Go Go.RowKit

namespace textKey
abbrev kx (p : Int) (nm : List UInt8) : Sp := ⟨⟨2, p, 0, 0, nm, [], []⟩, none, 0, 0, none, 0, 0⟩
theorem key_may (p : Int) (nm : List UInt8) : mayO (kx p nm).o = (smlB p && labB nm) := by
  simp [mayO, sameO, tailO, srcB, layB, smlB]
theorem kx_row (p : Int) (nm : List UInt8) (w : World) (hl : nm.length ≤ 140737488351232) : SpR w (kx p nm) := ⟨row_nilT _ _ _, row_nilT _ _ _, (fun x hx => by cases hx), hl⟩
theorem kx_may (p : Int) (nm : List UInt8) (w : World) (hl : nm.length ≤ 140737488351232) : Calls Tryd.prog 10 #[.agg #[.int .i64 2, .int .i64 p, .int .i64 0, .int .i64 0, .string ⟨nm.toArray⟩, .slice none 0 0, .slice none 0 0]] w fun e w' => e = .returned (.bool (smlB p && labB nm)) ∧ Below w.heap.size w w' := by
  have := may_o (kx p nm) w (kx_row p nm w hl)
  rw [key_may] at this
  exact this
abbrev kA (p : Int) (nm : List UInt8) : Array Value := #[.int .i64 2, .int .i64 p, .int .i64 0, .int .i64 0, .string ⟨nm.toArray⟩, .slice none 0 0, .slice none 0 0]
theorem kx_print (p : Int) (nm : List UInt8) (w : World) (hl : nm.length ≤ 140737488351232) (hT : LaidT w) (P : List UInt8) (hP : printL [(kx p nm).o] = P) :
    Calls Tryd.prog 9 #[.slice (some ⟨w.heap.size, 0, none⟩) 1 1] (w.alloc (.cells (kA p nm) 28)) fun e w' => e = .returned (.string ⟨P.toArray⟩) ∧ Below w.heap.size w w' := by
  have hb := (Below.refl w.heap.size w).alloc (Nat.le_refl _) (.cells (kA p nm) 28)
  have hops : Ops (w.alloc (.cells (kA p nm) 28)) (some ⟨w.heap.size, 0, none⟩) 1 1 [kx p nm] := by
    refine ⟨rfl, Nat.le_refl _, by unfold maxLen; omega, ?_, fun y hy => ?_⟩
    · have r := World.ownsRow_lit (base := 0) (e := 28) (size := 7) w (kA p nm) 1 (Nat.zero_le _) (by unfold maxLen; omega) rfl
      exact (own_rowT 1 r).rd
    · rw [List.mem_singleton.1 hy]
      exact kx_row p nm _ hl
  refine (print_any _ _ _ _ _ hops (hT.below hb)).mono ?_
  rintro e w' ⟨rfl, h2⟩
  have e1 : opl [kx p nm] = [(kx p nm).o] := rfl
  rw [e1, hP]
  exact ⟨rfl, below_nextT hb h2⟩
set_option maxRecDepth 20000 in
set_option maxHeartbeats 2000000 in
theorem textKey_walk (p : Int) (sb : ByteArray) (w : World) (hp : -9223372036854775808 ≤ p ∧ p ≤ 9223372036854775807) (hl : sb.size ≤ 140737488351232) (hT : LaidT w) :
    Calls Tryd.prog 7 #[.int .i64 p, .string sb] w fun e w' => e = .returned (.bool true) ∧ Below w.heap.size w w' := by
  obtain ⟨nm, rfl⟩ : ∃ s : List UInt8, sb = ⟨s.toArray⟩ := ⟨sb.data.toList, by simp⟩
  have hnl : nm.length ≤ 140737488351232 := hl
  clear hl
  have HT := Lib.hid hT
  have hcs : smlB p = (decide (0 ≤ p) && decide (p ≤ 999)) := by simp [smlB]
  by_cases hm : (smlB p && labB nm) = true
  · rw [Bool.and_eq_true] at hm
    have hp9 : 0 ≤ p ∧ p ≤ 999 := by simpa [smlB] using hm.1
    have hmy : mayO (kx p nm).o = true := by rw [key_may, hm.1, hm.2]; rfl
    obtain ⟨P, hP⟩ : ∃ P, printL [(kx p nm).o] = P := ⟨_, rfl⟩
    have hok : ∀ q ∈ [(kx p nm).o], mayO q = true ∧ ssOk q := by
      intro q hq
      rw [List.mem_singleton.1 hq]
      exact ⟨hmy, fun x hx => by cases hx⟩
    have hPl : P.length ≤ 262144 := by
      rw [← hP, print_yes (by simp) (fun q hq => (hok q hq).1)]
      exact Nat.le_trans (lines_len [(kx p nm).o] (fun q hq => (hok q hq).1)) (by simp)
    have htx : textL P = ([(kx p nm).o], 0, 0) := by
      have := text_turn (l := [(kx p nm).o]) (by simp) hok (by rw [hP]; exact hPl)
      rwa [hP] at this
    have CP := Lib.hid (fun w hT => kx_print p nm w hnl hT P hP)
    have CQ := Lib.hid (fun w hT => parse_o P w (by omega) hT _ 0 0 htx)
    have CM := Lib.hid (fun w => kx_may p nm w hnl)
    have HM1 := Lib.hid hm.1
    have HM2 := Lib.hid hm.2
    have e1 : decide (0 ≤ p) = true := decide_eq_true hp9.1
    have e2 : decide (p ≤ 999) = true := decide_eq_true hp9.2
    clear hm hmy hok hP hPl htx hT hcs
    go_enter Tryd.func7, Tryd.ntmps7
    go_upto_region 4 with (go_at_call 8; (with_reducible refine (shown_any _ HT.out).mono ?_); rintro e w1 ⟨rfl, hb1⟩)
    have hi2 : (w1.alloc (.cells (kA p nm) 28)).heap[w1.heap.size]? = some (.cells (kA p nm) 28 (0, 0)) := heap_alloc_new w1 _
    have hb2 : Below w1.heap.size w1 (w1.alloc (.cells (kA p nm) 28)) := (Below.refl _ w1).alloc (Nat.le_refl _) _
    generalize w1.alloc _ = w2 at *
    obtain ⟨x0, x1, x2, x3, x4, x5, x6⟩ := seven_cells hi2
    have B2 := below_nextT hb1 hb2
    go_wp2_with (first
      | (go_at_call 10; (with_reducible refine (CM.out w2).mono ?_); rintro e w3 ⟨rfl, hb3⟩; rw [HM1.out, HM2.out]; have hi3 := blk_below hi2 hb3; obtain ⟨y0, y1, y2, y3, y4, y5, y6⟩ := seven_cells hi3; have B3 := below_nextT B2 hb3)
      | (go_at_call 13; (with_reducible refine (label_any nm w3 (by omega)).mono ?_); rintro e w4 ⟨rfl, hb4⟩; rw [HM2.out]; have hi4 := blk_below hi3 hb4; obtain ⟨z0, z1, z2, z3, z4, z5, z6⟩ := seven_cells hi4; have B4 := below_nextT B3 hb4)
      | (go_at_call 10; (with_reducible refine (CM.out w4).mono ?_); rintro e w5 ⟨rfl, hb5⟩; rw [HM1.out, HM2.out]; have hi5 := blk_below hi4 hb5; obtain ⟨a0, a1, a2, a3, a4, a5, a6⟩ := seven_cells hi5; have B5 := below_nextT B4 hb5)
      | (go_at_call 9; (with_reducible refine (CP.out w5 (HT.out.below B5)).mono ?_); rintro e w6 ⟨rfl, hb6⟩; have B6 := below_nextT B5 hb6)
      | (go_at_call 11; (with_reducible refine (CQ.out w6 (HT.out.below B6)).mono ?_); rintro e w7 ⟨A, n, c, xs, rfl, hops, hxo, hb7⟩; have hn1 : n = 1 := (by have h := hops.len; have h2 := congrArg List.length hxo; rw [opl_length] at h2; simp at h2; omega); subst hn1; obtain ⟨y, rfl⟩ : ∃ y, xs = [y] := List.length_eq_one_iff.1 hops.len; have hyo : y.o = (kx p nm).o := (by simpa [opl] using hxo); obtain ⟨ad, rfl, q0, q1, q2, q3, q4, q5, q6⟩ := rd_sp hops.ops.rd (k := 0) (by simp); rw [show [y][0] = y from rfl, hyo] at q1 q4; rw [show ad.add (0 * 7) = ad by simp [add_zero']] at q1 q4; have hc1 := (own_cap hops.own).1; have B7 := below_nextT B6 hb7; clear q0 q2 q3 q5 q6 hyo hxo hops))
    go_ret
    exact ⟨rfl, B7⟩
  · have hm0 : (smlB p && labB nm) = false := by simpa using hm
    have hmy : mayO (kx p nm).o = false := by rw [key_may, hm0]
    have hP : printL [(kx p nm).o] = [] := by rw [print_one, hmy]; rfl
    have CP := Lib.hid (fun w hT => kx_print p nm w hnl hT [] hP)
    have CM := Lib.hid (fun w => kx_may p nm w hnl)
    have HM0 := Lib.hid hm0
    have hthree : decide (0 ≤ p) = false ∨ (decide (0 ≤ p) = true ∧ decide (p ≤ 999) = false) ∨ (decide (0 ≤ p) = true ∧ decide (p ≤ 999) = true ∧ labB nm = false) := by
      rw [hcs] at hm0
      cases h1 : decide (0 ≤ p)
      · exact .inl rfl
      · cases h2 : decide (p ≤ 999)
        · exact .inr (.inl ⟨rfl, rfl⟩)
        · rw [h1, h2] at hm0
          exact .inr (.inr ⟨rfl, rfl, by simpa using hm0⟩)
    clear hm hmy hP hT hcs hm0
    go_enter Tryd.func7, Tryd.ntmps7
    go_upto_region 4 with (go_at_call 8; (with_reducible refine (shown_any _ HT.out).mono ?_); rintro e w1 ⟨rfl, hb1⟩)
    have hi2 : (w1.alloc (.cells (kA p nm) 28)).heap[w1.heap.size]? = some (.cells (kA p nm) 28 (0, 0)) := heap_alloc_new w1 _
    have hb2 : Below w1.heap.size w1 (w1.alloc (.cells (kA p nm) 28)) := (Below.refl _ w1).alloc (Nat.le_refl _) _
    generalize w1.alloc _ = w2 at *
    obtain ⟨x0, x1, x2, x3, x4, x5, x6⟩ := seven_cells hi2
    have B2 := below_nextT hb1 hb2
    rcases hthree with e1 | ⟨e1, e2⟩ | ⟨e1, e2, e3⟩
    · go_wp2_with (first
        | (go_at_call 10; (with_reducible refine (CM.out w2).mono ?_); rintro e w3 ⟨rfl, hb3⟩; rw [HM0.out]; have hi3 := blk_below hi2 hb3; obtain ⟨y0, y1, y2, y3, y4, y5, y6⟩ := seven_cells hi3; have B3 := below_nextT B2 hb3)
        | (go_at_call 10; (with_reducible refine (CM.out w3).mono ?_); rintro e w5 ⟨rfl, hb5⟩; rw [HM0.out]; have hi5 := blk_below hi3 hb5; obtain ⟨a0, a1, a2, a3, a4, a5, a6⟩ := seven_cells hi5; have B5 := below_nextT B3 hb5)
        | (go_at_call 9; (with_reducible refine (CP.out w5 (HT.out.below B5)).mono ?_); rintro e w6 ⟨rfl, hb6⟩; have B6 := below_nextT B5 hb6))
      go_ret
      exact ⟨rfl, B6⟩
    · go_wp2_with (first
        | (go_at_call 10; (with_reducible refine (CM.out w2).mono ?_); rintro e w3 ⟨rfl, hb3⟩; rw [HM0.out]; have hi3 := blk_below hi2 hb3; obtain ⟨y0, y1, y2, y3, y4, y5, y6⟩ := seven_cells hi3; have B3 := below_nextT B2 hb3)
        | (go_at_call 10; (with_reducible refine (CM.out w3).mono ?_); rintro e w5 ⟨rfl, hb5⟩; rw [HM0.out]; have hi5 := blk_below hi3 hb5; obtain ⟨a0, a1, a2, a3, a4, a5, a6⟩ := seven_cells hi5; have B5 := below_nextT B3 hb5)
        | (go_at_call 9; (with_reducible refine (CP.out w5 (HT.out.below B5)).mono ?_); rintro e w6 ⟨rfl, hb6⟩; have B6 := below_nextT B5 hb6))
      go_ret
      exact ⟨rfl, B6⟩
    · have E3 := Lib.hid e3
      clear e3
      go_wp2_with (first
        | (go_at_call 10; (with_reducible refine (CM.out w2).mono ?_); rintro e w3 ⟨rfl, hb3⟩; rw [HM0.out]; have hi3 := blk_below hi2 hb3; obtain ⟨y0, y1, y2, y3, y4, y5, y6⟩ := seven_cells hi3; have B3 := below_nextT B2 hb3)
        | (go_at_call 13; (with_reducible refine (label_any nm w3 (by omega)).mono ?_); rintro e w4 ⟨rfl, hb4⟩; rw [E3.out]; have hi4 := blk_below hi3 hb4; obtain ⟨z0, z1, z2, z3, z4, z5, z6⟩ := seven_cells hi4; have B4 := below_nextT B3 hb4)
        | (go_at_call 10; (with_reducible refine (CM.out w4).mono ?_); rintro e w5 ⟨rfl, hb5⟩; rw [HM0.out]; have hi5 := blk_below hi4 hb5; obtain ⟨a0, a1, a2, a3, a4, a5, a6⟩ := seven_cells hi5; have B5 := below_nextT B4 hb5)
        | (go_at_call 9; (with_reducible refine (CP.out w5 (HT.out.below B5)).mono ?_); rintro e w6 ⟨rfl, hb6⟩; have B6 := below_nextT B5 hb6))
      go_ret
      exact ⟨rfl, B6⟩
end textKey
namespace textKey
open Go.ChangeShapes Go.WideShapes Go.ChangeAt Go.RowKit
open Go.ChangeMaps (open_string shut_string)
set_option linter.unusedVariables false

theorem own : ownKnob Tryd.prog.godebug = none := by kernel_rfl
theorem laidOut : laidOutB Tryd.prog = true := by kernel_rfl

set_option maxRecDepth 100000 in
set_option maxHeartbeats 2000000 in
theorem lifted (os : Os) (started : os.Started) (H : Type) (enc : TypeId × Value → H) :
    ReturnsInHanded {} Tryd.checked os 7 .any (fun w args => (Rows.textKeySpec.pre enc Tryd.prog Tryd.f7 Rows.textKeyRow.domain false w args ∧ laidMetH Tryd.prog laidL w) ∧ sizedMet enc Tryd.prog Tryd.f7 (OpenSpec.ofChange Rows.textKeySpec) false w args) (Rows.textKeySpec.post enc Tryd.prog Tryd.f7 false true false false) := by
  refine returnsInHanded_of_row (C := Tryd.checked) (s := OpenSpec.ofChange Rows.textKeySpec) (F := fun _ _ _ => 0) own started (by kernel_rfl) Tryd.func7
    (ChangeSpec.witness_shaped (enc := enc) (C := Tryd.checked) (os := os) (X := fun w _ => laidMetH Tryd.prog laidL w) false (World.laidAll Tryd.prog os laidL) #[.int .i64 0, .string .empty] 8 (World.laidAll_os _ _ _)
      (World.shaped_of_ZipB (by kernel_rfl) (by kernel_rfl)) (by kernel_rfl) (by kernel_rfl) (by kernel_rfl)
      (by rw [MakeChecks.laidMetH_plain _ _ _ (by kernel_rfl)]; exact laidMet_laidAll _ (by kernel_rfl) (by kernel_rfl))) ?_
  intro W base args ds gs before hval0 hW hcnd hcnd2 hsz0 hL hsh _
  have hT : LaidT W := laid_of hL hsh
  clear hL hsh
  have hsz : (DataW.weightsEach Tryd.prog (Tryd.f7.params.toList ++ (OpenSpec.ofChange Rows.textKeySpec).bare.plain.varTypes Tryd.prog) (ds ++ gs)).all (· ≤ reachBytes) = true := hsz0
  have hval : ∀ (j : Nat) t v, Tryd.f7.params[j]? = some t → args[j]? = some v → Value.okWide Tryd.prog W .any base t v := hval0
  have hW' := hW
  obtain ⟨p, q, hA0, hV, rfl, hfz, hnd⟩ := hW
  have hA : DataW.TrodAll enc Tryd.prog W 0 (fun _ => true) true Tryd.f7.params.toList args.toList ds p := hA0
  rw [Tryd.params7] at hA hval hsz
  obtain ⟨v0, vs0, d0, ds0, p0, q0, hargs, rfl, rfl, h0, r0⟩ := trodAll_cons hA
  obtain ⟨v1, vs1, d1, ds1, p1, q1, rfl, rfl, rfl, h1, r1⟩ := trodAll_cons r0
  obtain ⟨rfl, rfl, rfl⟩ := trodAll_nil r1
  obtain rfl : args = #[v0, v1] := by cases args; simp_all
  obtain ⟨rfl, rfl⟩ := trodVars_none hV
  obtain ⟨x0, rfl, rfl, rfl, w0⟩ := open_int Tryd.underlying3 (hval 0 3 v0 rfl rfl) h0
  obtain ⟨s1, rfl, rfl, rfl, ws1⟩ := open_string Tryd.underlying9 (hval 1 9 v1 rfl rfl) h1
  have hs1 : s1.size ≤ 140737488351232 := by
    have := sized_string hsz (j := 1) rfl rfl
    have e : s1.data.toList.length = s1.size := by rw [Array.length_toList]; rfl
    have e2 : reachBytes = 140737488351232 := rfl
    omega
  clear hA0 hval0 hsz0
  refine (textKey_walk x0 s1 W (bounds_i64 w0) hs1 hT).mono fun e W' ⟨he, bel⟩ => ?_
  subst he
  exact ⟨_, rfl, _, _, _, [], _, [], hW', trodAll_mk1 (shut_bool Tryd.underlying4 _), (trodAll_cons_mk (shut_int Tryd.underlying3 w0) (trodAll_cons_mk (shut_string Tryd.underlying9 ws1) trodAll_mk0)), rfl, bel.frame _, fun h => by cases h⟩

/-- The row's statement. -/
theorem said : Rows.TextKeySaid :=
  OpenClaim.holds_of_wide 7 Tryd.f7 rfl rfl rfl rfl rfl rfl rfl ⟨rfl, rfl, rfl, rfl, rfl⟩ rfl rfl rfl rfl rfl (by kernel_rfl) Tryd.func7 (by kernel_rfl)
    (of_decide_eq_true (by kernel_rfl)) (by unfold Func.isWrapper; rw [if_neg (of_decide_eq_false (by kernel_rfl))]; exact ⟨rfl, rfl⟩)
    (fun os started H enc _ => lifted os started H enc)
/-- The statement: the tied card. -/
theorem proved : Rows.TextKeyCardSaid :=
  Claim7.holds_tied_plain_at .later [] Rows.textKeyCard.laidKinds true Rows.textKeyCard.stood.harness true said (fun _ h => by cases h) (by kernel_rfl) (fun _ h => by cases h) textKey_row_tie rfl ⟨rfl, rfl⟩ (by kernel_rfl) rfl
    (fun f fn hf hfn => by
      obtain rfl : f = 7 := Option.some.inj ((show Tryd.prog.funcNamed "sluicegate/sluicegatelaw30.TextKey" = some 7 by kernel_rfl).symm.trans hf) |>.symm
      obtain rfl : fn = Tryd.f7 := (Option.some.inj (Tryd.func7.symm.trans hfn)).symm
      exact ⟨by kernel_rfl, fun j t ht => by
        rw [Tryd.params7] at ht
        have hm : t ∈ [3, 9] := by simpa using Array.mem_of_getElem? ht
        have hall : ([3, 9].all fun u => !Tryd.prog.wantsStandIn u) = true := by kernel_rfl
        exact (show Tryd.prog.wantsStandIn t = false by simpa using List.all_eq_true.1 hall t hm)⟩)
    (by kernel_rfl)
#print axioms proved
end textKey
end Go.Proofs.YtaghecgjmkhpcaaDoor
