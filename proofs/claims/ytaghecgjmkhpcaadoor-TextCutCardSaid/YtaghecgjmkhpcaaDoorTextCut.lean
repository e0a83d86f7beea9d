/-
TextCut: a text cut within a line is wrong in that line; one cut between lines is the first operations. For every script and every place.
-/
import Derived.Test.YtaghecgjmkhpcaaDoorTxH
import Derived.Test.YtaghecgjmkhpcaaDoorTxFr
import Derived.Test.YtaghecgjmkhpcaaDoorCards
import Derived.Test.YtaghecgjmkhpcaaDoorTie
import Derived.SevenTiedAt
namespace Go.Proofs.YtaghecgjmkhpcaaDoor
set_option linter.unusedVariables false
set_option linter.unusedSimpArgs false
open Go Go.RowKit

namespace textCut
theorem rowO_take (xs : List Sp) (k : Nat) : (rowO xs).take (k * 7) = rowO (xs.take k) := by
  induction xs generalizing k with
  | nil => simp [rowO]
  | cons b l ih =>
    rcases k with _ | k
    · simp [rowO]
    · rw [List.take_succ_cons, rowO, List.flatMap_cons, ← rowO, show (k + 1) * 7 = (spC b).length + k * 7 by simp [spC]; omega, List.take_length_add_append, ih k]
      rfl
theorem ops_take {w : World} {A : Option Addr} {n c m : Nat} {xs : List Sp} (h : Ops w A n c xs) (hm : m ≤ n) : Ops w A m c (xs.take m) :=
  ⟨by rw [List.length_take, h.len]; omega, Nat.le_trans hm h.nc, h.cm, by rw [← rowO_take]; exact h.rd.take _, fun x hx => h.rows x (List.mem_of_mem_take hx)⟩
theorem cut_at {l : List Opx} (hn : l.length ≤ 100) (hs : ∀ q ∈ l, ssOk q) {i : Nat} (hi : i ≤ (printL l).length) (hl : (printL l).length ≤ 262144) :
    if i = 0 ∨ ((printL l).take i).getLast? = some 10 then (textL ((printL l).take i)).2.2 = 0 ∧ (textL ((printL l).take i)).2.1 = 0 ∧ (textL ((printL l).take i)).1.length = ((printL l).take i).count 10
    else (textL ((printL l).take i)).2.2 ≠ 0 ∧ (textL ((printL l).take i)).2.1 = ((printL l).take i).count 10 + 1 ∧ (textL ((printL l).take i)).1 = [] := by
  by_cases hp : printL l = []
  · rw [hp] at hi ⊢
    have : i = 0 := by simpa using hi
    subst this
    rw [if_pos (.inl rfl)]
    exact ⟨rfl, rfl, rfl⟩
  · have h1 := print_all hp
    rw [print_yes h1.1 h1.2] at hi hl ⊢
    exact text_cut hn (fun q hq => ⟨h1.2 q hq, hs q hq⟩) hi hl
theorem last_at (P : List UInt8) (i : Nat) (h : i < P.length) : (P.take (i + 1)).getLast? = some P[i] := by
  rw [List.take_succ_eq_append_getElem h, List.getLast?_append]
  rfl
set_option maxRecDepth 20000 in
set_option maxHeartbeats 2000000 in
theorem textCut_walk (A : Option Addr) (n c : Nat) (xs : List Sp) (a : Int) (w : World) (hx : Ops w A n c xs) (hb : n * 96 ≤ 140737488351232) (hA : A = none → n = 0 ∧ c = 0) (ha : -9223372036854775808 ≤ a ∧ a ≤ 9223372036854775807) (hT : LaidT w) :
    Calls Tryd.prog 6 #[.slice A n c, .int .i64 a] w fun e w' => e = .returned (.bool true) ∧ Below w.heap.size w w' := by
  obtain ⟨m, hm⟩ : ∃ m : Nat, m = min n 100 := ⟨_, rfl⟩
  have hmn : m ≤ n := by omega
  have hm1 : m ≤ 100 := by omega
  have hmin : ∀ wz : World, (Builtin.min_ #[3, 3] 3 #[.int .i64 (n : Int), .int .i64 100]).run Tryd.prog wz = .ok (.int .i64 (m : Int)) wz := fun wz => by
    rw [hm]
    simp [Builtin.min_, Builtin.min2]
    split <;> omega
  have HX := Lib.hid (ops_take hx hmn)
  have HT := Lib.hid hT
  have hnc := hx.nc
  have hcm := hx.cm
  unfold maxLen at hcm
  have hmc : m ≤ c := by omega
  obtain ⟨P, hP⟩ : ∃ P, printL (opl (xs.take m)) = P := ⟨_, rfl⟩
  have HP := Lib.hid hP
  have hPl : P.length ≤ 110100 := by
    rw [← hP]
    by_cases hp : printL (opl (xs.take m)) = []
    · rw [hp]; simp
    · have h1 := print_all hp
      rw [print_yes h1.1 h1.2]
      have := lines_len _ h1.2
      rw [opl_length, List.length_take] at this
      omega
  have hcut := fun i hi => cut_at (l := opl (xs.take m)) (i := i) (by rw [opl_length, List.length_take]; omega) HX.out.sok hi (by rw [hP]; omega)
  rw [hP] at hcut
  have HCUT := Lib.hid hcut
  clear hx hT hA hP hcut hm
  have hthree : decide (a < 0) = true ∨ (decide (a < 0) = false ∧ decide ((P.length : Int) < a) = true) ∨ (∃ i : Nat, a = i ∧ i ≤ P.length) := by
    by_cases h1 : a < 0
    · exact .inl (decide_eq_true h1)
    · by_cases h2 : (P.length : Int) < a
      · exact .inr (.inl ⟨decide_eq_false h1, decide_eq_true h2⟩)
      · exact .inr (.inr ⟨a.toNat, by omega, by omega⟩)
  rcases hthree with e1 | ⟨e1, e2⟩ | ⟨i, rfl, hi⟩
  · clear ha
    go_enter Tryd.func6, Tryd.ntmps6
    go_wp2_with (first
      | (go_at_call 8; (with_reducible refine (shown_any _ HT.out).mono ?_); rintro e w1 ⟨rfl, hb1⟩)
      | (go_at_call 9; (with_reducible refine (print_any A m c (xs.take m) _ (HX.out.below hb1) (HT.out.below hb1)).mono ?_); rintro e w2 ⟨rfl, hb2⟩; rw [HP.out]; have B2 := below_nextT hb1 hb2))
    go_ret
    exact ⟨rfl, B2⟩
  · clear ha
    go_enter Tryd.func6, Tryd.ntmps6
    go_wp2_with (first
      | (go_at_call 8; (with_reducible refine (shown_any _ HT.out).mono ?_); rintro e w1 ⟨rfl, hb1⟩)
      | (go_at_call 9; (with_reducible refine (print_any A m c (xs.take m) _ (HX.out.below hb1) (HT.out.below hb1)).mono ?_); rintro e w2 ⟨rfl, hb2⟩; rw [HP.out]; have B2 := below_nextT hb1 hb2))
    go_ret
    exact ⟨rfl, B2⟩
  · have e1 : decide ((i : Int) < 0) = false := decide_eq_false (by omega)
    have e2 : decide ((P.length : Int) < (i : Int)) = false := decide_eq_false (by omega)
    have e3 : decide ((262144 : Int) < (P.length : Int)) = false := decide_eq_false (by omega)
    obtain ⟨sv, hsv⟩ : ∃ b : ByteArray, ⟨P.toArray⟩ = b := ⟨_, rfl⟩
    have hsz : sv.size = P.length := by rw [← hsv]; rfl
    obtain ⟨O, N, E, ht⟩ : ∃ O N E, textL (P.take i) = (O, N, E) := ⟨_, _, _, rfl⟩
    have cp := (fun w hT => parse_o (P.take i) w (by rw [List.length_take]; omega) hT O N E ht)
    have hsx : sv.extract 0 i = ⟨(P.take i).toArray⟩ := by
      rw [← hsv]
      apply ByteArray.ext
      simp [ByteArray.data_extract, List.extract_toArray, List.extract_eq_take_drop]
    rw [← hsx] at cp
    have C := Lib.hid cp
    have hc := HCUT.out i hi
    rw [ht] at hc
    clear cp hsx
    have HC := Lib.hid hc
    have HSV := Lib.hid hsv
    obtain ⟨cnt, hcnt⟩ : ∃ f : Nat → Nat, f = fun j => (P.take j).count 10 := ⟨_, rfl⟩
    have c0 : Hid (cnt 0 = 0) := by rw [hcnt]; rfl
    have cle : Hid (∀ j, cnt j ≤ j) := Lib.hid fun j => by
      rw [hcnt]
      exact Nat.le_trans List.count_le_length (by rw [List.length_take]; omega)
    have cs : Hid (∀ j, j < P.length → ∀ a, P[j]? = some a → cnt (j + 1) = cnt j + if a = 10 then 1 else 0) := Lib.hid fun j hj a ha => by
      rw [hcnt]
      show (P.take (j + 1)).count 10 = _
      obtain ⟨_, rfl⟩ := List.getElem?_eq_some_iff.1 ha
      rw [List.take_succ_eq_append_getElem hj, List.count_append, List.count_singleton]
      simp
    have hat : Hid (∀ j, (h : j < P.length) → (h2 : j < sv.size) → P[j]? = some sv[j]) := Lib.hid fun j h h2 => by
      subst hsv
      exact List.getElem?_eq_getElem h
    have hci : Hid (cnt i = (P.take i).count 10) := by rw [hcnt]; rfl
    clear ht hc hcnt hsv
    go_enter Tryd.func6, Tryd.ntmps6
    go_wp2_with (first
      | (go_at_call 8; (with_reducible refine (shown_any _ HT.out).mono ?_); rintro e w1 ⟨rfl, hb1⟩)
      | (go_at_call 9; (with_reducible refine (print_any A m c (xs.take m) _ (HX.out.below hb1) (HT.out.below hb1)).mono ?_); rintro e w2 ⟨rfl, hb2⟩; rw [HP.out, HSV.out]; have B2 := below_nextT hb1 hb2))
    go_loopw [6, 7] (fun v6 ix wr => ∃ j : Nat, ix = .int .i64 j ∧ j ≤ i ∧ v6 = .int .i64 (cnt j + 1 : Nat) ∧ Below w.heap.size w wr) (fun _ ix _ => i - (intOf ix).toNat)
    case atStart => exact ⟨0, rfl, Nat.zero_le _, by rw [c0.out]; rfl, B2⟩
    case round =>
      obtain ⟨j, rfl, hji, rfl, hbr⟩ := hrel
      have hcj := cle.out j
      by_cases hlt : j < i
      · have hjs : j < sv.size := by omega
        obtain ⟨a, ha⟩ : ∃ a, sv[j] = a := ⟨_, rfl⟩
        have hcs := cs.out j (by omega) a (by rw [← ha]; exact hat.out j (by omega) hjs)
        by_cases h10 : a = 10
        · subst h10
          have htn : decide ((((10 : UInt8).toNat : Nat) : Int) = 10) = true := rfl
          rw [if_pos rfl] at hcs
          have HCS := Lib.hid hcs
          clear hcs
          go_wp2
          exact ⟨⟨j + 1, rfl, by omega, by rw [HCS.out] <;> simp, hbr⟩, by simp [intOf]; omega⟩
        · have hnn : ¬ a.toNat = 10 := fun h => h10 (UInt8.toNat_inj.1 h)
          have htn : decide (a.toNat = 10) = false := decide_eq_false hnn
          rw [if_neg h10] at hcs
          have HCS := Lib.hid hcs
          clear hcs
          go_wp2
          exact ⟨⟨j + 1, rfl, by omega, by rw [HCS.out] <;> simp, hbr⟩, by simp [intOf]; omega⟩
      · obtain rfl : j = i := by omega
        clear hlt
        have hc := HC.out
        rw [← hci.out] at hc
        have hgood : (j = 0 ∨ (P.take j).getLast? = some 10) → E = 0 ∧ N = 0 ∧ O.length = cnt j := fun h => by rw [if_pos h] at hc; exact hc
        have hbad : ¬ (j = 0 ∨ (P.take j).getLast? = some 10) → E ≠ 0 ∧ N = (cnt j : Int) + 1 ∧ O.length = 0 := fun h => by rw [if_neg h] at hc; exact ⟨hc.1, hc.2.1, by rw [hc.2.2]; rfl⟩
        clear hc HC
        rcases Nat.eq_zero_or_pos j with rfl | hpos
        · obtain ⟨rfl, rfl, hOl⟩ := hgood (.inl rfl)
          rw [show sv.extract 0 0 = ByteArray.empty from ByteArray.ext (by simp)] at C
          clear hgood hbad
          go_wp2_with (first
            | (go_at_call 11; (with_reducible refine (C.out _ (HT.out.below hbr)).mono ?_); rintro e w3 ⟨B, n3, c3, xs3, rfl, h2, h3, hb3⟩; have hB3 := below_nextT hbr hb3; have hn3 : n3 = O.length := (by have q1 := h2.ops.len; have q2 := opl_length xs3; rw [h3] at q2; omega); (try rw [hOl] at hn3); subst hn3; clear h2 h3))
          go_ret
          exact ⟨rfl, hB3⟩
        · obtain ⟨k, rfl⟩ : ∃ k, j = k + 1 := ⟨j - 1, by omega⟩
          have hk : k < sv.size := by omega
          have hl := last_at P k (by omega)
          have hpk : P[k]'(by omega) = sv[k] := by
            have := hat.out k (by omega) hk
            rw [List.getElem?_eq_getElem (by omega)] at this
            exact Option.some.inj this
          rw [hpk] at hl
          rw [hl] at hgood hbad
          clear hl hpk
          obtain ⟨a, ha⟩ : ∃ a, sv[k] = a := ⟨_, rfl⟩
          rw [ha] at hgood hbad
          by_cases h10 : a = 10
          · subst h10
            obtain ⟨rfl, rfl, hOl⟩ := hgood (.inr rfl)
            clear hgood hbad
            go_wp2_with (first
              | (go_at_call 11; (with_reducible refine (C.out _ (HT.out.below hbr)).mono ?_); rintro e w3 ⟨B, n3, c3, xs3, rfl, h2, h3, hb3⟩; have hB3 := below_nextT hbr hb3; have hn3 : n3 = O.length := (by have q1 := h2.ops.len; have q2 := opl_length xs3; rw [h3] at q2; omega); (try rw [hOl] at hn3); subst hn3; clear h2 h3))
            go_ret
            exact ⟨rfl, hB3⟩
          · have hnn : ¬ a.toNat = 10 := fun h => h10 (UInt8.toNat_inj.1 h)
            have htn : ((a.toNat : Int) == 10) = false := by simp; omega
            have hkb : ((k : Int) + 1 == 0) = false := by simp; omega
            obtain ⟨hE, rfl, hOl⟩ := hbad (by rintro (h | h); exact absurd h (by omega); exact h10 (Option.some.inj h))
            clear hgood hbad
            have hEd : decide (E = 0) = false := decide_eq_false hE
            have hEn : (E != 0) = true := by simpa using hE
            go_wp2_with (first
              | (go_at_call 11; (with_reducible refine (C.out _ (HT.out.below hbr)).mono ?_); rintro e w3 ⟨B, n3, c3, xs3, rfl, h2, h3, hb3⟩; have hB3 := below_nextT hbr hb3; have hn3 : n3 = O.length := (by have q1 := h2.ops.len; have q2 := opl_length xs3; rw [h3] at q2; omega); (try rw [hOl] at hn3); subst hn3; clear h2 h3))
            go_ret
            exact ⟨rfl, hB3⟩
end textCut
namespace textCut
open Go.ChangeShapes Go.WideShapes Go.ChangeAt Go.RowKit
open Go.ChangeMaps (open_string shut_string)
set_option linter.unusedVariables false

theorem own : ownKnob Tryd.prog.godebug = none := by kernel_rfl
theorem laidOut : laidOutB Tryd.prog = true := by kernel_rfl

set_option maxRecDepth 100000 in
set_option maxHeartbeats 2000000 in
theorem lifted (os : Os) (started : os.Started) (H : Type) (enc : TypeId × Value → H) :
    ReturnsInHanded {} Tryd.checked os 6 .any (fun w args => (Rows.textCutSpec.pre enc Tryd.prog Tryd.f6 Rows.textCutRow.domain false w args ∧ laidMetH Tryd.prog laidL w) ∧ sizedMet enc Tryd.prog Tryd.f6 (OpenSpec.ofChange Rows.textCutSpec) false w args) (Rows.textCutSpec.post enc Tryd.prog Tryd.f6 false true false false) := by
  refine returnsInHanded_of_row (C := Tryd.checked) (s := OpenSpec.ofChange Rows.textCutSpec) (F := fun _ _ _ => 0) own started (by kernel_rfl) Tryd.func6
    (ChangeSpec.witness_shaped (enc := enc) (C := Tryd.checked) (os := os) (X := fun w _ => laidMetH Tryd.prog laidL w) false (World.laidAll Tryd.prog os laidL) #[.slice none 0 0, .int .i64 0] 8 (World.laidAll_os _ _ _)
      (World.shaped_of_ZipB (by kernel_rfl) (by kernel_rfl)) (by kernel_rfl) (by kernel_rfl) (by kernel_rfl)
      (by rw [MakeChecks.laidMetH_plain _ _ _ (by kernel_rfl)]; exact laidMet_laidAll _ (by kernel_rfl) (by kernel_rfl))) ?_
  intro W base args ds gs before hval0 hW hcnd hcnd2 hsz0 hL hsh _
  have hT : LaidT W := laid_of hL hsh
  clear hL hsh
  have hsz : (DataW.weightsEach Tryd.prog (Tryd.f6.params.toList ++ (OpenSpec.ofChange Rows.textCutSpec).bare.plain.varTypes Tryd.prog) (ds ++ gs)).all (· ≤ reachBytes) = true := hsz0
  have hval : ∀ (j : Nat) t v, Tryd.f6.params[j]? = some t → args[j]? = some v → Value.okWide Tryd.prog W .any base t v := hval0
  have hW' := hW
  obtain ⟨p, q, hA0, hV, rfl, hfz, hnd⟩ := hW
  have hA : DataW.TrodAll enc Tryd.prog W 0 (fun _ => true) true Tryd.f6.params.toList args.toList ds p := hA0
  rw [Tryd.params6] at hA hval hsz
  obtain ⟨v0, vs0, d0, ds0, p0, q0, hargs, rfl, rfl, h0, r0⟩ := trodAll_cons hA
  obtain ⟨v1, vs1, d1, ds1, p1, q1, rfl, rfl, rfl, h1, r1⟩ := trodAll_cons r0
  obtain ⟨rfl, rfl, rfl⟩ := trodAll_nil r1
  obtain rfl : args = #[v0, v1] := by cases args; simp_all
  obtain ⟨rfl, rfl⟩ := trodVars_none hV
  obtain ⟨a0, len0, cap0, rfl⟩ := okWide_slice Tryd.underlying22 (hval 0 22 v0 rfl rfl)
  have k0 := h0
  have lt0 : ∀ x ∈ p0, x.block < W.heap.size := by obtain ⟨m, hm⟩ := k0; exact DataW.trod_lt m _ _ _ hm
  obtain ⟨xs0, it0, nl0⟩ : ∃ xs, Ops W a0 len0 cap0 xs ∧ (a0 = none → len0 = 0 ∧ cap0 = 0) := by obtain ⟨fuel, hf⟩ := h0; exact open_ops hf (fun x hx => by have := List.all_eq_true.1 hsz _ (DataW.weights_mem_each (j := 0) rfl rfl x hx); simpa using this)
  have hl0 : len0 = 0 ∨ ∃ es sp, d0 = .slice es sp ∧ es.length = len0 := by obtain ⟨fuel, hf⟩ := h0; exact slice_len Tryd.underlying22 hf
  have hb0 : len0 * 96 ≤ 140737488351232 := reach_slice hsz (j := 0) rfl rfl Tryd.underlying22 (by kernel_rfl) hl0
  obtain ⟨x1, rfl, rfl, rfl, w1⟩ := open_int Tryd.underlying3 (hval 1 3 v1 rfl rfl) h1
  clear hA0 hval0 hsz0
  refine (textCut_walk a0 len0 cap0 xs0 x1 W it0 hb0 nl0 (bounds_i64 w1) hT).mono fun e W' ⟨he, bel⟩ => ?_
  subst he
  exact ⟨_, rfl, _, _, _, [], _, [], hW', trodAll_mk1 (shut_bool Tryd.underlying4 _), (trodAll_cons_mk (Below.trod laidOut (by kernel_rfl) (of_decide_eq_true (by kernel_rfl)) k0 bel lt0) (trodAll_cons_mk (shut_int Tryd.underlying3 w1) trodAll_mk0)), rfl, bel.frame _, fun h => by cases h⟩

/-- The row's statement. -/
theorem said : Rows.TextCutSaid :=
  OpenClaim.holds_of_wide 6 Tryd.f6 rfl rfl rfl rfl rfl rfl rfl ⟨rfl, rfl, rfl, rfl, rfl⟩ rfl rfl rfl rfl rfl (by kernel_rfl) Tryd.func6 (by kernel_rfl)
    (of_decide_eq_true (by kernel_rfl)) (by unfold Func.isWrapper; rw [if_neg (of_decide_eq_false (by kernel_rfl))]; exact ⟨rfl, rfl⟩)
    (fun os started H enc _ => lifted os started H enc)
/-- The statement: the tied card. -/
theorem proved : Rows.TextCutCardSaid :=
  Claim7.holds_tied_plain_at .later [] Rows.textCutCard.laidKinds true Rows.textCutCard.stood.harness true said (fun _ h => by cases h) (by kernel_rfl) (fun _ h => by cases h) textCut_row_tie rfl ⟨rfl, rfl⟩ (by kernel_rfl) rfl
    (fun f fn hf hfn => by
      obtain rfl : f = 6 := Option.some.inj ((show Tryd.prog.funcNamed "sluicegate/sluicegatelaw30.TextCut" = some 6 by kernel_rfl).symm.trans hf) |>.symm
      obtain rfl : fn = Tryd.f6 := (Option.some.inj (Tryd.func6.symm.trans hfn)).symm
      exact ⟨by kernel_rfl, fun j t ht => by
        rw [Tryd.params6] at ht
        have hm : t ∈ [22, 3] := by simpa using Array.mem_of_getElem? ht
        have hall : ([22, 3].all fun u => !Tryd.prog.wantsStandIn u) = true := by kernel_rfl
        exact (show Tryd.prog.wantsStandIn t = false by simpa using List.all_eq_true.1 hall t hm)⟩)
    (by kernel_rfl)
#print axioms proved
end textCut

end Go.Proofs.YtaghecgjmkhpcaaDoor
