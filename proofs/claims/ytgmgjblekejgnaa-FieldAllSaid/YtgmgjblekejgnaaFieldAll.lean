/-
FieldAll: Get, Put and Append answer what the reference answers, for every slice, place, size and number.
-/
import Derived.Test.YtgmgjblekejgnaaLaw1
import Derived.Test.YtgmgjblekejgnaaReg
import Derived.Test.YtgmgjblekejgnaaFrame
namespace Go.Proofs.Ytgmgjblekejgnaa
open Go.RowKit

set_option maxHeartbeats 1000000 in
theorem fieldAll_walk (X : Option Addr) (n c : Nat) (l : List UInt8) (a s num : Int) (w : World) (hn : l.length = n) (hnc : n ≤ c) (hcm : c ≤ maxLen) (hb0 : n ≤ 140737488351232) (hX : X = none → n = 0 ∧ c = 0) (hr : Rd w X (bys l))
    (h1a : -9223372036854775808 ≤ a ∧ a ≤ 9223372036854775807) (h2a : -9223372036854775808 ≤ s ∧ s ≤ 9223372036854775807) (h3a : 0 ≤ num ∧ num ≤ 18446744073709551615) :
    Calls Try.prog 3 #[.slice X n c, .int .i64 a, .int .i64 s, .int .u64 num] w fun e w' => e = .returned (.bool true) ∧ Below w.heap.size w w' := by
  obtain ⟨_, h1⟩ := h1a
  obtain ⟨_, h2⟩ := h2a
  obtain ⟨h3, h4⟩ := h3a
  have hb : n + 8 ≤ 140737488355328 := by omega
  have Hn := Lib.hid hn
  have HX := Lib.hid hX
  clear hn hX
  go_enter Try.func3, Try.ntmps3
  go_wp2_with (first
    | (go_at_call 12; (with_reducible refine (shown_any _).mono ?_); rintro e w1 ⟨rfl, hb1⟩; have hr1 := hr.below hb1)
    | (go_at_call 13; (with_reducible refine (get_any X n c l a s _ Hn.out hnc hcm hr1 h1 h2).mono ?_); rintro e w' ⟨rfl, rfl⟩)
    | (go_at_call 14; (with_reducible refine (rget_any X n c l a s _ Hn.out hnc hcm hr1 h1 h2).mono ?_); rintro e w' ⟨rfl, rfl⟩)
    | (at_builtin; refine wpList_app slU8 rfl _ _ rfl w.heap.size none 0 0 [] rfl (World.ownsRow_nil _ _ _ _) X n c (bys l) rfl (by rw [bys_length, Nat.mul_one]; exact Hn.out) hr1 (bys_one l) (by omega) hb1.size ?_; intro A2 c2 w2 hown2 hg2 hA2; simp only [Nat.zero_add, List.nil_append] at hown2)
    | (go_at_call 15; (with_reducible refine (put_any w.heap.size A2 n c2 l a s num _ Hn.out (own_cap hown2).1 (own_cap hown2).2 hown2 h1 h2 h3 h4).mono ?_); rintro e w3 ⟨rfl, hown3, hg3, hz3⟩; have hb2 := hb1.grown hg2 hb1.size (by simp); have hb3 := hb2.grown hg3 hb2.size (own_from hown2)))
  refine (rput_any X n c l a s num _ Hn.out hb HX.out (hr.below hb3) h1 h2 h3 h4).mono ?_
  rintro e w4 ⟨A4, c4, rfl, hown4, hb4⟩
  have hcv1 := conv_own (w := w4.drew) (hown3.kept (own_below hb4.drew) (own_none _))
  have hcv2 := conv_own (w := w4.drew) hown4
  go_wp2_with fail
  have hbw4 : Below w.heap.size w w4.drew := hb3.trans ((hb4.mono hb3.size).drew)
  refine region_plan (calmB_sound _) (.fork [0, 1, 2, 3, 4, 5, 6, 7, 8, 9, 10, 11, 12, 13, 14, 15, 16, 17, 18, 19, 20, 21, 22, 23, 26, 27, 28, 24] (.leaf [29, 25, 30, 31, 32, 33]) (.leaf [25, 29, 30, 31, 32, 33])) (by kernel_rfl) (by kernel_rfl) (by kernel_rfl) ?_
  refine wpPlan_fork fun K hK => ?_
  simp only [List.filterMap_cons, List.filterMap_nil, List.getElem?_toArray, List.getElem?_cons_succ, List.getElem?_cons_zero]
  go_wp2_with (first
    | (go_at_call 17; (with_reducible refine (append_any X n c l s num w4.drew Hn.out hb HX.out (hr.below hbw4) h2 h3 h4).mono ?_); rintro e w5 ⟨A5, m5, c5, rfl, HM5, hown5, hb5⟩; have hcv5 := conv_own hown5))
  have hbw5 : Below w.heap.size w w5 := hbw4.trans (hb5.mono hbw4.size)
  refine hK _ _ ?_ ?_
  all_goals
    refine wpPlan_leaf fun K1 hK1 => ?_
    simp only [List.filterMap_cons, List.filterMap_nil, List.getElem?_toArray, List.getElem?_cons_succ, List.getElem?_cons_zero]
    go_wp2_with (first
      | (go_at_call 18; (with_reducible refine (rappend_any X n c l s num w5 Hn.out hb HX.out (hr.below hbw5) h2 h3 h4).mono ?_); rintro e w6 ⟨A6, m6, c6, rfl, HM6, hown6, hb6⟩; have hcv6 := conv_own hown6; have hcv7 := conv_own (hown5.kept (own_below hb6) (own_none _))))
    go_ret
    exact ⟨rfl, hbw5.trans (hb6.mono hbw5.size)⟩

namespace fieldAll
open Go.ChangeShapes Go.WideShapes Go.ChangeAt Go.RowKit
open Go.ChangeMaps (open_string shut_string)
set_option linter.unusedVariables false

theorem own : ownKnob Try.prog.godebug = none := by kernel_rfl
theorem laidOut : laidOutB Try.prog = true := by kernel_rfl

set_option maxRecDepth 100000 in
theorem lifted (os : Os) (started : os.Started) (H : Type) (enc : TypeId × Value → H) :
    ReturnsInHanded {} Try.checked os 3 .any (Rows.fieldAllSpec.pre6 enc Try.prog Try.f3 Rows.fieldAllRow.domain false) (Rows.fieldAllSpec.post enc Try.prog Try.f3 false true false false) := by
  refine returnsInHanded_of_change_sized (C := Try.checked) own started (by kernel_rfl) Try.func3
    (ChangeSpec.witness6 (enc := enc) (C := Try.checked) false ⟨#[], #[.slice none 0 0, .int .i64 0, .int .i64 0, .int .u64 0], []⟩ 8 (by kernel_rfl) (by kernel_rfl) (by kernel_rfl) (by kernel_rfl)) ?_
  intro W base args ds gs before hval0 hW hcnd hsz0 _
  have hsz : (DataW.weightsEach Try.prog (Try.f3.params.toList ++ Rows.fieldAllSpec.plain.varTypes Try.prog) (ds ++ gs)).all (· ≤ reachBytes) = true := hsz0
  have hval : ∀ (j : Nat) t v, Try.f3.params[j]? = some t → args[j]? = some v → Value.okWide Try.prog W .any base t v := hval0
  have hW' := hW
  obtain ⟨p, q, hA0, hV, rfl, hfz, hnd⟩ := hW
  have hA : DataW.TrodAll enc Try.prog W 0 (fun _ => true) true Try.f3.params.toList args.toList ds p := hA0
  rw [Try.params3] at hA hval hsz
  obtain ⟨v0, vs0, d0, ds0, p0, q0, hargs, rfl, rfl, h0, r0⟩ := trodAll_cons hA
  obtain ⟨v1, vs1, d1, ds1, p1, q1, rfl, rfl, rfl, h1, r1⟩ := trodAll_cons r0
  obtain ⟨v2, vs2, d2, ds2, p2, q2, rfl, rfl, rfl, h2, r2⟩ := trodAll_cons r1
  obtain ⟨v3, vs3, d3, ds3, p3, q3, rfl, rfl, rfl, h3, r3⟩ := trodAll_cons r2
  obtain ⟨rfl, rfl, rfl⟩ := trodAll_nil r3
  obtain rfl : args = #[v0, v1, v2, v3] := by cases args; simp_all
  obtain ⟨rfl, rfl⟩ := trodVars_none hV
  obtain ⟨a0, len0, cap0, rfl⟩ := okWide_slice Try.underlying22 (hval 0 22 v0 rfl rfl)
  have k0 := h0
  have lt0 : ∀ x ∈ p0, x.block < W.heap.size := by obtain ⟨m, hm⟩ := k0; exact DataW.trod_lt m _ _ _ hm
  obtain ⟨l0, n0, nc0, cm0, nl0, rd0, hl0⟩ : ∃ l : List UInt8, l.length = len0 ∧ len0 ≤ cap0 ∧ cap0 ≤ maxLen ∧ (a0 = none → len0 = 0 ∧ cap0 = 0) ∧ Rd W a0 (bys l) ∧ (len0 = 0 ∨ ∃ es sp, d0 = .slice es sp ∧ es.length = len0) := by
    obtain ⟨fuel, hf⟩ := h0
    exact open_byte_slice Try.underlying22 Try.underlying5 (by kernel_rfl) hf
  have hb0 : len0 * 1 ≤ 140737488351232 := reach_slice hsz (j := 0) rfl rfl Try.underlying22 (by kernel_rfl) hl0
  rw [Nat.mul_one] at hb0
  obtain ⟨x1, rfl, rfl, rfl, w1⟩ := open_int Try.underlying3 (hval 1 3 v1 rfl rfl) h1
  obtain ⟨x2, rfl, rfl, rfl, w2⟩ := open_int Try.underlying3 (hval 2 3 v2 rfl rfl) h2
  obtain ⟨x3, rfl, rfl, rfl, w3⟩ := open_int Try.underlying23 (hval 3 23 v3 rfl rfl) h3
  clear hA0 hval0 hsz0
  refine (fieldAll_walk a0 len0 cap0 l0 x1 x2 x3 W n0 nc0 cm0 hb0 nl0 rd0 (bounds_i64 w1) (bounds_i64 w2) (bounds_u64 w3)).mono fun e W' ⟨he, bel⟩ => ?_
  subst he
  exact ⟨_, rfl, _, _, _, [], _, [], hW', trodAll_mk1 (shut_bool Try.underlying4 _), (trodAll_cons_mk (Below.trod laidOut (by kernel_rfl) (of_decide_eq_true (by kernel_rfl)) k0 bel lt0) (trodAll_cons_mk (shut_int Try.underlying3 w1) (trodAll_cons_mk (shut_int Try.underlying3 w2) (trodAll_cons_mk (shut_int Try.underlying23 w3) trodAll_mk0)))), rfl, bel.frame _, fun h => by cases h⟩

/-- The statement. -/
theorem proved : Rows.FieldAllSaid :=
  OpenClaim.holds_of_wide 3 Try.f3 rfl rfl rfl rfl rfl rfl rfl ⟨rfl, rfl, rfl, rfl, rfl⟩ rfl rfl rfl rfl rfl (by kernel_rfl) Try.func3 (by kernel_rfl)
    (of_decide_eq_true (by kernel_rfl)) (by unfold Func.isWrapper; rw [if_neg (of_decide_eq_false (by kernel_rfl))]; exact ⟨rfl, rfl⟩)
    (fun os started H enc _ => lifted os started H enc)
#print axioms proved
end fieldAll
end Go.Proofs.Ytgmgjblekejgnaa
