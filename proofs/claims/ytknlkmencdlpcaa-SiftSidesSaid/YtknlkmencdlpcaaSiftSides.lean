/-
SiftSides: no bytes are accepted by both rtp.Get and rtcp.Get; if Of succeeds, its kind tells which of the two does; and Of succeeds whenever rtcp.Get does. For all bytes.
-/
import Derived.Test.YtknlkmencdlpcaaSf7
import Derived.Test.YtknlkmencdlpcaaRows
namespace Go.Proofs.Ytknlkmencdlpcaa
set_option linter.unusedVariables false
set_option linter.unusedSimpArgs false
open Go Go.RowKit

set_option maxRecDepth 20000 in
set_option maxHeartbeats 4000000 in
theorem siftSides_walk (B : Option Addr) (n c : Nat) (l : List UInt8) (w : World) (b1 : l.length = n) (b2 : n ≤ c) (b3 : c ≤ maxLen) (b4 : n ≤ 140737488351232) (b5 : B = none → n = 0 ∧ c = 0) (b6 : Rd w B (bys l)) :
    Calls Try.prog 10 #[.slice B n c] w fun e w' => e = .returned (.bool true) ∧ Below w.heap.size w w' := by
  have HB : Hid (Bts w B n c l) := ⟨b1, b2, b3, b6⟩
  clear b1 b6 b5 b4 b3
  obtain ⟨q, hq⟩ : ∃ q, getP l = q := ⟨_, rfl⟩
  obtain ⟨is, his⟩ : ∃ is, getsL l = is := ⟨_, rfl⟩
  obtain ⟨k, hk⟩ : ∃ k, is.length = k := ⟨_, rfl⟩
  obtain ⟨z1, hz1⟩ : ∃ z1 : Int, z1 = (lookE l : Nat) := ⟨_, rfl⟩
  obtain ⟨z2, hz2⟩ : ∃ z2 : Int, z2 = (getsE l : Nat) := ⟨_, rfl⟩
  have HQ := Lib.hid (And.intro hq (And.intro hz1 (And.intro hz2 (And.intro his hk))))
  rcases evE_cases l with ⟨Z, hZ, hne⟩ | ⟨h5, h2, hf, hE⟩ | ⟨hE, hd⟩
  · have hg : getsE l ≠ 0 := fun h => hne (by rw [← hZ]; obtain ⟨a1, a2, a3⟩ := gets_fb h; unfold evE; rw [if_neg (by omega), if_neg (by omega), if_pos a3, h]; rfl)
    have HZ := Lib.hid (And.intro hZ hne)
    have k1 : (Z == 0) = false := by simpa using hne
    have k2 : (z2 == 0) = false := by rw [hz2]; simp; omega
    have k3 : (z2 != 0) = true := by rw [hz2]; simp; omega
    clear hZ hne hg hz1 hz2 hq his hk
    cases k4 : (z1 == 0)
    all_goals
      go_enter Try.func10, Try.ntmps10
      go_wp2_with (first
        | (go_at_call 66; (with_reducible refine (shown10_any _).mono ?_); rintro e w1 ⟨rfl, hb1⟩)
        | (go_at_call 72; (with_reducible refine (pget_row l q z1 HQ.out.1 HQ.out.2.1 B n c _ (HB.out.below hb1)).mono ?_); rintro e w2 ⟨C2, cn2, cc2, E2, en2, ec2, L2, ln2, lc2, rfl, HR2, hb2⟩; have hB2 := below_al (below_next hb1 hb2) (.cells #[.bool q.mr, .int .i64 q.ty, .int .u16 q.sq, .int .u32 q.tm, .int .u32 q.ss, .slice C2 cn2 cc2, .bool q.hx, .int .u16 q.pf, .slice E2 en2 ec2, .slice L2 ln2 lc2, .int .i64 q.pad] 39))
        | (go_at_call 34; (with_reducible refine (rcget_v B n c l _ (HB.out.below hB2) is z2 k HQ.out.2.2.1 HQ.out.2.2.2.1 HQ.out.2.2.2.2).mono ?_); rintro e w3 ⟨A3, c3, xs3, rfl, HI3, HO3, hb3⟩; have hB3 := below_next hB2 hb3)
        | (go_at_call 67; (with_reducible refine (of_no l Z HZ.out.1 HZ.out.2 B n c _ (HB.out.below hB3)).mono ?_); rintro e w4 ⟨rfl, hb4⟩; have hB4 := below_next hB3 hb4))
      go_ret
      exact ⟨rfl, hB4⟩
  · have hl : lookE l ≠ 0 := fun h => by obtain ⟨_, _, _, hf', _⟩ := look_ok h; rw [hf] at hf'; cases hf'
    have k2 : z2 = 0 := by rw [hz2, hE]; rfl
    have k4 : (z1 == 0) = false := by rw [hz1]; simp; omega
    have HX := Lib.hid (And.intro h5 (And.intro h2 (And.intro hf hE)))
    clear h5 h2 hf hE hl hz1 hz2 hq his hk
    subst k2
    go_enter Try.func10, Try.ntmps10
    go_wp2_with (first
      | (go_at_call 66; (with_reducible refine (shown10_any _).mono ?_); rintro e w1 ⟨rfl, hb1⟩)
      | (go_at_call 72; (with_reducible refine (pget_row l q z1 HQ.out.1 HQ.out.2.1 B n c _ (HB.out.below hb1)).mono ?_); rintro e w2 ⟨C2, cn2, cc2, E2, en2, ec2, L2, ln2, lc2, rfl, HR2, hb2⟩; have hB2 := below_al (below_next hb1 hb2) (.cells #[.bool q.mr, .int .i64 q.ty, .int .u16 q.sq, .int .u32 q.tm, .int .u32 q.ss, .slice C2 cn2 cc2, .bool q.hx, .int .u16 q.pf, .slice E2 en2 ec2, .slice L2 ln2 lc2, .int .i64 q.pad] 39))
      | (go_at_call 34; (with_reducible refine (rcget_v B n c l _ (HB.out.below hB2) is 0 k HQ.out.2.2.1 HQ.out.2.2.2.1 HQ.out.2.2.2.2).mono ?_); rintro e w3 ⟨A3, c3, xs3, rfl, HI3, HO3, hb3⟩; have hB3 := below_next hB2 hb3)
      | (go_at_call 67; (with_reducible refine (of_fb l is k HX.out.1 HX.out.2.1 HX.out.2.2.1 HX.out.2.2.2 HQ.out.2.2.2.1 HQ.out.2.2.2.2 B n c _ (HB.out.below hB3)).mono ?_); rintro e w4 ⟨A4, c4, xs, rfl, HI, HO, hb4⟩; have hB4 := below_next hB3 hb4)
      | (go_at_call 69; (with_reducible refine (kind_f A4 k c4 w4).mono ?_); rintro e w5 ⟨rfl, hb5⟩; have hB5 := below_next hB4 hb5)
      | (go_at_call 69; (with_reducible refine (kind_f A4 k c4 w5).mono ?_); rintro e w6 ⟨rfl, hb6⟩; have hB6 := below_next hB5 hb6))
    go_ret
    exact ⟨rfl, hB6⟩
  · have hg : getsE l ≠ 0 := fun h => by obtain ⟨_, _, hf⟩ := gets_fb h; obtain ⟨_, _, _, hf', _⟩ := look_ok hE; rw [hf] at hf'; cases hf'
    have k1 : z1 = 0 := by rw [hz1, hE]; rfl
    have k2 : (z2 == 0) = false := by rw [hz2]; simp; omega
    have k3 : (z2 != 0) = true := by rw [hz2]; simp; omega
    rw [hq] at hd
    obtain ⟨dl, dk, ds, df, e1, e2, e3, e4⟩ : ∃ (dl : Int) (dk ds : Bool) (df : Int), (dL q.pl : Int) = dl ∧ dK q.pl = dk ∧ dS q.pl = ds ∧ (dF q.pl : Int) = df := ⟨_, _, _, _, rfl, rfl, rfl, rfl⟩
    have HD := Lib.hid (And.intro hd (And.intro e1 (And.intro e2 (And.intro e3 (And.intro e4 hE)))))
    clear hd e1 e2 e3 e4 hE hg hz1 hz2 hq his hk
    subst k1
    go_enter Try.func10, Try.ntmps10
    go_wp2_with (first
      | (go_at_call 66; (with_reducible refine (shown10_any _).mono ?_); rintro e w1 ⟨rfl, hb1⟩)
      | (go_at_call 72; (with_reducible refine (pget_row l q 0 HQ.out.1 HQ.out.2.1 B n c _ (HB.out.below hb1)).mono ?_); rintro e w2 ⟨C2, cn2, cc2, E2, en2, ec2, L2, ln2, lc2, rfl, HR2, hb2⟩; have hB2 := below_al (below_next hb1 hb2) (.cells #[.bool q.mr, .int .i64 q.ty, .int .u16 q.sq, .int .u32 q.tm, .int .u32 q.ss, .slice C2 cn2 cc2, .bool q.hx, .int .u16 q.pf, .slice E2 en2 ec2, .slice L2 ln2 lc2, .int .i64 q.pad] 39))
      | (go_at_call 34; (with_reducible refine (rcget_v B n c l _ (HB.out.below hB2) is z2 k HQ.out.2.2.1 HQ.out.2.2.2.1 HQ.out.2.2.2.2).mono ?_); rintro e w3 ⟨A3, c3, xs3, rfl, HI3, HO3, hb3⟩; have hB3 := below_next hB2 hb3)
      | (go_at_call 67; (with_reducible refine (of_md l q dl dk ds df HD.out.2.2.2.2.2 HQ.out.1 HD.out.1 HD.out.2.1 HD.out.2.2.1 HD.out.2.2.2.1 HD.out.2.2.2.2.1 B n c _ (HB.out.below hB3)).mono ?_); rintro e w4 ⟨C4, cn4, cc4, E4, en4, ec4, L4, ln4, lc4, rfl, HR4, hb4⟩; have hB4 := below_next hB3 hb4)
      | (go_at_call 69; (with_reducible refine (kind_m q C4 cn4 cc4 E4 en4 ec4 L4 ln4 lc4 dl dk ds df w4).mono ?_); rintro e w5 ⟨rfl, hb5⟩; have hB5 := below_next hB4 hb5)
      | (go_at_call 69; (with_reducible refine (kind_m q C4 cn4 cc4 E4 en4 ec4 L4 ln4 lc4 dl dk ds df w5).mono ?_); rintro e w6 ⟨rfl, hb6⟩; have hB6 := below_next hB5 hb6))
    go_ret
    exact ⟨rfl, hB6⟩
namespace siftSides
open Go.ChangeShapes Go.WideShapes Go.ChangeAt Go.RowKit
open Go.ChangeMaps (open_string shut_string)
set_option linter.unusedVariables false

theorem own : ownKnob Try.prog.godebug = none := by kernel_rfl
theorem laidOut : laidOutB Try.prog = true := by kernel_rfl

set_option maxRecDepth 100000 in
theorem lifted (os : Os) (started : os.Started) (H : Type) (enc : TypeId × Value → H) :
    ReturnsInHanded {} Try.checked os 10 .any (Rows.siftSidesSpec.pre6 enc Try.prog Try.f10 Rows.siftSidesRow.domain false) (Rows.siftSidesSpec.post enc Try.prog Try.f10 false true false false) := by
  refine returnsInHanded_of_change_sized (C := Try.checked) own started (by kernel_rfl) Try.func10
    (ChangeSpec.witness6 (enc := enc) (C := Try.checked) false ⟨#[], #[.slice none 0 0], []⟩ 8 (by kernel_rfl) (by kernel_rfl) (by kernel_rfl) (by kernel_rfl)) ?_
  intro W base args ds gs before hval0 hW hcnd hsz0 _
  have hsz : (DataW.weightsEach Try.prog (Try.f10.params.toList ++ Rows.siftSidesSpec.plain.varTypes Try.prog) (ds ++ gs)).all (· ≤ reachBytes) = true := hsz0
  have hval : ∀ (j : Nat) t v, Try.f10.params[j]? = some t → args[j]? = some v → Value.okWide Try.prog W .any base t v := hval0
  have hW' := hW
  obtain ⟨p, q, hA0, hV, rfl, hfz, hnd⟩ := hW
  have hA : DataW.TrodAll enc Try.prog W 0 (fun _ => true) true Try.f10.params.toList args.toList ds p := hA0
  rw [Try.params10] at hA hval hsz
  obtain ⟨v0, vs0, d0, ds0, p0, q0, hargs, rfl, rfl, h0, r0⟩ := trodAll_cons hA
  obtain ⟨rfl, rfl, rfl⟩ := trodAll_nil r0
  obtain rfl : args = #[v0] := by cases args; simp_all
  obtain ⟨rfl, rfl⟩ := trodVars_none hV
  obtain ⟨a0, len0, cap0, rfl⟩ := okWide_slice Try.underlying22 (hval 0 22 v0 rfl rfl)
  have k0 := h0
  have lt0 : ∀ x ∈ p0, x.block < W.heap.size := by obtain ⟨m, hm⟩ := k0; exact DataW.trod_lt m _ _ _ hm
  obtain ⟨l0, n0, nc0, cm0, nl0, rd0, hl0⟩ : ∃ l : List UInt8, l.length = len0 ∧ len0 ≤ cap0 ∧ cap0 ≤ maxLen ∧ (a0 = none → len0 = 0 ∧ cap0 = 0) ∧ Rd W a0 (bys l) ∧ (len0 = 0 ∨ ∃ es sp, d0 = .slice es sp ∧ es.length = len0) := by
    obtain ⟨fuel, hf⟩ := h0
    exact open_byte_slice Try.underlying22 Try.underlying5 (by kernel_rfl) hf
  have hb0 : len0 * 1 ≤ 140737488351232 := reach_slice hsz (j := 0) rfl rfl Try.underlying22 (by kernel_rfl) hl0
  rw [Nat.mul_one] at hb0
  clear hA0 hval0 hsz0
  refine (siftSides_walk a0 len0 cap0 l0 W n0 nc0 cm0 hb0 nl0 rd0).mono fun e W' ⟨he, bel⟩ => ?_
  subst he
  exact ⟨_, rfl, _, _, _, [], _, [], hW', trodAll_mk1 (shut_bool Try.underlying4 _), (trodAll_cons_mk (Below.trod laidOut (by kernel_rfl) (of_decide_eq_true (by kernel_rfl)) k0 bel lt0) trodAll_mk0), rfl, bel.frame _, fun h => by cases h⟩

/-- The statement. -/
theorem proved : Rows.SiftSidesSaid :=
  OpenClaim.holds_of_wide 10 Try.f10 rfl rfl rfl rfl rfl rfl rfl ⟨rfl, rfl, rfl, rfl, rfl⟩ rfl rfl rfl rfl rfl (by kernel_rfl) Try.func10 (by kernel_rfl)
    (of_decide_eq_true (by kernel_rfl)) (by unfold Func.isWrapper; rw [if_neg (of_decide_eq_false (by kernel_rfl))]; exact ⟨rfl, rfl⟩)
    (fun os started H enc _ => lifted os started H enc)
#print axioms proved
end siftSides
end Go.Proofs.Ytknlkmencdlpcaa
