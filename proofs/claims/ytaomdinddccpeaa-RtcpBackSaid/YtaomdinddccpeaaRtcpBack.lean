/-
RtcpBack: bytes that Get took are put as they were. For all bytes.
-/
import Derived.Test.YtaomdinddccpeaaRcV
import Derived.Test.YtaomdinddccpeaaItsFrame
import Derived.Test.YtaomdinddccpeaaRows
namespace Go.Proofs.Ytaomdinddccpeaa
set_option linter.unusedVariables false
set_option linter.unusedSimpArgs false
open Go Go.RowKit

namespace rtcpBack
set_option maxRecDepth 20000 in
set_option maxHeartbeats 8000000 in
theorem rtcpBack_walk (A : Option Addr) (n c : Nat) (l : List UInt8) (w : World) (hl : l.length = n) (hc : n ≤ c) (hm : c ≤ maxLen) (hn : n ≤ 140737488351232) (hA : A = none → n = 0 ∧ c = 0) (hr : Rd w A (bys l)) :
    Calls Try.prog 11 #[.slice A n c] w fun e w' => e = .returned (.bool true) ∧ Below w.heap.size w w' := by
  have HB : Hid (Bts w A n c l) := ⟨hl, hc, hm, hr⟩
  by_cases h0 : getsE l = 0
  · obtain ⟨p1, p2, p3, p4, p5, p6, p7⟩ := puts_gets h0
    obtain ⟨is, h1⟩ : ∃ x, getsL l = x := ⟨_, rfl⟩
    obtain ⟨k, h3⟩ : ∃ x, is.length = x := ⟨_, rfl⟩
    rw [h1] at p1 p2 p3 p4 p5 p6
    rw [h3] at p4 p5
    have HG : Hid ((0 : Int) = (getsE l : Nat) ∧ getsL l = is ∧ is.length = k) := ⟨by rw [h0]; rfl, h1, h3⟩
    have HP : Hid ((0 : Int) = (putsE is : Nat) ∧ putsL is = l ∧ l.length = n) := ⟨by rw [p1]; rfl, p2, hl⟩
    have t1 : (1 : Int) ≤ (k : Int) := by omega
    have t2 : (k : Int) ≤ 8 := by omega
    clear hl hc hm hA hr h0 p1 p2 p3 p6 p7 h1 h3
    go_enter Try.func11, Try.ntmps11
    go_wp2_with (first
      | (go_at_call 29; ((with_reducible refine (shown9_any _).mono ?_); rintro e w1 ⟨rfl, hb1⟩))
      | (go_at_call 36; ((with_reducible refine (rcget_v A n c l _ (HB.out.below hb1) is 0 k HG.out.1 HG.out.2.1 HG.out.2.2).mono ?_); rintro e w2 ⟨A2, c2, xs, rfl, hi2, ho2, hb2⟩; have hw2 := hb1.trans (hb2.mono hb1.size)))
      | (go_at_call 30; ((with_reducible refine (rcput_v A2 k c2 xs _ ho2.out.its (by omega) l 0 n (by rw [hi2.out]; exact HP.out.1) (by rw [hi2.out]; exact HP.out.2.1) HP.out.2.2).mono ?_); rintro e w3 ⟨B, c3, rfl, ho3, hb3⟩; have hw3 := hw2.trans (hb3.mono hw2.size); have k1 := cv_own ho3; have k2 := cv_rd (c := c) HB.out.len (HB.out.below hw3).rd)))
    go_ret
    exact ⟨by simp, hw3⟩
  · obtain ⟨Z, h2⟩ : ∃ x : Int, x = (getsE l : Nat) := ⟨_, rfl⟩
    have hZ0 : (Z != 0) = true := by simp; omega
    have HG : Hid (Z = (getsE l : Nat) ∧ getsL l = [] ∧ ([] : List Itm).length = 0) := ⟨h2, getsL_no h0, rfl⟩
    clear hl hc hm hA hr h0 h2
    go_enter Try.func11, Try.ntmps11
    go_wp2_with (first
      | (go_at_call 29; ((with_reducible refine (shown9_any _).mono ?_); rintro e w1 ⟨rfl, hb1⟩))
      | (go_at_call 36; ((with_reducible refine (rcget_v A n c l _ (HB.out.below hb1) [] Z 0 HG.out.1 HG.out.2.1 HG.out.2.2).mono ?_); rintro e w2 ⟨A2, c2, xs, rfl, hi2, ho2, hb2⟩; have hw2 := hb1.trans (hb2.mono hb1.size))))
    go_ret
    exact ⟨by simp, hw2⟩
end rtcpBack
namespace rtcpBack
open Go.ChangeShapes Go.WideShapes Go.ChangeAt Go.RowKit
open Go.ChangeMaps (open_string shut_string)
set_option linter.unusedVariables false

theorem own : ownKnob Try.prog.godebug = none := by kernel_rfl
theorem laidOut : laidOutB Try.prog = true := by kernel_rfl

set_option maxRecDepth 100000 in
theorem lifted (os : Os) (started : os.Started) (H : Type) (enc : TypeId × Value → H) :
    ReturnsInHanded {} Try.checked os 11 .any (Rows.rtcpBackSpec.pre6 enc Try.prog Try.f11 Rows.rtcpBackRow.domain false) (Rows.rtcpBackSpec.post enc Try.prog Try.f11 false true false false) := by
  refine returnsInHanded_of_change_sized (C := Try.checked) own started (by kernel_rfl) Try.func11
    (ChangeSpec.witness6 (enc := enc) (C := Try.checked) false ⟨#[], #[.slice none 0 0], []⟩ 8 (by kernel_rfl) (by kernel_rfl) (by kernel_rfl) (by kernel_rfl)) ?_
  intro W base args ds gs before hval0 hW hcnd hsz0 _
  have hsz : (DataW.weightsEach Try.prog (Try.f11.params.toList ++ Rows.rtcpBackSpec.plain.varTypes Try.prog) (ds ++ gs)).all (· ≤ reachBytes) = true := hsz0
  have hval : ∀ (j : Nat) t v, Try.f11.params[j]? = some t → args[j]? = some v → Value.okWide Try.prog W .any base t v := hval0
  have hW' := hW
  obtain ⟨p, q, hA0, hV, rfl, hfz, hnd⟩ := hW
  have hA : DataW.TrodAll enc Try.prog W 0 (fun _ => true) true Try.f11.params.toList args.toList ds p := hA0
  rw [Try.params11] at hA hval hsz
  obtain ⟨v0, vs0, d0, ds0, p0, q0, hargs, rfl, rfl, h0, r0⟩ := trodAll_cons hA
  obtain ⟨rfl, rfl, rfl⟩ := trodAll_nil r0
  obtain rfl : args = #[v0] := by cases args; simp_all
  obtain ⟨rfl, rfl⟩ := trodVars_none hV
  obtain ⟨a0, len0, cap0, rfl⟩ := okWide_slice Try.underlying22 (hval 0 22 v0 rfl rfl)
  have k0 := h0
  have lt0 : ∀ x ∈ p0, x.block < W.heap.size := by obtain ⟨m, hm⟩ := k0; exact DataW.trod_lt m _ _ _ hm
  obtain ⟨l0, n0, nc0, cm0, nl0, rd0, hl0⟩ : ∃ l : List UInt8, l.length = len0 ∧ len0 ≤ cap0 ∧ cap0 ≤ maxLen ∧ (a0 = none → len0 = 0 ∧ cap0 = 0) ∧ Rd W a0 (bys l) ∧ (len0 = 0 ∨ ∃ es sp, d0 = .slice es sp ∧ es.length = len0) := by
    obtain ⟨fuel, hf⟩ := h0
    exact open_byte_slice Try.underlying22 Try.underlying5 (by kernel_rfl) hf
  have hb0 : len0 * 1 ≤ 140737488351232 := reach_slice hsz (j := 0) rfl rfl Try.underlying22 (by kernel_rfl) hl0
  rw [Nat.mul_one] at hb0
  clear hA0 hval0 hsz0
  refine (rtcpBack_walk a0 len0 cap0 l0 W n0 nc0 cm0 hb0 nl0 rd0).mono fun e W' ⟨he, bel⟩ => ?_
  subst he
  exact ⟨_, rfl, _, _, _, [], _, [], hW', trodAll_mk1 (shut_bool Try.underlying4 _), (trodAll_cons_mk (Below.trod laidOut (by kernel_rfl) (of_decide_eq_true (by kernel_rfl)) k0 bel lt0) trodAll_mk0), rfl, bel.frame _, fun h => by cases h⟩

/-- The statement. -/
theorem proved : Rows.RtcpBackSaid :=
  OpenClaim.holds_of_wide 11 Try.f11 rfl rfl rfl rfl rfl rfl rfl ⟨rfl, rfl, rfl, rfl, rfl⟩ rfl rfl rfl rfl rfl (by kernel_rfl) Try.func11 (by kernel_rfl)
    (of_decide_eq_true (by kernel_rfl)) (by unfold Func.isWrapper; rw [if_neg (of_decide_eq_false (by kernel_rfl))]; exact ⟨rfl, rfl⟩)
    (fun os started H enc _ => lifted os started H enc)
#print axioms proved
end rtcpBack
end Go.Proofs.Ytaomdinddccpeaa
