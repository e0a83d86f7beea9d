/-
RtpBack: what is read is put as it was; what is no packet is read as none. For all bytes.
-/
import Derived.Test.YtnkclbaeamcplaaLaw5
import Derived.Test.YtnkclbaeamcplaaRtpQ
import Derived.Test.YtnkclbaeamcplaaRows
import Derived.Test.YtnkclbaeamcplaaFrame
namespace Go.Proofs.Ytnkclbaeamcplaa
set_option linter.unusedVariables false
set_option linter.unusedSimpArgs false
open Go Go.RowKit

theorem getP_zero {l : List UInt8} (h : lookE l ≠ 0) : getP l = zeroP := by unfold getP; rw [if_neg h]
theorem prow_zero (w : World) : PRow w zeroP none 0 0 none 0 0 none 0 0 := ⟨rowB_nil _ _ _, rowB_nil _ _ _, rowB_nil _ _ _⟩
theorem samePkt_zero (C : Option Addr) (cn cc : Nat) (E : Option Addr) (en ec : Nat) (L : Option Addr) (ln lc : Nat) (w : World) (h : PRow w zeroP C cn cc E en ec L ln lc) :
    Calls Try.prog 31 #[.agg #[.bool zeroP.mr, .int .i64 zeroP.ty, .int .u16 zeroP.sq, .int .u32 zeroP.tm, .int .u32 zeroP.ss, .slice C cn cc, .bool zeroP.hx, .int .u16 zeroP.pf, .slice E en ec, .slice L ln lc, .int .i64 zeroP.pad], .agg #[.bool false, .int .i64 0, .int .u16 0, .int .u32 0, .int .u32 0, .slice none 0 0, .bool false, .int .u16 0, .slice none 0 0, .slice none 0 0, .int .i64 0]] w fun e w' =>
      e = .returned (.bool true) ∧ Below w.heap.size w w' :=
  samePkt_row zeroP zeroP rfl C cn cc E en ec L ln lc none 0 0 none 0 0 none 0 0 w h (prow_zero w)
set_option maxRecDepth 20000 in
set_option maxHeartbeats 4000000 in
theorem rtpBack_walk (B : Option Addr) (n c : Nat) (l : List UInt8) (w : World) (b1 : l.length = n) (b2 : n ≤ c) (b3 : c ≤ maxLen) (b4 : n ≤ 140737488351232) (b5 : B = none → n = 0 ∧ c = 0) (b6 : Rd w B (bys l)) :
    Calls Try.prog 9 #[.slice B n c] w fun e w' => e = .returned (.bool true) ∧ Below w.heap.size w w' := by
  have HB : Hid (Bts w B n c l) := ⟨b1, b2, b3, b6⟩
  have HN := Lib.hid b1
  clear b1 b6 b5 b4 b3
  by_cases he : lookE l = 0
  · obtain ⟨q, hq⟩ : ∃ q, getP l = q := ⟨_, rfl⟩
    have HQ := Lib.hid hq
    have HZ : Hid ((0 : Int) = (lookE l : Nat)) := by show _ = _; rw [he]; rfl
    obtain ⟨p1, p2, p3⟩ := put_get5 he
    have hok := getP_ok l
    obtain ⟨q1, q2⟩ := getP_lens l
    rw [hq] at p1 p2 p3 hok q1 q2
    have HO := Lib.hid hok
    have HP : Hid (outP q = l) := by show _ = _; unfold outP; rw [if_pos p3, p2]
    have HE : Hid ((0 : Int) = (errP q : Nat)) := by show _ = _; rw [p3]; rfl
    have HL := Lib.hid (And.intro q1 q2)
    clear hq he p1 p2 p3 hok q1 q2
    go_enter Try.func9, Try.ntmps9
    go_wp2_with (first
      | (go_at_call 23; (with_reducible refine (shown5_any _).mono ?_); rintro e w1 ⟨rfl, hb1⟩)
      | (go_at_call 30; (with_reducible refine (pget_row l q 0 HQ.out HZ.out B n c _ (HB.out.below hb1)).mono ?_); rintro e w2 ⟨C3, cn3, cc3, E3, en3, ec3, L3, ln3, lc3, rfl, HP3, hb2⟩; have hb3 := hb1.trans (hb2.mono hb1.size); have hb4 := fun o => hb3.alloc hb3.size o; have HPx := Lib.hid (fun o => HP3.out.below ((Below.refl w2.heap.size w2).alloc (Nat.le_refl _) o)); have be3 : en3 ≤ 140737488351232 := by { have := HP3.out.hen; have := HL.out.1; omega }; have bl3 : ln3 ≤ 140737488351232 := by { have := HP3.out.hln; have := HL.out.2; omega })
      | (go_at_call 24; (with_reducible refine (pput_row q HO.out 0 HE.out l HP.out n HN.out C3 cn3 cc3 E3 en3 ec3 L3 ln3 lc3 _ (HPx.out _) be3 bl3).mono ?_); rintro e w3 ⟨B4, c4, rfl, ho4, hb5⟩; have hb6 := (hb4 _).trans (hb5.mono (hb4 _).size); have v1 := cv_own ho4; have v2 : (convert 30 9 (.slice B n c)).run Try.prog w3 = .ok (.string ⟨l.toArray⟩) w3 := cv_rd HN.out (HB.out.rd.below hb6)))
    go_ret
    exact ⟨rfl, hb6⟩
  · obtain ⟨z, hz⟩ : ∃ z, lookE l = z := ⟨_, rfl⟩
    have HZ : Hid ((z : Int) = (lookE l : Nat)) := by show _ = _; rw [hz]
    have HQ := Lib.hid (getP_zero he)
    rw [hz] at he
    have hz0 : ((z : Int) != 0) = true := by simp; omega
    clear hz he
    go_enter Try.func9, Try.ntmps9
    go_wp2_with (first
      | (go_at_call 23; (with_reducible refine (shown5_any _).mono ?_); rintro e w1 ⟨rfl, hb1⟩)
      | (go_at_call 30; (with_reducible refine (pget_row l zeroP (z : Int) HQ.out HZ.out B n c _ (HB.out.below hb1)).mono ?_); rintro e w2 ⟨C3, cn3, cc3, E3, en3, ec3, L3, ln3, lc3, rfl, HP3, hb2⟩; have hb3 := hb1.trans (hb2.mono hb1.size); have hb4 := fun o => hb3.alloc hb3.size o; have HPx := Lib.hid (fun o => HP3.out.below ((Below.refl w2.heap.size w2).alloc (Nat.le_refl _) o)))
      | (go_at_call 31; (with_reducible refine (samePkt_zero C3 cn3 cc3 E3 en3 ec3 L3 ln3 lc3 _ (HPx.out _)).mono ?_); rintro e w3 ⟨rfl, hb5⟩; have hb6 := (hb4 _).trans (hb5.mono (hb4 _).size)))
    go_ret
    exact ⟨rfl, hb6⟩
namespace rtpBack
open Go.ChangeShapes Go.WideShapes Go.ChangeAt Go.RowKit
open Go.ChangeMaps (open_string shut_string)
set_option linter.unusedVariables false

theorem own : ownKnob Try.prog.godebug = none := by kernel_rfl
theorem laidOut : laidOutB Try.prog = true := by kernel_rfl

set_option maxRecDepth 100000 in
theorem lifted (os : Os) (started : os.Started) (H : Type) (enc : TypeId × Value → H) :
    ReturnsInHanded {} Try.checked os 9 .any (Rows.rtpBackSpec.pre6 enc Try.prog Try.f9 Rows.rtpBackRow.domain false) (Rows.rtpBackSpec.post enc Try.prog Try.f9 false true false false) := by
  refine returnsInHanded_of_change_sized (C := Try.checked) own started (by kernel_rfl) Try.func9
    (ChangeSpec.witness6 (enc := enc) (C := Try.checked) false ⟨#[], #[.slice none 0 0], []⟩ 8 (by kernel_rfl) (by kernel_rfl) (by kernel_rfl) (by kernel_rfl)) ?_
  intro W base args ds gs before hval0 hW hcnd hsz0 _
  have hsz : (DataW.weightsEach Try.prog (Try.f9.params.toList ++ Rows.rtpBackSpec.plain.varTypes Try.prog) (ds ++ gs)).all (· ≤ reachBytes) = true := hsz0
  have hval : ∀ (j : Nat) t v, Try.f9.params[j]? = some t → args[j]? = some v → Value.okWide Try.prog W .any base t v := hval0
  have hW' := hW
  obtain ⟨p, q, hA0, hV, rfl, hfz, hnd⟩ := hW
  have hA : DataW.TrodAll enc Try.prog W 0 (fun _ => true) true Try.f9.params.toList args.toList ds p := hA0
  rw [Try.params9] at hA hval hsz
  obtain ⟨v0, vs0, d0, ds0, p0, q0, hargs, rfl, rfl, h0, r0⟩ := trodAll_cons hA
  obtain ⟨rfl, rfl, rfl⟩ := trodAll_nil r0
  obtain rfl : args = #[v0] := by cases args; simp_all
  obtain ⟨rfl, rfl⟩ := trodVars_none hV
  obtain ⟨a0, len0, cap0, rfl⟩ := okWide_slice Try.underlying30 (hval 0 30 v0 rfl rfl)
  have k0 := h0
  have lt0 : ∀ x ∈ p0, x.block < W.heap.size := by obtain ⟨m, hm⟩ := k0; exact DataW.trod_lt m _ _ _ hm
  obtain ⟨l0, n0, nc0, cm0, nl0, rd0, hl0⟩ : ∃ l : List UInt8, l.length = len0 ∧ len0 ≤ cap0 ∧ cap0 ≤ maxLen ∧ (a0 = none → len0 = 0 ∧ cap0 = 0) ∧ Rd W a0 (bys l) ∧ (len0 = 0 ∨ ∃ es sp, d0 = .slice es sp ∧ es.length = len0) := by
    obtain ⟨fuel, hf⟩ := h0
    exact open_byte_slice Try.underlying30 Try.underlying5 (by kernel_rfl) hf
  have hb0 : len0 * 1 ≤ 140737488351232 := reach_slice hsz (j := 0) rfl rfl Try.underlying30 (by kernel_rfl) hl0
  rw [Nat.mul_one] at hb0
  clear hA0 hval0 hsz0
  refine (rtpBack_walk a0 len0 cap0 l0 W n0 nc0 cm0 hb0 nl0 rd0).mono fun e W' ⟨he, bel⟩ => ?_
  subst he
  exact ⟨_, rfl, _, _, _, [], _, [], hW', trodAll_mk1 (shut_bool Try.underlying4 _), (trodAll_cons_mk (Below.trod laidOut (by kernel_rfl) (of_decide_eq_true (by kernel_rfl)) k0 bel lt0) trodAll_mk0), rfl, bel.frame _, fun h => by cases h⟩

/-- The statement. -/
theorem proved : Rows.RtpBackSaid :=
  OpenClaim.holds_of_wide 9 Try.f9 rfl rfl rfl rfl rfl rfl rfl ⟨rfl, rfl, rfl, rfl, rfl⟩ rfl rfl rfl rfl rfl (by kernel_rfl) Try.func9 (by kernel_rfl)
    (of_decide_eq_true (by kernel_rfl)) (by unfold Func.isWrapper; rw [if_neg (of_decide_eq_false (by kernel_rfl))]; exact ⟨rfl, rfl⟩)
    (fun os started H enc _ => lifted os started H enc)
#print axioms proved
end rtpBack
end Go.Proofs.Ytnkclbaeamcplaa
