/-
SiftBack: bytes of an event that Of returned give the same datagram; if Of fails, the event is nil, and Bytes of it returns ErrKind. For all bytes.
-/
import Derived.Test.YtknlkmencdlpcaaSf7
import Derived.Test.YtknlkmencdlpcaaRows
namespace Go.Proofs.Ytknlkmencdlpcaa
set_option linter.unusedVariables false
set_option linter.unusedSimpArgs false
open Go Go.RowKit

set_option maxRecDepth 20000 in
set_option maxHeartbeats 4000000 in
theorem siftBack_walk (B : Option Addr) (n c : Nat) (l : List UInt8) (w : World) (b1 : l.length = n) (b2 : n ≤ c) (b3 : c ≤ maxLen) (b4 : n ≤ 140737488351232) (b5 : B = none → n = 0 ∧ c = 0) (b6 : Rd w B (bys l)) :
    Calls Try.prog 12 #[.slice B n c] w fun e w' => e = .returned (.bool true) ∧ Below w.heap.size w w' := by
  have HB : Hid (Bts w B n c l) := ⟨b1, b2, b3, b6⟩
  have HN := Lib.hid b1
  clear b1 b6 b5 b4 b3
  rcases evE_cases l with ⟨Z, hZ, hne⟩ | ⟨h5, h2, hf, hE⟩ | ⟨hE, hd⟩
  · have HZ := Lib.hid (And.intro hZ hne)
    have hz : (Z != 0) = true := by simpa using hne
    clear hZ hne
    go_enter Try.func12, Try.ntmps12
    go_wp2_with (first
      | (go_at_call 66; (with_reducible refine (shown10_any _).mono ?_); rintro e w1 ⟨rfl, hb1⟩)
      | (go_at_call 67; (with_reducible refine (of_no l Z HZ.out.1 HZ.out.2 B n c _ (HB.out.below hb1)).mono ?_); rintro e w2 ⟨rfl, hb2⟩; have hB2 := below_next hb1 hb2)
      | (go_at_call 75; (with_reducible refine (bytes_n _).mono ?_); rintro e w3 ⟨rfl, hb3⟩; have hB3 := below_next hB2 hb3))
    go_ret
    exact ⟨rfl, hB3⟩
  · obtain ⟨is, his⟩ : ∃ is, getsL l = is := ⟨_, rfl⟩
    obtain ⟨k, hk⟩ : ∃ k, is.length = k := ⟨_, rfl⟩
    obtain ⟨p1, p2, _, _, p5, _, _⟩ := puts_gets hE
    rw [his] at p1 p2 p5
    have HX := Lib.hid (And.intro h5 (And.intro h2 (And.intro hf (And.intro hE (And.intro his (And.intro hk (And.intro p1 (And.intro p2 p5))))))))
    have HPE : Hid ((0 : Int) = (putsE is : Nat)) := by show _ = _; rw [p1]; rfl
    clear h5 h2 hf hE his p1 p2 p5
    go_enter Try.func12, Try.ntmps12
    go_wp2_with (first
      | (go_at_call 66; (with_reducible refine (shown10_any _).mono ?_); rintro e w1 ⟨rfl, hb1⟩)
      | (go_at_call 67; (with_reducible refine (of_fb l is k HX.out.1 HX.out.2.1 HX.out.2.2.1 HX.out.2.2.2.1 HX.out.2.2.2.2.1 HX.out.2.2.2.2.2.1 B n c _ (HB.out.below hb1)).mono ?_); rintro e w2 ⟨A2, c2, xs, rfl, HI, HO, hb2⟩; have hB2 := below_next hb1 hb2)
      | (go_at_call 75; go_loud ((with_reducible refine (bytes_f A2 k c2 xs l 0 n _ HO.out.its (by have := HX.out.2.2.2.2.2.2.2.2; have := HX.out.2.2.2.2.2.1; omega) (by rw [HI.out]; exact HPE.out) (by rw [HI.out, HX.out.2.2.2.2.2.2.2.1]) HN.out).mono ?_); rintro e w3 ⟨B4, c4, rfl, ho4, hb3⟩; have hB3 := below_next hB2 hb3; have v1 := cv_own ho4.out; have v2 : (convert 22 9 (.slice B n c)).run Try.prog w3 = .ok (.string ⟨l.toArray⟩) w3 := cv_rd HN.out (HB.out.below hB3).rd)))
    go_ret
    exact ⟨rfl, hB3⟩
  · obtain ⟨q, hq⟩ : ∃ q, getP l = q := ⟨_, rfl⟩
    obtain ⟨p1, p2, p3⟩ := put_get5 hE
    have hok := getP_ok l
    obtain ⟨q1, q2⟩ := getP_lens l
    rw [hq] at p1 p2 p3 hok q1 q2 hd
    obtain ⟨dl, dk, ds, df, e1, e2, e3, e4⟩ : ∃ (dl : Int) (dk ds : Bool) (df : Int), (dL q.pl : Int) = dl ∧ dK q.pl = dk ∧ dS q.pl = ds ∧ (dF q.pl : Int) = df := ⟨_, _, _, _, rfl, rfl, rfl, rfl⟩
    have HD := Lib.hid (And.intro hd (And.intro e1 (And.intro e2 (And.intro e3 e4))))
    have HQ := Lib.hid (And.intro hE (And.intro hq hok))
    have HP : Hid (outP q = l) := by show _ = _; unfold outP; rw [if_pos p3, p2]
    have HE : Hid ((0 : Int) = (errP q : Nat)) := by show _ = _; rw [p3]; rfl
    have HL := Lib.hid (And.intro q1 q2)
    clear hq hE hd e1 e2 e3 e4 p1 p2 p3 hok q1 q2
    go_enter Try.func12, Try.ntmps12
    go_wp2_with (first
      | (go_at_call 66; (with_reducible refine (shown10_any _).mono ?_); rintro e w1 ⟨rfl, hb1⟩)
      | (go_at_call 67; (with_reducible refine (of_md l q dl dk ds df HQ.out.1 HQ.out.2.1 HD.out.1 HD.out.2.1 HD.out.2.2.1 HD.out.2.2.2.1 HD.out.2.2.2.2 B n c _ (HB.out.below hb1)).mono ?_); rintro e w2 ⟨C3, cn3, cc3, E3, en3, ec3, L3, ln3, lc3, rfl, HR, hb2⟩; have hB2 := below_next hb1 hb2; have be3 : en3 ≤ 140737488351232 := (by have := HR.out.hen; have := HL.out.1; omega); have bl3 : ln3 ≤ 140737488351232 := (by have := HR.out.hln; have := HL.out.2; omega))
      | (go_at_call 75; (with_reducible refine (bytes_m_yes q C3 cn3 cc3 E3 en3 ec3 L3 ln3 lc3 dl dk ds df 0 l n _ HR.out HQ.out.2.2 be3 bl3 HD.out.1 HD.out.2.1 HD.out.2.2.1 HD.out.2.2.2.1 HD.out.2.2.2.2 HE.out HP.out HN.out).mono ?_); rintro e w3 ⟨B4, c4, rfl, ho4, hb3⟩; have hB3 := below_next hB2 hb3; have v1 := cv_own ho4.out; have v2 : (convert 22 9 (.slice B n c)).run Try.prog w3 = .ok (.string ⟨l.toArray⟩) w3 := cv_rd HN.out (HB.out.below hB3).rd))
    go_ret
    exact ⟨rfl, hB3⟩
namespace siftBack
open Go.ChangeShapes Go.WideShapes Go.ChangeAt Go.RowKit
open Go.ChangeMaps (open_string shut_string)
set_option linter.unusedVariables false

theorem own : ownKnob Try.prog.godebug = none := by kernel_rfl
theorem laidOut : laidOutB Try.prog = true := by kernel_rfl

set_option maxRecDepth 100000 in
theorem lifted (os : Os) (started : os.Started) (H : Type) (enc : TypeId × Value → H) :
    ReturnsInHanded {} Try.checked os 12 .any (Rows.siftBackSpec.pre6 enc Try.prog Try.f12 Rows.siftBackRow.domain false) (Rows.siftBackSpec.post enc Try.prog Try.f12 false true false false) := by
  refine returnsInHanded_of_change_sized (C := Try.checked) own started (by kernel_rfl) Try.func12
    (ChangeSpec.witness6 (enc := enc) (C := Try.checked) false ⟨#[], #[.slice none 0 0], []⟩ 8 (by kernel_rfl) (by kernel_rfl) (by kernel_rfl) (by kernel_rfl)) ?_
  intro W base args ds gs before hval0 hW hcnd hsz0 _
  have hsz : (DataW.weightsEach Try.prog (Try.f12.params.toList ++ Rows.siftBackSpec.plain.varTypes Try.prog) (ds ++ gs)).all (· ≤ reachBytes) = true := hsz0
  have hval : ∀ (j : Nat) t v, Try.f12.params[j]? = some t → args[j]? = some v → Value.okWide Try.prog W .any base t v := hval0
  have hW' := hW
  obtain ⟨p, q, hA0, hV, rfl, hfz, hnd⟩ := hW
  have hA : DataW.TrodAll enc Try.prog W 0 (fun _ => true) true Try.f12.params.toList args.toList ds p := hA0
  rw [Try.params12] at hA hval hsz
  obtain ⟨v0, vs0, d0, ds0, p0, q0, hargs, rfl, rfl, h0, r0⟩ := trodAll_cons hA
  obtain ⟨rfl, rfl, rfl⟩ := trodAll_nil r0
  obtain rfl : args = #[v0] := by cases args; simp_all
  obtain ⟨rfl, rfl⟩ := trodVars_none hV
  obtain ⟨a0, len0, cap0, rfl⟩ := okWide_slice Try.underlying22 (hval 0 22 v0 rfl rfl)
  have k0 := h0
  have lt0 : ∀ x ∈ p0, x.block < W.heap.size := by obtain ⟨m, hm⟩ := k0; exact DataW.trod_lt m _ _ _ hm
  obtain ⟨l0, n0, nc0, cm0, nl0, rd0, hl0⟩ : ∃ l : List UInt8, l.length = len0 ∧ len0 ≤ cap0 ∧ cap0 ≤ maxLen ∧ (a0 = none → len0 = 0 ∧ cap0 = 0) ∧ Rd W a0 (bys l) ∧ (len0 = 0 ∨ ∃ es sp, d0 = .slice es sp ∧ es.length = len0) := by
    obtain ⟨fuel, hf⟩ := h0
    exact open_byte_slice Try.underlying22 Try.underlying5 (by kernel_rfl) hf
  have hb0 : len0 * 1 ≤ 140737488351232 := reach_slice hsz (j := 0) rfl rfl Try.underlying22 (by kernel_rfl) hl0
  rw [Nat.mul_one] at hb0
  clear hA0 hval0 hsz0
  refine (siftBack_walk a0 len0 cap0 l0 W n0 nc0 cm0 hb0 nl0 rd0).mono fun e W' ⟨he, bel⟩ => ?_
  subst he
  exact ⟨_, rfl, _, _, _, [], _, [], hW', trodAll_mk1 (shut_bool Try.underlying4 _), (trodAll_cons_mk (Below.trod laidOut (by kernel_rfl) (of_decide_eq_true (by kernel_rfl)) k0 bel lt0) trodAll_mk0), rfl, bel.frame _, fun h => by cases h⟩

/-- The statement. -/
theorem proved : Rows.SiftBackSaid :=
  OpenClaim.holds_of_wide 12 Try.f12 rfl rfl rfl rfl rfl rfl rfl ⟨rfl, rfl, rfl, rfl, rfl⟩ rfl rfl rfl rfl rfl (by kernel_rfl) Try.func12 (by kernel_rfl)
    (of_decide_eq_true (by kernel_rfl)) (by unfold Func.isWrapper; rw [if_neg (of_decide_eq_false (by kernel_rfl))]; exact ⟨rfl, rfl⟩)
    (fun os started H enc _ => lifted os started H enc)
#print axioms proved
end siftBack
end Go.Proofs.Ytknlkmencdlpcaa
