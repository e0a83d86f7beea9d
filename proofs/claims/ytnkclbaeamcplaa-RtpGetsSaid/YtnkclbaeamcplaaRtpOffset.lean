/-
RtpOffset: the payload stands where it is said. For all bytes.
-/
import Derived.Test.YtnkclbaeamcplaaRtpBack
import Derived.Test.YtnkclbaeamcplaaRtp8
import Derived.Deep.QuietTactic
import Derived.BigQuiet
namespace Go.Proofs.Ytnkclbaeamcplaa
set_option linter.unusedVariables false
set_option linter.unusedSimpArgs false
open Go Go.RowKit

theorem offset_v (A : Option Addr) (n c : Nat) (l : List UInt8) (F T Z : Int) (w : World) (h : Bts w A n c l) (hF : F = (lookF l : Nat)) (hT : T = (lookT l : Nat)) (hZ : Z = (lookE l : Nat)) :
    Calls Try.prog 33 #[.slice A n c] w fun e w' => e = .returned (.tuple #[.int .i64 F, .int .i64 T, .int .i64 Z]) ∧ Below w.heap.size w w' := by
  subst hF hT hZ
  exact offset_any A n c l w h
set_option maxRecDepth 20000 in
set_option maxHeartbeats 4000000 in
theorem rtpOffset_walk (B : Option Addr) (n c : Nat) (l : List UInt8) (w : World) (b1 : l.length = n) (b2 : n ≤ c) (b3 : c ≤ maxLen) (b4 : n ≤ 140737488351232) (b5 : B = none → n = 0 ∧ c = 0) (b6 : Rd w B (bys l)) :
    Calls Try.prog 13 #[.slice B n c] w fun e w' => e = .returned (.bool true) ∧ Below w.heap.size w w' := by
  have HB : Hid (Bts w B n c l) := ⟨b1, b2, b3, b6⟩
  have HN := Lib.hid b1
  clear b1 b6 b5 b4 b3
  by_cases he : lookE l = 0
  · obtain ⟨q, hq⟩ : ∃ q, getP l = q := ⟨_, rfl⟩
    have HQ := Lib.hid hq
    have HZ : Hid ((0 : Int) = (lookE l : Nat)) := by show _ = _; rw [he]; rfl
    obtain ⟨l5, l12, _, _, hfl, k, hk, hkl, hT⟩ := look_ok he
    obtain ⟨_, hpd⟩ := look_bytes he
    rw [HN.out] at hpd l12 hfl hT l5 hkl
    have hFx : lookF l = frmA l := by unfold lookF; rw [if_pos he]
    have ha : 12 ≤ frmA l := by have := at_le_ext l; have := ext_le_frm l; have : atP l = 12 + 4 * nCs l := rfl; omega
    have hpl : q.pl = (l.drop (lookF l)).take (lookT l - lookF l) := by
      rw [← hq]; unfold getP; rw [if_pos he]; show plG l = _; unfold plG; rw [hFx]
    rw [hq] at hpd
    obtain ⟨F, hF⟩ : ∃ F, lookF l = F := ⟨_, rfl⟩
    obtain ⟨T, hTT⟩ : ∃ T, lookT l = T := ⟨_, rfl⟩
    rw [hF, hTT] at hpl
    rw [hTT] at hpd hT
    rw [← hFx, hF] at hfl ha hkl
    have hFT : F ≤ T := by omega
    have hTn : T ≤ n := by omega
    have hFI : ((F : Nat) : Int) ≤ (T : Int) := by omega
    have hTI : ((T : Nat) : Int) ≤ (n : Int) := by omega
    have hTc : ((T : Nat) : Int) ≤ (c : Int) := by omega
    have hTc' : T ≤ c := by omega
    have g12 : decide ((12 : Int) ≤ ((F : Nat) : Int)) = true := by simp; omega
    have gFT : decide (((F : Nat) : Int) ≤ ((T : Nat) : Int)) = true := by simp; omega
    have gTn : decide (((T : Nat) : Int) ≤ ((n : Nat) : Int)) = true := by simp; omega
    have hsub : (n : Int) - (T : Int) = q.pad := by rw [hpd]; omega
    have HF : Hid ((F : Int) = (lookF l : Nat)) := by show _ = _; rw [hF]
    have HT : Hid ((T : Int) = (lookT l : Nat)) := by show _ = _; rw [hTT]
    have HPL := Lib.hid hpl
    have hqp : q.pad = ((n - T : Nat) : Int) := hpd
    clear hq hF hTT hpl he hk hT hpd hFx l5 l12 hkl hfl
    have hn9 : n < 9223372036854775808 := by have := HB.out.cm; unfold maxLen at this; omega
    clear hqp
    obtain ⟨ad, rfl, _⟩ := bts_byte HB.out (k := 0) (by omega)
    by_cases hcF : c = F
    · obtain rfl : T = F := by omega
      subst hcF
      go_enter Try.func13, Try.ntmps13
      go_wp2_with (first
        | (go_at_call 23; (with_reducible refine (shown5_any _).mono ?_); rintro e w1 ⟨rfl, hb1⟩)
        | (go_at_call 30; (with_reducible refine (pget_row l q 0 HQ.out HZ.out (some ad) n c _ (HB.out.below hb1)).mono ?_); rintro e w2 ⟨C3, cn3, cc3, E3, en3, ec3, L3, ln3, lc3, rfl, HP3, hb2⟩; have hb3 := hb1.trans (hb2.mono hb1.size); have hb4 := fun o => hb3.alloc hb3.size o; have HPx := Lib.hid (fun o => HP3.out.below ((Below.refl w2.heap.size w2).alloc (Nat.le_refl _) o)); have hit := fun o => blk_alloc w2 o)
        | (go_at_call 33; (with_reducible refine (offset_v (some ad) n c l (c : Int) (c : Int) 0 _ (HB.out.below (hb4 _)) HF.out HT.out HZ.out).mono ?_); rintro e w3 ⟨rfl, hb5⟩; have hb6 := (hb4 _).trans (hb5.mono (hb4 _).size); have HPy := Lib.hid ((HPx.out _).below hb5); have hity := blk_below (hit _) hb5))
      refine region_planA (calmB_sound _) (.check [0, 1, 2, 3, 4, 5, 6, 7, 8, 9, 10, 11, 12, 13, 14, 15, 16, 17, 18, 19, 20, 21, 22, 23, 24, 25, 26, 27, 28, 29, 30, 31, 33] 32 (.leaf [32, 34, 35, 36, 37])) (by kernel_rfl) (by kernel_rfl) (by kernel_rfl) ?_
      have hd := hb6.drew
      have v2 : (convert 30 9 (.slice L3 ln3 lc3)).run Try.prog w3.drew = .ok (.string ⟨q.pl.toArray⟩) w3.drew := cv_rd HPy.out.hln (HPy.out.rl.rd.below ((Below.refl _ _).drew))
      have v3 : (convert 30 9 (.slice (some ad) 0 0)).run Try.prog w3.drew = .ok (.string ⟨q.pl.toArray⟩) w3.drew := cv_rd (by rw [HPL.out, Nat.sub_self]; rfl) (by rw [HPL.out, Nat.sub_self]; exact Rd.nil _ _)
      have hity2 := blk_below hity ((Below.refl w3.heap.size w3).drew)
      obtain ⟨t0, t1, t2, t3, t4, t5, t6, t7, t8, t9, t10⟩ := eleven_cells hity2
      refine wpPlan_check fun P1 hP1 => ?_
      simp only [List.filterMap_cons, List.filterMap_nil, List.getElem?_toArray, List.getElem?_cons_succ, List.getElem?_cons_zero]
      change wpList _ _ _ [_, _, _, _, _, _, _, _, _, _, _, _, _, _, _, _, _, _, _, _, _, _, _, _, _, _, _, _, _, _, _, _, _] _ _
      go_wp2
      refine hP1 _ _ (by first | exact fun _ => .inl ⟨_, _, _, _, rfl, rfl⟩ | exact fun _ => ⟨_, _, rfl⟩) ?_
      refine wpPlan_leaf fun P2 hP2 => ?_
      simp only [List.filterMap_cons, List.filterMap_nil, List.getElem?_toArray, List.getElem?_cons_succ, List.getElem?_cons_zero]
      change wpList _ _ _ [_, _, _, _, _] _ _
      go_wp2
      go_ret
      exact ⟨rfl, below_drewN hb6 1⟩
    · go_enter Try.func13, Try.ntmps13
      go_wp2_with (first
        | (go_at_call 23; (with_reducible refine (shown5_any _).mono ?_); rintro e w1 ⟨rfl, hb1⟩)
        | (go_at_call 30; (with_reducible refine (pget_row l q 0 HQ.out HZ.out (some ad) n c _ (HB.out.below hb1)).mono ?_); rintro e w2 ⟨C3, cn3, cc3, E3, en3, ec3, L3, ln3, lc3, rfl, HP3, hb2⟩; have hb3 := hb1.trans (hb2.mono hb1.size); have hb4 := fun o => hb3.alloc hb3.size o; have HPx := Lib.hid (fun o => HP3.out.below ((Below.refl w2.heap.size w2).alloc (Nat.le_refl _) o)); have hit := fun o => blk_alloc w2 o)
        | (go_at_call 33; (with_reducible refine (offset_v (some ad) n c l (F : Int) (T : Int) 0 _ (HB.out.below (hb4 _)) HF.out HT.out HZ.out).mono ?_); rintro e w3 ⟨rfl, hb5⟩; have hb6 := (hb4 _).trans (hb5.mono (hb4 _).size); have HPy := Lib.hid ((HPx.out _).below hb5); have hity := blk_below (hit _) hb5))
      refine region_planA (calmB_sound _) (.check [0, 1, 2, 3, 4, 5, 6, 7, 8, 9, 10, 11, 12, 13, 14, 15, 16, 17, 18, 19, 20, 21, 22, 23, 24, 25, 26, 27, 28, 29, 30, 31, 33] 32 (.leaf [32, 34, 35, 36, 37])) (by kernel_rfl) (by kernel_rfl) (by kernel_rfl) ?_
      have hd := hb6.drew
      have v2 : (convert 30 9 (.slice L3 ln3 lc3)).run Try.prog w3.drew = .ok (.string ⟨q.pl.toArray⟩) w3.drew := cv_rd HPy.out.hln (HPy.out.rl.rd.below ((Below.refl _ _).drew))
      have v3 : (convert 30 9 (.slice (some (ad.add F)) (T - F) (c - F))).run Try.prog w3.drew = .ok (.string ⟨q.pl.toArray⟩) w3.drew := cv_rd (by rw [HPL.out, List.length_take, List.length_drop, HN.out]; omega) (by rw [HPL.out]; exact part_rd (HB.out.below hd) F (T - F) (by omega))
      have hity2 := blk_below hity ((Below.refl w3.heap.size w3).drew)
      obtain ⟨t0, t1, t2, t3, t4, t5, t6, t7, t8, t9, t10⟩ := eleven_cells hity2
      refine wpPlan_check fun P1 hP1 => ?_
      simp only [List.filterMap_cons, List.filterMap_nil, List.getElem?_toArray, List.getElem?_cons_succ, List.getElem?_cons_zero]
      change wpList _ _ _ [_, _, _, _, _, _, _, _, _, _, _, _, _, _, _, _, _, _, _, _, _, _, _, _, _, _, _, _, _, _, _, _, _] _ _
      go_wp2
      refine hP1 _ _ (by first | exact fun _ => .inl ⟨_, _, _, _, rfl, rfl⟩ | exact fun _ => ⟨_, _, rfl⟩) ?_
      refine wpPlan_leaf fun P2 hP2 => ?_
      simp only [List.filterMap_cons, List.filterMap_nil, List.getElem?_toArray, List.getElem?_cons_succ, List.getElem?_cons_zero]
      change wpList _ _ _ [_, _, _, _, _] _ _
      go_wp2
      go_ret
      exact ⟨rfl, below_drewN hb6 1⟩
  · obtain ⟨z, hz⟩ : ∃ z, lookE l = z := ⟨_, rfl⟩
    have HZ : Hid ((z : Int) = (lookE l : Nat)) := by show _ = _; rw [hz]
    have HQ := Lib.hid (getP_zero he)
    have HF : Hid ((0 : Int) = (lookF l : Nat)) := by show _ = _; unfold lookF; rw [if_neg he]; rfl
    have HT : Hid ((0 : Int) = (lookT l : Nat)) := by show _ = _; unfold lookT; rw [if_neg he]; rfl
    rw [hz] at he
    have hz0 : ((z : Int) != 0) = true := by simp; omega
    clear hz he
    go_enter Try.func13, Try.ntmps13
    go_wp2_with (first
      | (go_at_call 23; (with_reducible refine (shown5_any _).mono ?_); rintro e w1 ⟨rfl, hb1⟩)
      | (go_at_call 30; (with_reducible refine (pget_row l zeroP (z : Int) HQ.out HZ.out B n c _ (HB.out.below hb1)).mono ?_); rintro e w2 ⟨C3, cn3, cc3, E3, en3, ec3, L3, ln3, lc3, rfl, HP3, hb2⟩; have hb3 := hb1.trans (hb2.mono hb1.size); have hb4 := fun o => hb3.alloc hb3.size o)
      | (go_at_call 33; (with_reducible refine (offset_v B n c l 0 0 (z : Int) _ (HB.out.below (hb4 _)) HF.out HT.out HZ.out).mono ?_); rintro e w3 ⟨rfl, hb5⟩; have hb6 := (hb4 _).trans (hb5.mono (hb4 _).size)))
    go_ret
    exact ⟨rfl, hb6⟩
namespace rtpOffset
open Go.ChangeShapes Go.WideShapes Go.ChangeAt Go.RowKit
open Go.ChangeMaps (open_string shut_string)
set_option linter.unusedVariables false

theorem own : ownKnob Try.prog.godebug = none := by kernel_rfl
theorem laidOut : laidOutB Try.prog = true := by kernel_rfl

set_option maxRecDepth 100000 in
theorem lifted (os : Os) (started : os.Started) (H : Type) (enc : TypeId × Value → H) :
    ReturnsInHanded {} Try.checked os 13 .any (Rows.rtpOffsetSpec.pre6 enc Try.prog Try.f13 Rows.rtpOffsetRow.domain false) (Rows.rtpOffsetSpec.post enc Try.prog Try.f13 false true false false) := by
  refine returnsInHanded_of_change_sized (C := Try.checked) own started (by kernel_rfl) Try.func13
    (ChangeSpec.witness6 (enc := enc) (C := Try.checked) false ⟨#[], #[.slice none 0 0], []⟩ 8 (by kernel_rfl) (by kernel_rfl) (by kernel_rfl) (by kernel_rfl)) ?_
  intro W base args ds gs before hval0 hW hcnd hsz0 _
  have hsz : (DataW.weightsEach Try.prog (Try.f13.params.toList ++ Rows.rtpOffsetSpec.plain.varTypes Try.prog) (ds ++ gs)).all (· ≤ reachBytes) = true := hsz0
  have hval : ∀ (j : Nat) t v, Try.f13.params[j]? = some t → args[j]? = some v → Value.okWide Try.prog W .any base t v := hval0
  have hW' := hW
  obtain ⟨p, q, hA0, hV, rfl, hfz, hnd⟩ := hW
  have hA : DataW.TrodAll enc Try.prog W 0 (fun _ => true) true Try.f13.params.toList args.toList ds p := hA0
  rw [Try.params13] at hA hval hsz
  obtain ⟨v0, vs0, d0, ds0, p0, q0, hargs, rfl, rfl, h0, r0⟩ := trodAll_cons hA
  obtain ⟨rfl, rfl, rfl⟩ := trodAll_nil r0
  obtain rfl : args = #[v0] := by cases args; simp_all
  obtain ⟨rfl, rfl⟩ := trodVars_none hV
  obtain ⟨a0, len0, cap0, rfl⟩ := okWide_slice Try.underlying30 (hval 0 30 v0 rfl rfl)
  have k0 := h0
  have lt0 : ∀ x ∈ p0, x.block < W.heap.size := by obtain ⟨m, hm⟩ := k0; exact DataW.trod_lt m _ _ _ hm
  obtain ⟨l0, n0, nc0, cm0, nl0, rd0, hl0⟩ : ∃ l : List UInt8, l.length = len0 ∧ len0 ≤ cap0 ∧ cap0 ≤ maxLen ∧ (a0 = none → len0 = 0 ∧ cap0 = 0) ∧ Rd W a0 (bys l) ∧ (len0 = 0 ∨ ∃ es sp, d0 = .slice es sp ∧ es.length = len0) := by
    obtain ⟨fuel, hf⟩ := h0
    exact open_byte_slice Try.underlying30 Try.underlying5 (by kernel_rfl) hf
  have hb0 : len0 * 1 ≤ 140737488351232 := reach_slice hsz (j := 0) rfl rfl Try.underlying30 (by kernel_rfl) hl0
  rw [Nat.mul_one] at hb0
  clear hA0 hval0 hsz0
  refine (rtpOffset_walk a0 len0 cap0 l0 W n0 nc0 cm0 hb0 nl0 rd0).mono fun e W' ⟨he, bel⟩ => ?_
  subst he
  exact ⟨_, rfl, _, _, _, [], _, [], hW', trodAll_mk1 (shut_bool Try.underlying4 _), (trodAll_cons_mk (Below.trod laidOut (by kernel_rfl) (of_decide_eq_true (by kernel_rfl)) k0 bel lt0) trodAll_mk0), rfl, bel.frame _, fun h => by cases h⟩

/-- The statement. -/
theorem proved : Rows.RtpOffsetSaid :=
  OpenClaim.holds_of_wide 13 Try.f13 rfl rfl rfl rfl rfl rfl rfl ⟨rfl, rfl, rfl, rfl, rfl⟩ rfl rfl rfl rfl rfl (by kernel_rfl) Try.func13 (by kernel_rfl)
    (of_decide_eq_true (by kernel_rfl)) (by unfold Func.isWrapper; rw [if_neg (of_decide_eq_false (by kernel_rfl))]; exact ⟨rfl, rfl⟩)
    (fun os started H enc _ => lifted os started H enc)
#print axioms proved
end rtpOffset
end Go.Proofs.Ytnkclbaeamcplaa
