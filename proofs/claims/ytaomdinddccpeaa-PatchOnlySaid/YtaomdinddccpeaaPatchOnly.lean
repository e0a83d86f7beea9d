/-
PatchOnly: Apply changes no byte but those of the four fields.
-/
import Derived.Test.YtaomdinddccpeaaPatchLast
namespace Go.Proofs.Ytaomdinddccpeaa
set_option linter.unusedVariables false
set_option linter.unusedSimpArgs false
open Go Go.RowKit

set_option maxRecDepth 20000 in
set_option maxHeartbeats 8000000 in
theorem patchOnly_no (A : Option Addr) (n c : Nat) (l : List UInt8) (x1 x2 x3 x4 : Nat) (w : World) (hB : Bts w A n c l) (hn : n ≤ 140737488351232) (bx1 : x1 < 65536) (bx2 : x2 < 4294967296) (bx3 : x3 < 4294967296) (bx4 : x4 < 65536) (hok : okD l = false) :
    Calls Try.prog 7 #[.slice A n c, .agg #[.int .u16 x1, .int .u32 x2, .int .u32 x3, .int .u16 x4]] w fun e w' => e = .returned (.bool true) ∧ Below w.heap.size w w' := by
  have HB := Lib.hid hB
  have m1 := hB.nc
  have m2 := hB.cm
  unfold maxLen at m2
  obtain ⟨la, ha⟩ : ∃ m, apP l x1 x2 x3 x4 = m := ⟨_, rfl⟩
  obtain ⟨T, hT⟩ : ∃ m, m = ((lookT l : Nat) : Int) := ⟨_, rfl⟩
  obtain ⟨F, hF⟩ : ∃ m : Nat, m = lookF l := ⟨_, rfl⟩
  obtain ⟨Z, hZ⟩ : ∃ m, m = ((lookE l : Nat) : Int) := ⟨_, rfl⟩
  have hF512 : F ≤ 512 := by
    rw [hF]; unfold lookF
    split
    · rename_i he
      have h1 := (look_ok he).1
      have h3 := room0 he
      have h4 : lookT l ≤ l.length := by unfold lookT; split <;> omega
      omega
    · omega
  have HF : Hid ((F : Int) = (lookF l : Nat) ∧ T = (lookT l : Nat) ∧ Z = (lookE l : Nat)) := ⟨by rw [hF], hT, hZ⟩
  have HA1 : Hid (okD l = false ∧ apP l x1 x2 x3 x4 = la) := ⟨hok, ha⟩
  have HD : Hid (la = l) := by show _ = _; rw [← ha, ap_no hok]
  clear hB ha hT hF hZ hok
  go_enter Try.func7, Try.ntmps7
  go_wp2_with (first
    | (go_at_call 14; ((with_reducible refine (shown6_any _).mono ?_); rintro e w1 ⟨rfl, hb1⟩; have hx1 := blk_below (blk_alloc w (.cells #[.int .u16 x1, .int .u32 x2, .int .u32 x3, .int .u16 x4] 26)) hb1; have hw1 := ((Below.refl w.heap.size w).alloc (Nat.le_refl _) (.cells #[.int .u16 x1, .int .u32 x2, .int .u32 x3, .int .u16 x4] 26)).trans (hb1.mono (by simp))))
    | (go_at_call 15; ((with_reducible refine (copied_any A n c l _ (HB.out.below hw1) hn).mono ?_); rintro e w3 ⟨C, c3, rfl, ho3, hb3⟩; have hx3 := blk_below hx1 hb3; have hw3 := hw1.trans (hb3.mono hw1.size); obtain ⟨X0, X1, X2, X3⟩ := four_set hx3))
    | (go_at_call 16; ((with_reducible refine (apply_v w.heap.size C n c3 l la x1 x2 x3 x4 false HA1.out.1 HA1.out.2 bx1 bx2 bx3 bx4 _ (own_mono ho3 hw1.size)).mono ?_); rintro e w5 ⟨rfl, ho5, hg5⟩; have hw5 := hw3.grown hg5 hw3.size (own_from (own_mono ho3 hw1.size))))
    | (go_at_call 28; ((with_reducible refine (offsetP_v A n c l F T Z _ (HB.out.below hw5) HF.out.1 HF.out.2.1 HF.out.2.2).mono ?_); rintro e w6 ⟨rfl, hb6⟩; have hw6 := hw5.trans (hb6.mono hw5.size); have HC := Lib.hid (own_bts (ho5.kept (own_below hb6) (own_none _))); clear ho3 ho5 X0 X1 X2 X3 hx1 hx3)))
  go_loopw [39] (fun ix wr => ∃ k : Nat, ix = .int .i64 k ∧ k ≤ n ∧ Below w6.heap.size w6 wr) (fun ix _ => n - (intOf ix).toNat)
  case atStart => exact ⟨0, rfl, Nat.zero_le _, Below.refl _ _⟩
  case round =>
    obtain ⟨k, rfl, hkn, hbr⟩ := hrel
    by_cases hlt : k < n
    · obtain ⟨fb, hfb⟩ : ∃ b, b = decide ((2 ≤ k ∧ k < 12) ∨ k = F ∨ k = F + 2 ∨ k = F + 3) := ⟨_, rfl⟩
      have HFB := Lib.hid hfb
      clear hfb
      go_upto_region 11 with fail
      go_cut [11] from 42 to 64 (fun s11 wx => s11 = .bool fb ∧ wx = wr)
      case first =>
        obtain ⟨b1, h1⟩ : ∃ b, decide ((2 : Int) ≤ (k : Int)) = b := ⟨_, rfl⟩
        obtain ⟨b2, h2⟩ : ∃ b, decide ((k : Int) < 12) = b := ⟨_, rfl⟩
        obtain ⟨b3, h3⟩ : ∃ b, ((k : Int) == (F : Int)) = b := ⟨_, rfl⟩
        obtain ⟨b4, h4⟩ : ∃ b, ((k : Int) == (F : Int) + 2) = b := ⟨_, rfl⟩
        obtain ⟨b5, h5⟩ : ∃ b, ((k : Int) == (F : Int) + 3) = b := ⟨_, rfl⟩
        have HQ : Hid (fb = ((b1 && b2) || b3 || b4 || b5)) := by
          show _ = _
          rw [HFB.out, ← h1, ← h2, ← h3, ← h4, ← h5, Bool.eq_iff_iff]
          simp
          omega
        clear HFB
        cases b1 <;> cases b2 <;> cases b3 <;> cases b4 <;> cases b5
        all_goals
          go_wp2
          go_meet
          exact ⟨by rw [HQ.out]; rfl, rfl⟩
      case rest =>
      obtain ⟨rfl, hw⟩ := hcut
      replace hw := hw.symm
      subst hw
      obtain ⟨ad, rfl, a0⟩ := bts_byte ((HB.out.below hw6).below hbr) hlt
      obtain ⟨ae, rfl, e0⟩ := bts_byte (HC.out.below hbr) hlt
      replace a0 : ∀ j, (wr.drewN j).cell? _ = _ := fun j => a0
      replace e0 : ∀ j, (wr.drewN j).cell? _ = _ := fun j => e0
      rw [HD.out] at e0
      generalize byteN l k = x at *
      go_wp2
      go_quiet (fail)
      go_wp2
      exact ⟨⟨k + 1, rfl, by omega, below_drewN hbr _⟩, by simp [intOf]; omega⟩
    · go_wp2
      go_ret
      exact ⟨rfl, hw6.trans (hbr.mono hw6.size)⟩
set_option maxRecDepth 20000 in
set_option maxHeartbeats 8000000 in
theorem patchOnly_yes (A : Option Addr) (n c : Nat) (l : List UInt8) (x1 x2 x3 x4 : Nat) (w : World) (hB : Bts w A n c l) (hn : n ≤ 140737488351232) (bx1 : x1 < 65536) (bx2 : x2 < 4294967296) (bx3 : x3 < 4294967296) (bx4 : x4 < 65536) (hok : okD l = true) :
    Calls Try.prog 7 #[.slice A n c, .agg #[.int .u16 x1, .int .u32 x2, .int .u32 x3, .int .u16 x4]] w fun e w' => e = .returned (.bool true) ∧ Below w.heap.size w w' := by
  have HB := Lib.hid hB
  have m1 := hB.nc
  have m2 := hB.cm
  unfold maxLen at m2
  obtain ⟨la, ha⟩ : ∃ m, apP l x1 x2 x3 x4 = m := ⟨_, rfl⟩
  obtain ⟨T, hT⟩ : ∃ m, m = ((lookT l : Nat) : Int) := ⟨_, rfl⟩
  obtain ⟨F, hF⟩ : ∃ m : Nat, m = lookF l := ⟨_, rfl⟩
  obtain ⟨Z, hZ⟩ : ∃ m, m = ((lookE l : Nat) : Int) := ⟨_, rfl⟩
  have hF512 : F ≤ 512 := by
    rw [hF]; unfold lookF
    split
    · rename_i he
      have h1 := (look_ok he).1
      have h3 := room0 he
      have h4 : lookT l ≤ l.length := by unfold lookT; split <;> omega
      omega
    · omega
  have HF : Hid ((F : Int) = (lookF l : Nat) ∧ T = (lookT l : Nat) ∧ Z = (lookE l : Nat)) := ⟨by rw [hF], hT, hZ⟩
  have HA1 : Hid (okD l = true ∧ apP l x1 x2 x3 x4 = la) := ⟨hok, ha⟩
  obtain rfl : Z = 0 := by rw [hZ, okD_look hok]; rfl
  have HD : Hid (∀ j, byteN l j ≠ byteN la j → (2 ≤ j ∧ j < 12) ∨ j = F ∨ j = F + 2 ∨ j = F + 3) := by
    intro j hj
    have hFF : F = frmA l := by rw [hF]; unfold lookF; rw [if_pos (okD_look hok)]
    apply Classical.byContradiction
    intro hc
    apply hj
    rw [← ha, ap_byte hok bx1 bx2 bx3 bx4 (by omega) (by omega) (by omega) (by omega)]
  clear hB ha hT hF hZ hok
  go_enter Try.func7, Try.ntmps7
  go_wp2_with (first
    | (go_at_call 14; ((with_reducible refine (shown6_any _).mono ?_); rintro e w1 ⟨rfl, hb1⟩; have hx1 := blk_below (blk_alloc w (.cells #[.int .u16 x1, .int .u32 x2, .int .u32 x3, .int .u16 x4] 26)) hb1; have hw1 := ((Below.refl w.heap.size w).alloc (Nat.le_refl _) (.cells #[.int .u16 x1, .int .u32 x2, .int .u32 x3, .int .u16 x4] 26)).trans (hb1.mono (by simp))))
    | (go_at_call 15; ((with_reducible refine (copied_any A n c l _ (HB.out.below hw1) hn).mono ?_); rintro e w3 ⟨C, c3, rfl, ho3, hb3⟩; have hx3 := blk_below hx1 hb3; have hw3 := hw1.trans (hb3.mono hw1.size); obtain ⟨X0, X1, X2, X3⟩ := four_set hx3))
    | (go_at_call 16; ((with_reducible refine (apply_v w.heap.size C n c3 l la x1 x2 x3 x4 true HA1.out.1 HA1.out.2 bx1 bx2 bx3 bx4 _ (own_mono ho3 hw1.size)).mono ?_); rintro e w5 ⟨rfl, ho5, hg5⟩; have hw5 := hw3.grown hg5 hw3.size (own_from (own_mono ho3 hw1.size))))
    | (go_at_call 28; ((with_reducible refine (offsetP_v A n c l F T 0 _ (HB.out.below hw5) HF.out.1 HF.out.2.1 HF.out.2.2).mono ?_); rintro e w6 ⟨rfl, hb6⟩; have hw6 := hw5.trans (hb6.mono hw5.size); have HC := Lib.hid (own_bts (ho5.kept (own_below hb6) (own_none _))); clear ho3 ho5 X0 X1 X2 X3 hx1 hx3)))
  go_loopw [39] (fun ix wr => ∃ k : Nat, ix = .int .i64 k ∧ k ≤ n ∧ Below w6.heap.size w6 wr) (fun ix _ => n - (intOf ix).toNat)
  case atStart => exact ⟨0, rfl, Nat.zero_le _, Below.refl _ _⟩
  case round =>
    obtain ⟨k, rfl, hkn, hbr⟩ := hrel
    by_cases hlt : k < n
    · obtain ⟨fb, hfb⟩ : ∃ b, b = decide ((2 ≤ k ∧ k < 12) ∨ k = F ∨ k = F + 2 ∨ k = F + 3) := ⟨_, rfl⟩
      have HFB := Lib.hid hfb
      clear hfb
      go_upto_region 11 with fail
      go_cut [11] from 42 to 64 (fun s11 wx => s11 = .bool fb ∧ wx = wr)
      case first =>
        obtain ⟨b1, h1⟩ : ∃ b, decide ((2 : Int) ≤ (k : Int)) = b := ⟨_, rfl⟩
        obtain ⟨b2, h2⟩ : ∃ b, decide ((k : Int) < 12) = b := ⟨_, rfl⟩
        obtain ⟨b3, h3⟩ : ∃ b, ((k : Int) == (F : Int)) = b := ⟨_, rfl⟩
        obtain ⟨b4, h4⟩ : ∃ b, ((k : Int) == (F : Int) + 2) = b := ⟨_, rfl⟩
        obtain ⟨b5, h5⟩ : ∃ b, ((k : Int) == (F : Int) + 3) = b := ⟨_, rfl⟩
        have HQ : Hid (fb = ((b1 && b2) || b3 || b4 || b5)) := by
          show _ = _
          rw [HFB.out, ← h1, ← h2, ← h3, ← h4, ← h5, Bool.eq_iff_iff]
          simp
          omega
        clear HFB
        cases b1 <;> cases b2 <;> cases b3 <;> cases b4 <;> cases b5
        all_goals
          go_wp2
          go_meet
          exact ⟨by rw [HQ.out]; rfl, rfl⟩
      case rest =>
      obtain ⟨rfl, hw⟩ := hcut
      replace hw := hw.symm
      subst hw
      obtain ⟨ad, rfl, a0⟩ := bts_byte ((HB.out.below hw6).below hbr) hlt
      obtain ⟨ae, rfl, e0⟩ := bts_byte (HC.out.below hbr) hlt
      replace a0 : ∀ j, (wr.drewN j).cell? _ = _ := fun j => a0
      replace e0 : ∀ j, (wr.drewN j).cell? _ = _ := fun j => e0
      have hD := HD.out k
      generalize byteN l k = x at *
      generalize byteN la k = y at *
      by_cases hxy : x = y
      · subst hxy
        clear hD
        go_wp2
        go_quiet (fail)
        go_wp2
        exact ⟨⟨k + 1, rfl, by omega, below_drewN hbr _⟩, by simp [intOf]; omega⟩
      · replace hD := hD hxy
        have hne : ((x : Int) != (y : Int)) = true := by simp; omega
        have hfb : fb = true := by rw [HFB.out]; exact decide_eq_true hD
        subst hfb
        clear hxy hD
        go_wp2
        go_quiet (fail)
        go_wp2
        exact ⟨⟨k + 1, rfl, by omega, below_drewN hbr _⟩, by simp [intOf]; omega⟩
    · go_wp2
      go_ret
      exact ⟨rfl, hw6.trans (hbr.mono hw6.size)⟩
namespace patchOnly
theorem patchOnly_walk (A : Option Addr) (n c : Nat) (l : List UInt8) (s t r f : Int) (w : World) (hl : l.length = n) (hc : n ≤ c) (hm : c ≤ maxLen) (hn : n ≤ 140737488351232) (hA : A = none → n = 0 ∧ c = 0) (hr : Rd w A (bys l))
    (hp : (0 ≤ s ∧ s ≤ 65535) ∧ (0 ≤ t ∧ t ≤ 4294967295) ∧ (0 ≤ r ∧ r ≤ 4294967295) ∧ (0 ≤ f ∧ f ≤ 65535)) :
    Calls Try.prog 7 #[.slice A n c, .agg #[.int .u16 s, .int .u32 t, .int .u32 r, .int .u16 f]] w fun e w' => e = .returned (.bool true) ∧ Below w.heap.size w w' := by
  obtain ⟨s, rfl⟩ : ∃ m : Nat, s = (m : Int) := ⟨s.toNat, by omega⟩
  obtain ⟨t, rfl⟩ : ∃ m : Nat, t = (m : Int) := ⟨t.toNat, by omega⟩
  obtain ⟨r, rfl⟩ : ∃ m : Nat, r = (m : Int) := ⟨r.toNat, by omega⟩
  obtain ⟨f, rfl⟩ : ∃ m : Nat, f = (m : Int) := ⟨f.toNat, by omega⟩
  cases hok : okD l
  · exact patchOnly_no A n c l s t r f w ⟨hl, hc, hm, hr⟩ hn (by omega) (by omega) (by omega) (by omega) hok
  · exact patchOnly_yes A n c l s t r f w ⟨hl, hc, hm, hr⟩ hn (by omega) (by omega) (by omega) (by omega) hok
end patchOnly
namespace patchOnly
open Go.ChangeShapes Go.WideShapes Go.ChangeAt Go.RowKit
open Go.ChangeMaps (open_string shut_string)
set_option linter.unusedVariables false

theorem own : ownKnob Try.prog.godebug = none := by kernel_rfl
theorem laidOut : laidOutB Try.prog = true := by kernel_rfl

set_option maxRecDepth 100000 in
theorem lifted (os : Os) (started : os.Started) (H : Type) (enc : TypeId × Value → H) :
    ReturnsInHanded {} Try.checked os 7 .any (Rows.patchOnlySpec.pre6 enc Try.prog Try.f7 Rows.patchOnlyRow.domain false) (Rows.patchOnlySpec.post enc Try.prog Try.f7 false true false false) := by
  refine returnsInHanded_of_change_sized (C := Try.checked) own started (by kernel_rfl) Try.func7
    (ChangeSpec.witness6 (enc := enc) (C := Try.checked) false ⟨#[], #[.slice none 0 0, .agg #[.int .u16 0, .int .u32 0, .int .u32 0, .int .u16 0]], []⟩ 8 (by kernel_rfl) (by kernel_rfl) (by kernel_rfl) (by kernel_rfl)) ?_
  intro W base args ds gs before hval0 hW hcnd hsz0 _
  have hsz : (DataW.weightsEach Try.prog (Try.f7.params.toList ++ Rows.patchOnlySpec.plain.varTypes Try.prog) (ds ++ gs)).all (· ≤ reachBytes) = true := hsz0
  have hval : ∀ (j : Nat) t v, Try.f7.params[j]? = some t → args[j]? = some v → Value.okWide Try.prog W .any base t v := hval0
  have hW' := hW
  obtain ⟨p, q, hA0, hV, rfl, hfz, hnd⟩ := hW
  have hA : DataW.TrodAll enc Try.prog W 0 (fun _ => true) true Try.f7.params.toList args.toList ds p := hA0
  rw [Try.params7] at hA hval hsz
  obtain ⟨v0, vs0, d0, ds0, p0, q0, hargs, rfl, rfl, h0, r0⟩ := trodAll_cons hA
  obtain ⟨v1, vs1, d1, ds1, p1, q1, rfl, rfl, rfl, h1, r1⟩ := trodAll_cons r0
  obtain ⟨rfl, rfl, rfl⟩ := trodAll_nil r1
  obtain rfl : args = #[v0, v1] := by cases args; simp_all
  obtain ⟨rfl, rfl⟩ := trodVars_none hV
  obtain ⟨a0, len0, cap0, rfl⟩ := okWide_slice Try.underlying22 (hval 0 22 v0 rfl rfl)
  have k0 := h0
  have lt0 : ∀ x ∈ p0, x.block < W.heap.size := by obtain ⟨m, hm⟩ := k0; exact DataW.trod_lt m _ _ _ hm
  obtain ⟨l0, n0, nc0, cm0, nl0, rd0, hl0⟩ : ∃ l : List UInt8, l.length = len0 ∧ len0 ≤ cap0 ∧ cap0 ≤ maxLen ∧ (a0 = none → len0 = 0 ∧ cap0 = 0) ∧ Rd W a0 (bys l) ∧ (len0 = 0 ∨ ∃ es sp, d0 = .slice es sp ∧ es.length = len0) := by
    obtain ⟨fuel, hf⟩ := h0
    exact open_byte_slice Try.underlying22 Try.underlying5 (by kernel_rfl) hf
  have hb0 : len0 * 1 ≤ 140737488351232 := reach_slice hsz (j := 0) rfl rfl Try.underlying22 (by kernel_rfl) hl0
  rw [Nat.mul_one] at hb0
  obtain ⟨s1, t1, m1, f1, rfl, rfl, rfl, wS1, wT1, wR1, wF1⟩ := open_patch (hval 1 26 v1 rfl rfl) h1
  clear hA0 hval0 hsz0
  refine (patchOnly_walk a0 len0 cap0 l0 s1 t1 m1 f1 W n0 nc0 cm0 hb0 nl0 rd0 ⟨bounds_u16 wS1, bounds_u32 wT1, bounds_u32 wR1, bounds_u16 wF1⟩).mono fun e W' ⟨he, bel⟩ => ?_
  subst he
  exact ⟨_, rfl, _, _, _, [], _, [], hW', trodAll_mk1 (shut_bool Try.underlying4 _), (trodAll_cons_mk (Below.trod laidOut (by kernel_rfl) (of_decide_eq_true (by kernel_rfl)) k0 bel lt0) (trodAll_cons_mk (shut_patch wS1 wT1 wR1 wF1) trodAll_mk0)), rfl, bel.frame _, fun h => by cases h⟩

/-- The statement. -/
theorem proved : Rows.PatchOnlySaid :=
  OpenClaim.holds_of_wide 7 Try.f7 rfl rfl rfl rfl rfl rfl rfl ⟨rfl, rfl, rfl, rfl, rfl⟩ rfl rfl rfl rfl rfl (by kernel_rfl) Try.func7 (by kernel_rfl)
    (of_decide_eq_true (by kernel_rfl)) (by unfold Func.isWrapper; rw [if_neg (of_decide_eq_false (by kernel_rfl))]; exact ⟨rfl, rfl⟩)
    (fun os started H enc _ => lifted os started H enc)
#print axioms proved
end patchOnly
end Go.Proofs.Ytaomdinddccpeaa
