/-
ReportAll: Put and May tell of every item what the document tells. For every item.
-/
import Derived.Test.YtnkclbaeamcplaaLaw7
import Derived.Test.YtnkclbaeamcplaaRepQ
import Derived.Test.YtnkclbaeamcplaaFeed4
import Derived.Test.YtnkclbaeamcplaaItmFrame
import Derived.Test.YtnkclbaeamcplaaRows
namespace Go.Proofs.Ytnkclbaeamcplaa
set_option linter.unusedVariables false
set_option linter.unusedSimpArgs false
open Go Go.RowKit

theorem may_same {i : Itm} (h : knownB i.k = true) : mayG i = mayR i := by
  have hk : i.k = 200 ∨ i.k = 201 := by simpa [knownB] using h
  rw [Bool.eq_iff_iff]
  constructor
  · intro hm
    simp only [mayG, bareG, Bool.and_eq_true, decide_eq_true_eq, if_pos hk] at hm
    obtain ⟨⟨h1, h2, h3, h4, h5, h6⟩, h7, h8⟩ := hm
    have g : i.go = [] := by
      rcases h3 with h | h
      · omega
      · exact h
    have p : i.pr = [] := by
      rcases h4 with h | h
      · omega
      · exact h
    have m : i.me = 0 := by omega
    simp only [mayR, bareB, Bool.and_eq_true, decide_eq_true_eq]
    exact ⟨⟨⟨h, g, p, m, h1⟩, h8⟩, h7⟩
  · intro hm
    obtain ⟨_, g, p, m, h1, h8, h7⟩ := may_parts hm
    simp only [mayG, bareG, Bool.and_eq_true, decide_eq_true_eq, if_pos hk]
    exact ⟨⟨h1, by omega, .inr g, .inr p, .inr (.inr m), by omega⟩, h7, h8⟩
theorem item_rep {i : Itm} (hm : mayR i = true) : itemL i = repL i := by
  obtain ⟨hk, g, p, m, h1, h8, h7⟩ := may_parts hm
  have hl := (rep_front hm []).2.2.2.2.2
  have hb : bodyL i = enc 4 i.s ++ ((if i.k = 200 then enc 8 i.ntp ++ (enc 4 i.tm ++ (enc 4 i.pk ++ enc 4 i.oc)) else []) ++ blksL i.bl) := by
    unfold bodyL headL
    rw [if_neg (by omega), if_neg (show ¬ (i.k = 205 ∨ i.k = 206) by omega), g, p]
    simp [foursL, prsL]
  have hr : repL i = [UInt8.ofNat (128 + i.bl.length), UInt8.ofNat i.k.toNat] ++ (enc 2 (sizeR i.k i.bl.length / 4 - 1) ++ bodyL i) := by
    rw [hb]; unfold repL; simp only [List.append_assoc]
  have hbl : (bodyL i).length = sizeR i.k i.bl.length - 4 := by
    have := congrArg List.length hr
    rw [hl] at this
    simp [enc_length] at this
    omega
  obtain ⟨q, hq⟩ := sizeR_four i.k i.bl.length
  have hs : sizeR i.k i.bl.length ≤ 400 := by unfold sizeR; split <;> omega
  have e2 : enc 2 (sizeR i.k i.bl.length / 4 - 1) = [0, UInt8.ofNat ((bodyL i).length / 4)] := by
    rw [hbl]
    show [UInt8.ofNat ((sizeR i.k i.bl.length / 4 - 1) / 256), UInt8.ofNat (sizeR i.k i.bl.length / 4 - 1)] = _
    rw [show (sizeR i.k i.bl.length / 4 - 1) / 256 = 0 by omega, show (sizeR i.k i.bl.length - 4) / 4 = sizeR i.k i.bl.length / 4 - 1 by omega]
    rfl
  rw [hr, e2]
  unfold itemL countG
  rw [if_neg (by omega), g]
  simp
theorem putrep_v (i : Itm) (A : Option Addr) (n c : Nat) (G : Option Addr) (gn gc : Nat) (P : Option Addr) (pn pc : Nat) (w : World) (ra : Row w A n c 7 28 (rowK i.bl)) (rg : Row w G gn gc 1 4 (u32s i.go)) (rp : Row w P pn pc 2 4 (rowP i.pr)) (ok : i.Ok) :
    Calls Try.prog 16 #[.agg #[.int .i64 i.k, .int .u32 i.s, .int .u64 i.ntp, .int .u32 i.tm, .int .u32 i.pk, .int .u32 i.oc, .slice A n c, .slice G gn gc, .int .u32 i.me, .slice P pn pc]] w fun e w' =>
      ∃ B m c', e = .returned (.tuple #[.slice B m c', .int .i64 (perrR i)]) ∧ Hid (m = (outR i).length) ∧ w'.ownsRow w.heap.size 5 1 (.slice B m c') m (bys (outR i)) ∧ Below w.heap.size w w' := by
  have e1 : (if knownB i.k then (if mayG i then 0 else 1) else 4 : Nat) = perrR i := by
    unfold perrR
    cases h : knownB i.k
    · rfl
    · rw [may_same h]
  have e2 : (if knownB i.k && mayG i then itemL i else []) = outR i := by
    unfold outR
    cases h : knownB i.k
    · have : mayR i = false := by simp [mayR, h]
      rw [this]; rfl
    · rw [may_same h]
      cases hm : mayR i
      · rfl
      · rw [item_rep hm]; rfl
  have key := putrep_any i A n c G gn gc P pn pc w ra rg rp ok
  rw [e1, e2] at key
  exact key
set_option maxRecDepth 20000 in
set_option maxHeartbeats 4000000 in
theorem reportAll_walk (i : Itm) (A : Option Addr) (n c : Nat) (G : Option Addr) (gn gc : Nat) (Q : Option Addr) (pn pc : Nat) (w : World)
    (rb : Row w A n c 7 28 (rowK i.bl)) (rg : Row w G gn gc 1 4 (u32s i.go)) (rp : Row w Q pn pc 2 4 (rowP i.pr)) (ok : i.Ok) :
    Calls Try.prog 3 #[.agg #[.int .i64 i.k, .int .u32 i.s, .int .u64 i.ntp, .int .u32 i.tm, .int .u32 i.pk, .int .u32 i.oc, .slice A n c, .slice G gn gc, .int .u32 i.me, .slice Q pn pc]] w fun e w' => e = .returned (.bool true) ∧ Below w.heap.size w w' := by
  have HA := Lib.hid rb
  have HG := Lib.hid rg
  have HQ := Lib.hid rp
  have HO := Lib.hid ok
  have HGl : Hid (i.go.length = gn) := by have := rg.len; rw [u32s_length] at this; show _ = _; omega
  have HPl : Hid (i.pr.length = pn) := by have := rp.len; rw [rowP_length] at this; show _ = _; omega
  clear rb rg rp ok
  have hmr : Hid (knownB i.k = false → mayR i = false) := fun h => by simp [mayR, h]
  cases hk : knownB i.k
  · have hm := hmr.out hk
    go_enter Try.func3, Try.ntmps3
    go_wp2_with (first
      | (go_at_call 14; (with_reducible refine (shown7_any _).mono ?_); rintro e w1 ⟨rfl, hb1⟩; have hb2 := ((Below.refl w.heap.size w).alloc (Nat.le_refl _) _).trans (hb1.mono (by simp)); have hit := blk_below (blk_alloc _ _) hb1; obtain ⟨t0, t1, t2, t3, t4, t5, t6, t7, t8, t9⟩ := ten_cells hit)
      | (go_at_call 15; (with_reducible refine (reput_any i A n c G gn gc Q pn pc _ (HA.out.below hb2) HGl.out HPl.out HO.out).mono ?_); rintro e w2 ⟨B2, m2, c2, rfl, hm2, ho2, hb3⟩; have hb4 := hb2.trans (hb3.mono hb2.size); have hit2 := blk_below hit hb3; obtain ⟨y0, y1, y2, y3, y4, y5, y6, y7, y8, y9⟩ := ten_cells hit2)
      | (go_at_call 16; (with_reducible refine (putrep_v i A n c G gn gc Q pn pc _ (HA.out.below hb4) (HG.out.below hb4) (HQ.out.below hb4) HO.out).mono ?_); rintro e w5 ⟨B5, m5, c5, rfl, hm5, ho5, hb5⟩; have hb6 := hb4.trans (hb5.mono hb4.size); have hit5 := blk_below hit2 hb5; obtain ⟨z0, z1, z2, z3, z4, z5, z6, z7, z8, z9⟩ := ten_cells hit5; have v1 := cv_own (ho2.kept (own_below hb5) (own_none _)); have v2 := cv_own ho5)
      | (go_at_call 17; (with_reducible refine (isrep_any _ _).mono ?_); rintro e w6 ⟨rfl, rfl⟩; rw [hk])
      | (go_at_call 19; (with_reducible refine (may_any i A n c G gn gc Q pn pc _ (HA.out.below hb6) HGl.out HPl.out).mono ?_); rintro e w7 ⟨rfl, hb7⟩; rw [hm]))
    go_ret
    exact ⟨rfl, hb6.trans (hb7.mono hb6.size)⟩
  · have hms := may_same hk
    have HMS := Lib.hid hms
    clear hms
    generalize hgm : mayR i = bm at *
    have HGM := Lib.hid hgm
    clear hgm
    go_enter Try.func3, Try.ntmps3
    go_wp2_with (first
      | (go_at_call 14; (with_reducible refine (shown7_any _).mono ?_); rintro e w1 ⟨rfl, hb1⟩; have hb2 := ((Below.refl w.heap.size w).alloc (Nat.le_refl _) _).trans (hb1.mono (by simp)); have hit := blk_below (blk_alloc _ _) hb1; obtain ⟨t0, t1, t2, t3, t4, t5, t6, t7, t8, t9⟩ := ten_cells hit)
      | (go_at_call 15; (with_reducible refine (reput_any i A n c G gn gc Q pn pc _ (HA.out.below hb2) HGl.out HPl.out HO.out).mono ?_); rintro e w2 ⟨B2, m2, c2, rfl, hm2, ho2, hb3⟩; have hb4 := hb2.trans (hb3.mono hb2.size); have hit2 := blk_below hit hb3; obtain ⟨y0, y1, y2, y3, y4, y5, y6, y7, y8, y9⟩ := ten_cells hit2)
      | (go_at_call 16; (with_reducible refine (putrep_v i A n c G gn gc Q pn pc _ (HA.out.below hb4) (HG.out.below hb4) (HQ.out.below hb4) HO.out).mono ?_); rintro e w5 ⟨B5, m5, c5, rfl, hm5, ho5, hb5⟩; have hb6 := hb4.trans (hb5.mono hb4.size); have hit5 := blk_below hit2 hb5; obtain ⟨z0, z1, z2, z3, z4, z5, z6, z7, z8, z9⟩ := ten_cells hit5; have ho2' := ho2.kept (own_below hb5) (own_none _))
      | (go_at_call 17; (with_reducible refine (isrep_any _ _).mono ?_); rintro e w6 ⟨rfl, rfl⟩; rw [hk])
      | (go_at_call 18; (with_reducible refine (rmayI_any i A n c G gn gc Q pn pc _ (HA.out.below hb6) HGl.out HPl.out).mono ?_); rintro e w8 ⟨rfl, hb8⟩; rw [HMS.out]; have hb9 := hb6.trans (hb8.mono hb6.size); have hit8 := blk_below hit5 hb8; obtain ⟨s0, s1, s2, s3, s4, s5, s6, s7, s8, s9⟩ := ten_cells hit8; have v1 := cv_own (ho2'.kept (own_below hb8) (own_none _)); have v2 := cv_own (ho5.kept (own_below hb8) (own_none _)))
      | (go_at_call 19; (with_reducible refine (may_any i A n c G gn gc Q pn pc _ (HA.out.below hb9) HGl.out HPl.out).mono ?_); rintro e w7 ⟨rfl, hb7⟩; rw [HGM.out]))
    go_ret
    exact ⟨congrArg Ending.returned (congrArg Value.bool (by cases bm <;> rfl)), hb9.trans (hb7.mono hb9.size)⟩
namespace reportAll
open Go.ChangeShapes Go.WideShapes Go.ChangeAt Go.RowKit
open Go.ChangeMaps (open_string shut_string)
set_option linter.unusedVariables false

theorem own : ownKnob Try.prog.godebug = none := by kernel_rfl
theorem laidOut : laidOutB Try.prog = true := by kernel_rfl

set_option maxRecDepth 100000 in
theorem lifted (os : Os) (started : os.Started) (H : Type) (enc : TypeId × Value → H) :
    ReturnsInHanded {} Try.checked os 3 .any (Rows.reportAllSpec.pre6 enc Try.prog Try.f3 Rows.reportAllRow.domain false) (Rows.reportAllSpec.post enc Try.prog Try.f3 false true false false) := by
  refine returnsInHanded_of_change_sized (C := Try.checked) own started (by kernel_rfl) Try.func3
    (ChangeSpec.witness6 (enc := enc) (C := Try.checked) false ⟨#[], #[.agg #[.int .i64 0, .int .u32 0, .int .u64 0, .int .u32 0, .int .u32 0, .int .u32 0, .slice none 0 0, .slice none 0 0, .int .u32 0, .slice none 0 0]], []⟩ 8 (by kernel_rfl) (by kernel_rfl) (by kernel_rfl) (by kernel_rfl)) ?_
  intro W base args ds gs before hval0 hW hcnd hsz0 _
  have hsz : (DataW.weightsEach Try.prog (Try.f3.params.toList ++ Rows.reportAllSpec.plain.varTypes Try.prog) (ds ++ gs)).all (· ≤ reachBytes) = true := hsz0
  have hval : ∀ (j : Nat) t v, Try.f3.params[j]? = some t → args[j]? = some v → Value.okWide Try.prog W .any base t v := hval0
  have hW' := hW
  obtain ⟨p, q, hA0, hV, rfl, hfz, hnd⟩ := hW
  have hA : DataW.TrodAll enc Try.prog W 0 (fun _ => true) true Try.f3.params.toList args.toList ds p := hA0
  rw [Try.params3] at hA hval hsz
  obtain ⟨v0, vs0, d0, ds0, p0, q0, hargs, rfl, rfl, h0, r0⟩ := trodAll_cons hA
  obtain ⟨rfl, rfl, rfl⟩ := trodAll_nil r0
  obtain rfl : args = #[v0] := by cases args; simp_all
  obtain ⟨rfl, rfl⟩ := trodVars_none hV
  have k0 := h0
  have lt0 : ∀ x ∈ p0, x.block < W.heap.size := by obtain ⟨m, hm⟩ := k0; exact DataW.trod_lt m _ _ _ hm
  obtain ⟨i0, A0, n0, c0, G0, gn0, gc0, Q0, pn0, pc0, rfl, rb0, rg0, rp0, ok0⟩ := open_item (hval 0 28 v0 rfl rfl) h0
  clear hA0 hval0 hsz0
  refine (reportAll_walk i0 A0 n0 c0 G0 gn0 gc0 Q0 pn0 pc0 W rb0 rg0 rp0 ok0).mono fun e W' ⟨he, bel⟩ => ?_
  subst he
  exact ⟨_, rfl, _, _, _, [], _, [], hW', trodAll_mk1 (shut_bool Try.underlying4 _), (trodAll_cons_mk (Below.trod laidOut (by kernel_rfl) (of_decide_eq_true (by kernel_rfl)) k0 bel lt0) trodAll_mk0), rfl, bel.frame _, fun h => by cases h⟩

/-- The statement. -/
theorem proved : Rows.ReportAllSaid :=
  OpenClaim.holds_of_wide 3 Try.f3 rfl rfl rfl rfl rfl rfl rfl ⟨rfl, rfl, rfl, rfl, rfl⟩ rfl rfl rfl rfl rfl (by kernel_rfl) Try.func3 (by kernel_rfl)
    (of_decide_eq_true (by kernel_rfl)) (by unfold Func.isWrapper; rw [if_neg (of_decide_eq_false (by kernel_rfl))]; exact ⟨rfl, rfl⟩)
    (fun os started H enc _ => lifted os started H enc)
#print axioms proved
end reportAll
end Go.Proofs.Ytnkclbaeamcplaa
