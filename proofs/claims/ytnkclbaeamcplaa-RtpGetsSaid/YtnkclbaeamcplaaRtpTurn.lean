/-
RtpTurn: what is put is read as it was. For every packet.
-/
import Derived.Test.YtnkclbaeamcplaaLaw5
import Derived.Test.YtnkclbaeamcplaaRtpQ
import Derived.Test.YtnkclbaeamcplaaPktFrame
import Derived.Test.YtnkclbaeamcplaaRows
namespace Go.Proofs.Ytnkclbaeamcplaa
set_option linter.unusedVariables false
set_option linter.unusedSimpArgs false
open Go Go.RowKit

theorem pmay_row (p : Pkt) (b : Bool) (hb : mayP p = b) (C : Option Addr) (cn cc : Nat) (E : Option Addr) (en ec : Nat) (L : Option Addr) (ln lc : Nat) (w : World) (h : PRow w p C cn cc E en ec L ln lc) :
    Calls Try.prog 26 #[.agg #[.bool p.mr, .int .i64 p.ty, .int .u16 p.sq, .int .u32 p.tm, .int .u32 p.ss, .slice C cn cc, .bool p.hx, .int .u16 p.pf, .slice E en ec, .slice L ln lc, .int .i64 p.pad]] w fun e w' =>
      e = .returned (.bool b) ∧ Below w.heap.size w w' := by
  subst hb
  exact pmay_any p C cn cc E en ec L ln lc w h.hcn h.hen
theorem err_cases (p : Pkt) : (errP p = 0 ∧ mayP p = true) ∨ (errP p = 1 ∧ mayP p = false) ∨ (errP p = 5 ∧ mayP p = true ∧ 512 < sizeP p) := by
  by_cases h0 : errP p = 0
  · exact .inl ⟨h0, (err_may h0).1⟩
  · have h := h0
    unfold errP at h
    by_cases h1 : sizeP p = 0
    · refine .inr (.inl ⟨by unfold errP; rw [if_pos h1], ?_⟩)
      cases hm : mayP p
      · rfl
      · unfold sizeP headP at h1; rw [if_pos hm] at h1; omega
    · rw [if_neg h1] at h
      by_cases h2 : sizeP p > 512
      · refine .inr (.inr ⟨by unfold errP; rw [if_neg h1, if_pos h2], ?_, h2⟩)
        cases hm : mayP p
        · unfold sizeP at h1; rw [hm] at h1; exact absurd rfl h1
        · rfl
      · rw [if_neg h2] at h; exact absurd rfl h
theorem outP_nil {p : Pkt} (h : errP p ≠ 0) : outP p = [] := by unfold outP; rw [if_neg h]
theorem outP_yes {p : Pkt} (h : errP p = 0) : outP p = pktL p := by unfold outP; rw [if_pos h]
set_option maxRecDepth 20000 in
set_option maxHeartbeats 4000000 in
theorem rtpTurn_walk (p : Pkt) (C : Option Addr) (cn cc : Nat) (E : Option Addr) (en ec : Nat) (L : Option Addr) (ln lc : Nat) (w : World)
    (ra : Row w C cn cc 1 4 (u32s p.cs)) (re : Row w E en ec 1 1 (bys p.ex)) (rl : Row w L ln lc 1 1 (bys p.pl)) (ok : p.Ok) (be : en ≤ 140737488351232) (bl : ln ≤ 140737488351232) :
    Calls Try.prog 8 #[.agg #[.bool p.mr, .int .i64 p.ty, .int .u16 p.sq, .int .u32 p.tm, .int .u32 p.ss, .slice C cn cc, .bool p.hx, .int .u16 p.pf, .slice E en ec, .slice L ln lc, .int .i64 p.pad]] w fun e w' => e = .returned (.bool true) ∧ Below w.heap.size w w' := by
  have HP : Hid (PRow w p C cn cc E en ec L ln lc) := ⟨ra, re, rl⟩
  have HO := Lib.hid ok
  clear ra re rl ok
  rcases err_cases p with ⟨h0, hm⟩ | ⟨h1, hm⟩ | ⟨h5, hm, hs⟩
  · have HG := Lib.hid (get_put5 HO.out h0)
    have HL : Hid (outP p = pktL p) := outP_yes h0
    have HS := Lib.hid (sizeP_len hm)
    have H0 : Hid ((0 : Int) = (errP p : Nat)) := by show _ = _; rw [h0]; rfl
    have HZ : Hid ((0 : Int) = (lookE (pktL p) : Nat)) := by show _ = _; rw [HG.out.1]; rfl
    have hk : (pktL p).length ≤ 512 := by rw [HS.out]; exact (err_may h0).2
    have HM := Lib.hid hm
    clear h0 hm
    obtain ⟨k, hkk⟩ : ∃ k, (pktL p).length = k := ⟨_, rfl⟩
    rw [hkk] at hk
    have HK := Lib.hid hkk
    have HSk : Hid ((k : Int) = (sizeP p : Nat)) := by show _ = _; rw [← HS.out, HK.out]
    clear hkk
    go_enter Try.func8, Try.ntmps8
    go_wp2_with (first
      | (go_at_call 23; (with_reducible refine (shown5_any _).mono ?_); rintro e w1 ⟨rfl, hb1⟩; have hb2 := ((Below.refl w.heap.size w).alloc (Nat.le_refl _) _).trans (hb1.mono (by simp)); have hit := blk_below (blk_alloc _ _) hb1; obtain ⟨t0, t1, t2, t3, t4, t5, t6, t7, t8, t9, t10⟩ := eleven_cells hit)
      | (go_at_call 24; (with_reducible refine (pput_row p HO.out 0 H0.out (pktL p) HL.out k HK.out C cn cc E en ec L ln lc _ (HP.out.below hb2) be bl).mono ?_); rintro e w2 ⟨B, c2, rfl, ho2, hb3⟩; have hit2 := blk_below hit hb3; have hb4 := hb2.trans (hb3.mono hb2.size); have HO2 := Lib.hid ho2; clear ho2 t0 t1 t2 t3 t4 t5 t6 t7 t8 t9 t10)
      | (go_at_call 30; (with_reducible refine (pget_row (pktL p) p 0 HG.out.2 HZ.out B k c2 w2 ⟨HK.out, (own_cap HO2.out).1, (own_cap HO2.out).2, Rd.own HO2.out⟩).mono ?_); rintro e w3 ⟨C3, cn3, cc3, E3, en3, ec3, L3, ln3, lc3, rfl, HP3, hb5⟩; have hit3 := blk_below hit2 hb5; have hit4 := fun o => blk_below hit3 ((Below.refl w3.heap.size w3).alloc (Nat.le_refl _) o); have hb6 := hb4.trans (hb5.mono hb4.size); have hb7 := fun o => hb6.alloc hb6.size o; have HPx := Lib.hid (fun o => HP3.out.below ((Below.refl w3.heap.size w3).alloc (Nat.le_refl _) o)); have x0 := fun o => (eleven_cells (hit4 o)).1; have x1 := fun o => (eleven_cells (hit4 o)).2.1; have x2 := fun o => (eleven_cells (hit4 o)).2.2.1; have x3 := fun o => (eleven_cells (hit4 o)).2.2.2.1; have x4 := fun o => (eleven_cells (hit4 o)).2.2.2.2.1; have x5 := fun o => (eleven_cells (hit4 o)).2.2.2.2.2.1; have x6 := fun o => (eleven_cells (hit4 o)).2.2.2.2.2.2.1; have x7 := fun o => (eleven_cells (hit4 o)).2.2.2.2.2.2.2.1; have x8 := fun o => (eleven_cells (hit4 o)).2.2.2.2.2.2.2.2.1; have x9 := fun o => (eleven_cells (hit4 o)).2.2.2.2.2.2.2.2.2.1; have x10 := fun o => (eleven_cells (hit4 o)).2.2.2.2.2.2.2.2.2.2)
      | (go_at_call 31; (with_reducible refine (samePkt_row p p rfl C cn cc E en ec L ln lc C3 cn3 cc3 E3 en3 ec3 L3 ln3 lc3 _ (HP.out.below (hb7 _)) (HPx.out _)).mono ?_); rintro e w4 ⟨rfl, hb8⟩; have hit5 := blk_below (hit4 _) hb8; obtain ⟨z0, z1, z2, z3, z4, z5, z6, z7, z8, z9, z10⟩ := eleven_cells hit5; have hb9 := (hb7 _).trans (hb8.mono (hb7 _).size))
      | (go_at_call 28; (with_reducible refine (psize_row p (k : Int) HSk.out C cn cc E en ec L ln lc _ (HP.out.below hb9) be bl).mono ?_); rintro e w5 ⟨rfl, hb10⟩))
    go_ret
    exact ⟨rfl, hb9.trans (hb10.mono hb9.size)⟩
  · have HL : Hid (outP p = []) := outP_nil (by rw [h1]; decide)
    have HZ : Hid ((1 : Int) = (errP p : Nat)) := by show _ = _; rw [h1]; rfl
    have HM := Lib.hid hm
    clear h1 hm
    go_enter Try.func8, Try.ntmps8
    go_wp2_with (first
      | (go_at_call 23; (with_reducible refine (shown5_any _).mono ?_); rintro e w1 ⟨rfl, hb1⟩; have hb2 := ((Below.refl w.heap.size w).alloc (Nat.le_refl _) _).trans (hb1.mono (by simp)); have hit := blk_below (blk_alloc _ _) hb1; obtain ⟨t0, t1, t2, t3, t4, t5, t6, t7, t8, t9, t10⟩ := eleven_cells hit)
      | (go_at_call 24; (with_reducible refine (pput_row p HO.out 1 HZ.out [] HL.out 0 rfl C cn cc E en ec L ln lc _ (HP.out.below hb2) be bl).mono ?_); rintro e w2 ⟨B, c2, rfl, ho2, hb3⟩; have hit2 := blk_below hit hb3; have hb4 := hb2.trans (hb3.mono hb2.size); clear ho2 t0 t1 t2 t3 t4 t5 t6 t7 t8 t9 t10; obtain ⟨t0, t1, t2, t3, t4, t5, t6, t7, t8, t9, t10⟩ := eleven_cells hit2)
      | (go_at_call 26; (with_reducible refine (pmay_row p _ HM.out C cn cc E en ec L ln lc _ (HP.out.below hb4)).mono ?_); rintro e w3 ⟨rfl, hb5⟩; have hit3 := blk_below hit2 hb5; have hb6 := hb4.trans (hb5.mono hb4.size)))
    go_ret
    exact ⟨rfl, hb6⟩
  · have HL : Hid (outP p = []) := outP_nil (by rw [h5]; decide)
    have HZ : Hid ((5 : Int) = (errP p : Nat)) := by show _ = _; rw [h5]; rfl
    have HM := Lib.hid hm
    have hs2 : decide ((512 : Int) < ((sizeP p : Nat) : Int)) = true := by simp; omega
    clear hs
    clear h5 hm
    go_enter Try.func8, Try.ntmps8
    go_wp2_with (first
      | (go_at_call 23; (with_reducible refine (shown5_any _).mono ?_); rintro e w1 ⟨rfl, hb1⟩; have hb2 := ((Below.refl w.heap.size w).alloc (Nat.le_refl _) _).trans (hb1.mono (by simp)); have hit := blk_below (blk_alloc _ _) hb1; obtain ⟨t0, t1, t2, t3, t4, t5, t6, t7, t8, t9, t10⟩ := eleven_cells hit)
      | (go_at_call 24; (with_reducible refine (pput_row p HO.out 5 HZ.out [] HL.out 0 rfl C cn cc E en ec L ln lc _ (HP.out.below hb2) be bl).mono ?_); rintro e w2 ⟨B, c2, rfl, ho2, hb3⟩; have hit2 := blk_below hit hb3; have hb4 := hb2.trans (hb3.mono hb2.size); clear ho2 t0 t1 t2 t3 t4 t5 t6 t7 t8 t9 t10; obtain ⟨t0, t1, t2, t3, t4, t5, t6, t7, t8, t9, t10⟩ := eleven_cells hit2)
      | (go_at_call 26; (with_reducible refine (pmay_row p _ HM.out C cn cc E en ec L ln lc _ (HP.out.below hb4)).mono ?_); rintro e w3 ⟨rfl, hb5⟩; have hit3 := blk_below hit2 hb5; have hb6 := hb4.trans (hb5.mono hb4.size); clear t0 t1 t2 t3 t4 t5 t6 t7 t8 t9 t10; obtain ⟨t0, t1, t2, t3, t4, t5, t6, t7, t8, t9, t10⟩ := eleven_cells hit3)
      | (go_at_call 28; (with_reducible refine (psize_row p _ rfl C cn cc E en ec L ln lc _ (HP.out.below hb6) be bl).mono ?_); rintro e w5 ⟨rfl, hb10⟩))
    go_ret
    exact ⟨rfl, hb6.trans (hb10.mono hb6.size)⟩
namespace rtpTurn
open Go.ChangeShapes Go.WideShapes Go.ChangeAt Go.RowKit
open Go.ChangeMaps (open_string shut_string)
set_option linter.unusedVariables false

theorem own : ownKnob Try.prog.godebug = none := by kernel_rfl
theorem laidOut : laidOutB Try.prog = true := by kernel_rfl

set_option maxRecDepth 100000 in
theorem lifted (os : Os) (started : os.Started) (H : Type) (enc : TypeId × Value → H) :
    ReturnsInHanded {} Try.checked os 8 .any (Rows.rtpTurnSpec.pre6 enc Try.prog Try.f8 Rows.rtpTurnRow.domain false) (Rows.rtpTurnSpec.post enc Try.prog Try.f8 false true false false) := by
  refine returnsInHanded_of_change_sized (C := Try.checked) own started (by kernel_rfl) Try.func8
    (ChangeSpec.witness6 (enc := enc) (C := Try.checked) false ⟨#[], #[.agg #[.bool false, .int .i64 0, .int .u16 0, .int .u32 0, .int .u32 0, .slice none 0 0, .bool false, .int .u16 0, .slice none 0 0, .slice none 0 0, .int .i64 0]], []⟩ 8 (by kernel_rfl) (by kernel_rfl) (by kernel_rfl) (by kernel_rfl)) ?_
  intro W base args ds gs before hval0 hW hcnd hsz0 _
  have hsz : (DataW.weightsEach Try.prog (Try.f8.params.toList ++ Rows.rtpTurnSpec.plain.varTypes Try.prog) (ds ++ gs)).all (· ≤ reachBytes) = true := hsz0
  have hval : ∀ (j : Nat) t v, Try.f8.params[j]? = some t → args[j]? = some v → Value.okWide Try.prog W .any base t v := hval0
  have hW' := hW
  obtain ⟨p, q, hA0, hV, rfl, hfz, hnd⟩ := hW
  have hA : DataW.TrodAll enc Try.prog W 0 (fun _ => true) true Try.f8.params.toList args.toList ds p := hA0
  rw [Try.params8] at hA hval hsz
  obtain ⟨v0, vs0, d0, ds0, p0, q0, hargs, rfl, rfl, h0, r0⟩ := trodAll_cons hA
  obtain ⟨rfl, rfl, rfl⟩ := trodAll_nil r0
  obtain rfl : args = #[v0] := by cases args; simp_all
  obtain ⟨rfl, rfl⟩ := trodVars_none hV
  have k0 := h0
  have lt0 : ∀ x ∈ p0, x.block < W.heap.size := by obtain ⟨m, hm⟩ := k0; exact DataW.trod_lt m _ _ _ hm
  obtain ⟨P0, A0, n0, c0, E0, en0, ec0, L0, ln0, lc0, rfl, ra0, re0, rl0, ok0, be0, bl0⟩ := open_packet (hval 0 44 v0 rfl rfl) h0 (fun x hx => by have := List.all_eq_true.1 hsz _ (DataW.weights_mem_each (j := 0) rfl rfl x hx); simpa using this)
  clear hA0 hval0 hsz0
  refine (rtpTurn_walk P0 A0 n0 c0 E0 en0 ec0 L0 ln0 lc0 W ra0 re0 rl0 ok0 be0 bl0).mono fun e W' ⟨he, bel⟩ => ?_
  subst he
  exact ⟨_, rfl, _, _, _, [], _, [], hW', trodAll_mk1 (shut_bool Try.underlying4 _), (trodAll_cons_mk (Below.trod laidOut (by kernel_rfl) (of_decide_eq_true (by kernel_rfl)) k0 bel lt0) trodAll_mk0), rfl, bel.frame _, fun h => by cases h⟩

/-- The statement. -/
theorem proved : Rows.RtpTurnSaid :=
  OpenClaim.holds_of_wide 8 Try.f8 rfl rfl rfl rfl rfl rfl rfl ⟨rfl, rfl, rfl, rfl, rfl⟩ rfl rfl rfl rfl rfl (by kernel_rfl) Try.func8 (by kernel_rfl)
    (of_decide_eq_true (by kernel_rfl)) (by unfold Func.isWrapper; rw [if_neg (of_decide_eq_false (by kernel_rfl))]; exact ⟨rfl, rfl⟩)
    (fun os started H enc _ => lifted os started H enc)
#print axioms proved
end rtpTurn
end Go.Proofs.Ytnkclbaeamcplaa
