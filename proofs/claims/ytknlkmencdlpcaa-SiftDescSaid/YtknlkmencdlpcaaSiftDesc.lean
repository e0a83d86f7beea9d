/-
SiftDesc: for an encoded packet, Of returns the error and the descriptor that desc.Get returns for its payload, and a Media if there is no error. For every packet.
-/
import Derived.Test.YtknlkmencdlpcaaSf7
import Derived.Test.YtknlkmencdlpcaaItmFrame
import Derived.Test.YtknlkmencdlpcaaRows
namespace Go.Proofs.Ytknlkmencdlpcaa
set_option linter.unusedVariables false
set_option linter.unusedSimpArgs false
open Go Go.RowKit

theorem dget_err {l : List UInt8} (h : dE l ≠ 0) : (dL l : Int) = 0 ∧ dK l = false ∧ dS l = false ∧ (dF l : Int) = 0 := by
  have e : dOk l = false := by unfold dOk; simpa using h
  simp [dL, dK, dS, dF, e]
set_option maxRecDepth 20000 in
set_option maxHeartbeats 4000000 in
theorem siftDesc_walk (p : Pkt) (C : Option Addr) (cn cc : Nat) (E : Option Addr) (en ec : Nat) (L : Option Addr) (ln lc : Nat) (w : World)
    (ra : Row w C cn cc 1 4 (u32s p.cs)) (re : Row w E en ec 1 1 (bys p.ex)) (rl : Row w L ln lc 1 1 (bys p.pl)) (ok : p.Ok) (be : en ≤ 140737488351232) (bl : ln ≤ 140737488351232) :
    Calls Try.prog 11 #[.agg #[.bool p.mr, .int .i64 p.ty, .int .u16 p.sq, .int .u32 p.tm, .int .u32 p.ss, .slice C cn cc, .bool p.hx, .int .u16 p.pf, .slice E en ec, .slice L ln lc, .int .i64 p.pad]] w fun e w' => e = .returned (.bool true) ∧ Below w.heap.size w w' := by
  have HP : Hid (PRow w p C cn cc E en ec L ln lc) := ⟨ra, re, rl⟩
  have HO := Lib.hid ok
  clear ra re rl ok
  obtain ⟨Z, hZ⟩ : ∃ Z : Int, Z = (errP p : Nat) := ⟨_, rfl⟩
  obtain ⟨l, hl⟩ : ∃ l, outP p = l := ⟨_, rfl⟩
  obtain ⟨m, hm⟩ : ∃ m, l.length = m := ⟨_, rfl⟩
  have HS := Lib.hid (And.intro hZ (And.intro hl hm))
  by_cases h0 : errP p = 0
  · obtain ⟨hlk, hgp⟩ := get_put5 HO.out h0
    have e : pktL p = l := by rw [← hl, outP_yes h0]
    rw [e] at hlk hgp
    have hml : l.length ≤ 512 ∧ 2 ≤ l.length ∧ fbB (byteN l 1) = false := by obtain ⟨a1, a2, _, a3, _⟩ := look_ok hlk; exact ⟨a1, by omega, a3⟩
    obtain ⟨g2, g3⟩ := getP_lens l
    rw [hgp] at g2 g3
    have hcs : p.cs.length ≤ 15 := by
      have := (err_may h0).1
      unfold mayP at this
      simp at this
      exact this.2.2.1.1
    have hZ0 : Z = 0 := by rw [hZ, h0]; rfl
    subst hZ0
    have HL := Lib.hid (And.intro hlk (And.intro hgp (And.intro hml (And.intro hcs (And.intro g2 g3)))))
    obtain ⟨Y, hY⟩ : ∃ Y, dE p.pl = Y := ⟨_, rfl⟩
    obtain ⟨dl, dk, ds, df, e1, e2, e3, e4⟩ : ∃ (dl : Int) (dk ds : Bool) (df : Int), (dL p.pl : Int) = dl ∧ dK p.pl = dk ∧ dS p.pl = ds ∧ (dF p.pl : Int) = df := ⟨_, _, _, _, rfl, rfl, rfl, rfl⟩
    by_cases hy : Y = 0
    · subst hy
      have HD := Lib.hid (And.intro e1 (And.intro e2 (And.intro e3 (And.intro e4 hY))))
      clear hZ hl hm h0 hlk hgp e hml g2 g3 hcs hY e1 e2 e3 e4
      go_enter Try.func11, Try.ntmps11
      go_wp2_with (first
        | (go_at_call 66; (with_reducible refine (shown10_any _).mono ?_); rintro e w1 ⟨rfl, hb1⟩; have hB1 := below_next (al_b w (.cells #[.bool p.mr, .int .i64 p.ty, .int .u16 p.sq, .int .u32 p.tm, .int .u32 p.ss, .slice C cn cc, .bool p.hx, .int .u16 p.pf, .slice E en ec, .slice L ln lc, .int .i64 p.pad] 39)) hb1; have hp1 := blk_below (heap_alloc_new w (.cells #[.bool p.mr, .int .i64 p.ty, .int .u16 p.sq, .int .u32 p.tm, .int .u32 p.ss, .slice C cn cc, .bool p.hx, .int .u16 p.pf, .slice E en ec, .slice L ln lc, .int .i64 p.pad] 39)) hb1; obtain ⟨x0, x1, x2, x3, x4, x5, x6, x7, x8, x9, x10⟩ := eleven_cells hp1)
        | (go_at_call 73; (with_reducible refine (pput_row p HO.out 0 HS.out.1 l HS.out.2.1 m HS.out.2.2 C cn cc E en ec L ln lc w1 (HP.out.below hB1) be bl).mono ?_); rintro e w2 ⟨B2, c2, rfl, ho2, hb2⟩; have hB2 := below_next hB1 hb2; have hp2 := blk_below hp1 hb2; obtain ⟨x0, x1, x2, x3, x4, x5, x6, x7, x8, x9, x10⟩ := eleven_cells hp2)
        | (go_at_call 74; (with_reducible refine (dget_z L ln lc p.pl dl dk ds df 0 HD.out.1 HD.out.2.1 HD.out.2.2.1 HD.out.2.2.2.1 HD.out.2.2.2.2 w2 (prow_bts (HP.out.below hB2))).mono ?_); rintro e w3 ⟨rfl, hb3⟩; have hB3 := below_al (below_next hB2 hb3) (.cells #[.int .i64 dl, .bool dk, .bool ds, .int .u16 df] 109); have hd3 := heap_alloc_new w3 (.cells #[.int .i64 dl, .bool dk, .bool ds, .int .u16 df] 109); have ho3 := (ho2.kept (own_below hb3) (own_none _)).kept (own_below (al_b w3 (.cells #[.int .i64 dl, .bool dk, .bool ds, .int .u16 df] 109))) (own_none _))
        | (go_at_call 67; (with_reducible refine (of_md l p dl dk ds df HL.out.1 HL.out.2.1 HD.out.2.2.2.2 HD.out.1 HD.out.2.1 HD.out.2.2.1 HD.out.2.2.2.1 B2 m c2 _ (own_bts ho3)).mono ?_); rintro e w4 ⟨C4, cn4, cc4, E4, en4, ec4, L4, ln4, lc4, rfl, HR4, hb4⟩; have hB4 := below_next hB3 hb4; have hd4 := blk_below hd3 hb4)
        | (go_at_call 70; (with_reducible refine (flat_m p C4 cn4 cc4 E4 en4 ec4 L4 ln4 lc4 dl dk ds df w4 HR4.out (by have := HR4.out.hcn; have := HL.out.2.2.2.1; omega) (by have := HR4.out.hen; have := HL.out.2.2.2.2.1; omega) (by have := HR4.out.hln; have := HL.out.2.2.2.2.2; omega)).mono ?_); rintro e w5 ⟨C5, cc5, E5, ec5, L5, lc5, rfl, HR5, hb5⟩; have hB5 := below_al (below_al (below_next hB4 hb5) (.cells #[.bool p.mr, .int .i64 p.ty, .int .u16 p.sq, .int .u32 p.tm, .int .u32 p.ss, .slice C5 cn4 cc5, .bool p.hx, .int .u16 p.pf, .slice E5 en4 ec5, .slice L5 ln4 lc5, .int .i64 p.pad] 39)) (.cells #[.int .i64 dl, .bool dk, .bool ds, .int .u16 df] 109); have hd5 := al_keep (al_keep (blk_below hd4 hb5) (.cells #[.bool p.mr, .int .i64 p.ty, .int .u16 p.sq, .int .u32 p.tm, .int .u32 p.ss, .slice C5 cn4 cc5, .bool p.hx, .int .u16 p.pf, .slice E5 en4 ec5, .slice L5 ln4 lc5, .int .i64 p.pad] 39)) (.cells #[.int .i64 dl, .bool dk, .bool ds, .int .u16 df] 109); have hy5 := heap_alloc_new (w5.alloc (.cells #[.bool p.mr, .int .i64 p.ty, .int .u16 p.sq, .int .u32 p.tm, .int .u32 p.ss, .slice C5 cn4 cc5, .bool p.hx, .int .u16 p.pf, .slice E5 en4 ec5, .slice L5 ln4 lc5, .int .i64 p.pad] 39)) (.cells #[.int .i64 dl, .bool dk, .bool ds, .int .u16 df] 109); rw [al_size] at hy5; obtain ⟨d0, d1, d2, d3⟩ := row4_cells hd5; obtain ⟨y0, y1, y2, y3⟩ := row4_cells hy5)
        | (go_at_call 69; (with_reducible refine (kind_m p C4 cn4 cc4 E4 en4 ec4 L4 ln4 lc4 dl dk ds df _).mono ?_); rintro e w6 ⟨rfl, hb6⟩; have hB6 := below_next hB5 hb6))
      go_ret
      exact ⟨rfl, hB6⟩
    · obtain ⟨f1, f2, f3, f4⟩ := dget_err (l := p.pl) (by rw [hY]; exact hy)
      have hev : evE l = Y := by
        unfold evE
        rw [if_neg (by omega), if_neg (by omega), hml.2.2, if_neg (by decide), mE_yes hgp hlk]
        exact hY
      have HV := Lib.hid (And.intro hev hy)
      have HD := Lib.hid (And.intro f1 (And.intro f2 (And.intro f3 (And.intro f4 hY))))
      have k1 : (Y != 0) = true := by simpa using hy
      clear hZ hl hm h0 hlk hgp e hml g2 g3 hcs hY e1 e2 e3 e4 hev hy f1 f2 f3 f4
      go_enter Try.func11, Try.ntmps11
      go_wp2_with (first
        | (go_at_call 66; (with_reducible refine (shown10_any _).mono ?_); rintro e w1 ⟨rfl, hb1⟩; have hB1 := below_next (al_b w (.cells #[.bool p.mr, .int .i64 p.ty, .int .u16 p.sq, .int .u32 p.tm, .int .u32 p.ss, .slice C cn cc, .bool p.hx, .int .u16 p.pf, .slice E en ec, .slice L ln lc, .int .i64 p.pad] 39)) hb1; have hp1 := blk_below (heap_alloc_new w (.cells #[.bool p.mr, .int .i64 p.ty, .int .u16 p.sq, .int .u32 p.tm, .int .u32 p.ss, .slice C cn cc, .bool p.hx, .int .u16 p.pf, .slice E en ec, .slice L ln lc, .int .i64 p.pad] 39)) hb1; obtain ⟨x0, x1, x2, x3, x4, x5, x6, x7, x8, x9, x10⟩ := eleven_cells hp1)
        | (go_at_call 73; (with_reducible refine (pput_row p HO.out 0 HS.out.1 l HS.out.2.1 m HS.out.2.2 C cn cc E en ec L ln lc w1 (HP.out.below hB1) be bl).mono ?_); rintro e w2 ⟨B2, c2, rfl, ho2, hb2⟩; have hB2 := below_next hB1 hb2; have hp2 := blk_below hp1 hb2; obtain ⟨x0, x1, x2, x3, x4, x5, x6, x7, x8, x9, x10⟩ := eleven_cells hp2)
        | (go_at_call 74; (with_reducible refine (dget_z L ln lc p.pl 0 false false 0 Y HD.out.1 HD.out.2.1 HD.out.2.2.1 HD.out.2.2.2.1 HD.out.2.2.2.2 w2 (prow_bts (HP.out.below hB2))).mono ?_); rintro e w3 ⟨rfl, hb3⟩; have hB3 := below_al (below_next hB2 hb3) (.cells #[.int .i64 0, .bool false, .bool false, .int .u16 0] 109); have hd3 := heap_alloc_new w3 (.cells #[.int .i64 0, .bool false, .bool false, .int .u16 0] 109); have ho3 := (ho2.kept (own_below hb3) (own_none _)).kept (own_below (al_b w3 (.cells #[.int .i64 0, .bool false, .bool false, .int .u16 0] 109))) (own_none _))
        | (go_at_call 67; (with_reducible refine (of_no l Y HV.out.1 HV.out.2 B2 m c2 _ (own_bts ho3)).mono ?_); rintro e w4 ⟨rfl, hb4⟩; have hB4 := below_next hB3 hb4; have hd4 := blk_below hd3 hb4)
        | (go_at_call 70; (with_reducible refine (flat_n w4).mono ?_); rintro e w5 ⟨rfl, hb5⟩; have hB5 := below_al (below_al (below_next hB4 hb5) (.cells #[.bool false, .int .i64 0, .int .u16 0, .int .u32 0, .int .u32 0, .slice none 0 0, .bool false, .int .u16 0, .slice none 0 0, .slice none 0 0, .int .i64 0] 39)) (.cells #[.int .i64 0, .bool false, .bool false, .int .u16 0] 109); have hd5 := al_keep (al_keep (blk_below hd4 hb5) (.cells #[.bool false, .int .i64 0, .int .u16 0, .int .u32 0, .int .u32 0, .slice none 0 0, .bool false, .int .u16 0, .slice none 0 0, .slice none 0 0, .int .i64 0] 39)) (.cells #[.int .i64 0, .bool false, .bool false, .int .u16 0] 109); have hy5 := heap_alloc_new (w5.alloc (.cells #[.bool false, .int .i64 0, .int .u16 0, .int .u32 0, .int .u32 0, .slice none 0 0, .bool false, .int .u16 0, .slice none 0 0, .slice none 0 0, .int .i64 0] 39)) (.cells #[.int .i64 0, .bool false, .bool false, .int .u16 0] 109); rw [al_size] at hy5; obtain ⟨d0, d1, d2, d3⟩ := row4_cells hd5; obtain ⟨y0, y1, y2, y3⟩ := row4_cells hy5))
      go_ret
      exact ⟨rfl, hB5⟩
  · have k1 : (Z != 0) = true := by rw [hZ]; simp; omega
    clear hZ hl hm h0
    go_enter Try.func11, Try.ntmps11
    go_wp2_with (first
      | (go_at_call 66; (with_reducible refine (shown10_any _).mono ?_); rintro e w1 ⟨rfl, hb1⟩; have hB1 := below_next (al_b w (.cells #[.bool p.mr, .int .i64 p.ty, .int .u16 p.sq, .int .u32 p.tm, .int .u32 p.ss, .slice C cn cc, .bool p.hx, .int .u16 p.pf, .slice E en ec, .slice L ln lc, .int .i64 p.pad] 39)) hb1; have hp1 := blk_below (heap_alloc_new w (.cells #[.bool p.mr, .int .i64 p.ty, .int .u16 p.sq, .int .u32 p.tm, .int .u32 p.ss, .slice C cn cc, .bool p.hx, .int .u16 p.pf, .slice E en ec, .slice L ln lc, .int .i64 p.pad] 39)) hb1; obtain ⟨x0, x1, x2, x3, x4, x5, x6, x7, x8, x9, x10⟩ := eleven_cells hp1)
      | (go_at_call 73; (with_reducible refine (pput_row p HO.out Z HS.out.1 l HS.out.2.1 m HS.out.2.2 C cn cc E en ec L ln lc w1 (HP.out.below hB1) be bl).mono ?_); rintro e w2 ⟨B2, c2, rfl, ho2, hb2⟩; have hB2 := below_next hB1 hb2; have hp2 := blk_below hp1 hb2; obtain ⟨x0, x1, x2, x3, x4, x5, x6, x7, x8, x9, x10⟩ := eleven_cells hp2))
    go_ret
    exact ⟨rfl, hB2⟩
namespace siftDesc
open Go.ChangeShapes Go.WideShapes Go.ChangeAt Go.RowKit
open Go.ChangeMaps (open_string shut_string)
set_option linter.unusedVariables false

theorem own : ownKnob Try.prog.godebug = none := by kernel_rfl
theorem laidOut : laidOutB Try.prog = true := by kernel_rfl

set_option maxRecDepth 100000 in
theorem lifted (os : Os) (started : os.Started) (H : Type) (enc : TypeId × Value → H) :
    ReturnsInHanded {} Try.checked os 11 .any (Rows.siftDescSpec.pre6 enc Try.prog Try.f11 Rows.siftDescRow.domain false) (Rows.siftDescSpec.post enc Try.prog Try.f11 false true false false) := by
  refine returnsInHanded_of_change_sized (C := Try.checked) own started (by kernel_rfl) Try.func11
    (ChangeSpec.witness6 (enc := enc) (C := Try.checked) false ⟨#[], #[.agg #[.bool false, .int .i64 0, .int .u16 0, .int .u32 0, .int .u32 0, .slice none 0 0, .bool false, .int .u16 0, .slice none 0 0, .slice none 0 0, .int .i64 0]], []⟩ 8 (by kernel_rfl) (by kernel_rfl) (by kernel_rfl) (by kernel_rfl)) ?_
  intro W base args ds gs before hval0 hW hcnd hsz0 _
  have hsz : (DataW.weightsEach Try.prog (Try.f11.params.toList ++ Rows.siftDescSpec.plain.varTypes Try.prog) (ds ++ gs)).all (· ≤ reachBytes) = true := hsz0
  have hval : ∀ (j : Nat) t v, Try.f11.params[j]? = some t → args[j]? = some v → Value.okWide Try.prog W .any base t v := hval0
  have hW' := hW
  obtain ⟨p, q, hA0, hV, rfl, hfz, hnd⟩ := hW
  have hA : DataW.TrodAll enc Try.prog W 0 (fun _ => true) true Try.f11.params.toList args.toList ds p := hA0
  rw [Try.params11] at hA hval hsz
  obtain ⟨v0, vs0, d0, ds0, p0, q0, hargs, rfl, rfl, h0, r0⟩ := trodAll_cons hA
  obtain ⟨rfl, rfl, rfl⟩ := trodAll_nil r0
  obtain rfl : args = #[v0] := by cases args; simp_all
  obtain ⟨rfl, rfl⟩ := trodVars_none hV
  have k0 := h0
  have lt0 : ∀ x ∈ p0, x.block < W.heap.size := by obtain ⟨m, hm⟩ := k0; exact DataW.trod_lt m _ _ _ hm
  obtain ⟨P0, A0, n0, c0, E0, en0, ec0, L0, ln0, lc0, rfl, ra0, re0, rl0, ok0, be0, bl0⟩ := open_packet (hval 0 39 v0 rfl rfl) h0 (fun x hx => by have := List.all_eq_true.1 hsz _ (DataW.weights_mem_each (j := 0) rfl rfl x hx); simpa using this)
  clear hA0 hval0 hsz0
  refine (siftDesc_walk P0 A0 n0 c0 E0 en0 ec0 L0 ln0 lc0 W ra0 re0 rl0 ok0 be0 bl0).mono fun e W' ⟨he, bel⟩ => ?_
  subst he
  exact ⟨_, rfl, _, _, _, [], _, [], hW', trodAll_mk1 (shut_bool Try.underlying4 _), (trodAll_cons_mk (Below.trod laidOut (by kernel_rfl) (of_decide_eq_true (by kernel_rfl)) k0 bel lt0) trodAll_mk0), rfl, bel.frame _, fun h => by cases h⟩

/-- The statement. -/
theorem proved : Rows.SiftDescSaid :=
  OpenClaim.holds_of_wide 11 Try.f11 rfl rfl rfl rfl rfl rfl rfl ⟨rfl, rfl, rfl, rfl, rfl⟩ rfl rfl rfl rfl rfl (by kernel_rfl) Try.func11 (by kernel_rfl)
    (of_decide_eq_true (by kernel_rfl)) (by unfold Func.isWrapper; rw [if_neg (of_decide_eq_false (by kernel_rfl))]; exact ⟨rfl, rfl⟩)
    (fun os started H enc _ => lifted os started H enc)
#print axioms proved
end siftDesc
end Go.Proofs.Ytknlkmencdlpcaa
