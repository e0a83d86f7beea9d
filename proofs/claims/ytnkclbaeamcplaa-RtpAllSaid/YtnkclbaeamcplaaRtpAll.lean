/-
RtpAll: any packet's bytes, how many, whether it may be, or what is wrong: as the document says. For every packet.
-/
import Derived.Test.YtnkclbaeamcplaaRtpTurn
import Derived.Test.YtnkclbaeamcplaaRtpU
import Derived.Test.YtnkclbaeamcplaaRegA
namespace Go.Proofs.Ytnkclbaeamcplaa
set_option linter.unusedVariables false
set_option linter.unusedSimpArgs false
open Go Go.RowKit

section
variable (p : Pkt) (C : Option Addr) (cn cc : Nat) (E : Option Addr) (en ec : Nat) (L : Option Addr) (ln lc : Nat) (w : World)
theorem rmayP_row (b : Bool) (hb : mayP p = b) (h : PRow w p C cn cc E en ec L ln lc) (hen : en ≤ 140737488351232) :
    Calls Try.prog 27 #[.agg #[.bool p.mr, .int .i64 p.ty, .int .u16 p.sq, .int .u32 p.tm, .int .u32 p.ss, .slice C cn cc, .bool p.hx, .int .u16 p.pf, .slice E en ec, .slice L ln lc, .int .i64 p.pad]] w fun e w' => e = .returned (.bool b) ∧ Below w.heap.size w w' := by
  subst hb; exact rmayP_any p C cn cc E en ec L ln lc w h.hcn h.hen hen
theorem rsizeP_row (S : Nat) (hS : sizeP p = S) (h : PRow w p C cn cc E en ec L ln lc) (b2 : en ≤ 140737488351232) (b3 : ln ≤ 140737488351232) :
    Calls Try.prog 29 #[.agg #[.bool p.mr, .int .i64 p.ty, .int .u16 p.sq, .int .u32 p.tm, .int .u32 p.ss, .slice C cn cc, .bool p.hx, .int .u16 p.pf, .slice E en ec, .slice L ln lc, .int .i64 p.pad]] w fun e w' => e = .returned (.int .i64 (S : Int)) ∧ Below w.heap.size w w' := by
  subst hS; exact rsizeP_any p C cn cc E en ec L ln lc w h.hcn h.hen h.hln b2 b3
set_option maxRecDepth 20000 in
set_option maxHeartbeats 1000000 in
theorem rpput_no (hz : errP p ≠ 0) (h : PRow w p C cn cc E en ec L ln lc) (b2 : en ≤ 140737488351232) (b3 : ln ≤ 140737488351232) :
    Calls Try.prog 25 #[.agg #[.bool p.mr, .int .i64 p.ty, .int .u16 p.sq, .int .u32 p.tm, .int .u32 p.ss, .slice C cn cc, .bool p.hx, .int .u16 p.pf, .slice E en ec, .slice L ln lc, .int .i64 p.pad]] w fun e w' =>
      e = .returned (.tuple #[.slice none 0 0, .int .i64 (errP p : Nat)]) ∧ Below w.heap.size w w' := by
  have HP := Lib.hid h
  clear h
  rcases err_cases p with ⟨h0, _⟩ | ⟨h1, hm⟩ | ⟨h5, hm, hs⟩
  · exact absurd h0 hz
  · have HM := Lib.hid hm
    have HE := Lib.hid h1
    clear hz h1 hm
    go_enter Try.func25, Try.ntmps25
    go_wp2_with (go_at_call 27; (with_reducible refine (rmayP_row p C cn cc E en ec L ln lc _ false HM.out (HP.out.below ((Below.refl _ _).alloc (Nat.le_refl _) _)) b2).mono ?_); rintro e w1 ⟨rfl, hb1⟩)
    go_ret2
    exact ⟨by rw [HE.out]; rfl, ((Below.refl w.heap.size w).alloc (Nat.le_refl _) _).trans (hb1.mono (by simp))⟩
  · have HM := Lib.hid hm
    have HE := Lib.hid h5
    have hs2 : decide ((512 : Int) < ((sizeP p : Nat) : Int)) = true := by simp; omega
    clear hz h5 hm hs
    go_enter Try.func25, Try.ntmps25
    go_wp2_with (first
      | (go_at_call 27; (with_reducible refine (rmayP_row p C cn cc E en ec L ln lc _ true HM.out (HP.out.below ((Below.refl _ _).alloc (Nat.le_refl _) _)) b2).mono ?_); rintro e w1 ⟨rfl, hb1⟩; have hb2 := ((Below.refl w.heap.size w).alloc (Nat.le_refl _) _).trans (hb1.mono (by simp)); have hit := blk_below (blk_alloc _ _) hb1; obtain ⟨x0, x1, x2, x3, x4, x5, x6, x7, x8, x9, x10⟩ := eleven_cells hit)
      | (go_at_call 29; (with_reducible refine (rsizeP_row p C cn cc E en ec L ln lc _ _ rfl (HP.out.below hb2) b2 b3).mono ?_); rintro e w2 ⟨rfl, hb3⟩))
    go_ret2
    exact ⟨by rw [HE.out]; rfl, hb2.trans (hb3.mono hb2.size)⟩
/-- Put of package sluicegateref4: the packet's bytes, or what is wrong. -/
theorem rpput_row (ok : p.Ok) (Z : Int) (hZ : Z = (errP p : Nat)) (l : List UInt8) (hl : outP p = l) (k : Nat) (hk : l.length = k) (h : PRow w p C cn cc E en ec L ln lc) (b2 : en ≤ 140737488351232) (b3 : ln ≤ 140737488351232) :
    Calls Try.prog 25 #[.agg #[.bool p.mr, .int .i64 p.ty, .int .u16 p.sq, .int .u32 p.tm, .int .u32 p.ss, .slice C cn cc, .bool p.hx, .int .u16 p.pf, .slice E en ec, .slice L ln lc, .int .i64 p.pad]] w fun e w' =>
      ∃ B c', e = .returned (.tuple #[.slice B k c', .int .i64 Z]) ∧ w'.ownsRow w.heap.size 5 1 (.slice B k c') k (bys l) ∧ Below w.heap.size w w' := by
  subst hZ hl hk
  by_cases hz : errP p = 0
  · obtain ⟨hm, _⟩ := err_may hz
    obtain ⟨m1, _, _, m4, _⟩ := mayP_parts hm
    obtain ⟨P, hP⟩ : ∃ P : Nat, p.pad = P := ⟨p.pad.toNat, by omega⟩
    obtain ⟨T, hT⟩ : ∃ T : Nat, p.ty = T := ⟨p.ty.toNat, by omega⟩
    have key := rpput_yes p C cn cc E en ec L ln lc w p.hx p.mr P T rfl rfl hP hT h.rc h.re h.rl ok b2 b3 hz
    rw [← hP, ← hT] at key
    refine key.mono ?_
    rintro e w' ⟨B, c', rfl, ho, hb⟩
    rw [outP_yes hz, sizeP_len hm, hz]
    exact ⟨B, c', rfl, ho, hb⟩
  · refine (rpput_no p C cn cc E en ec L ln lc w hz h b2 b3).mono ?_
    rintro e w' ⟨rfl, hb⟩
    rw [outP_nil hz]
    exact ⟨none, 0, rfl, World.ownsRow_nil _ _ _ _, hb⟩
end
theorem below_next {w w1 w2 : World} (h : Below w.heap.size w w1) (h2 : Below w1.heap.size w1 w2) : Below w.heap.size w w2 := h.trans (h2.mono h.size)
set_option maxRecDepth 20000 in
set_option maxHeartbeats 4000000 in
theorem rtpAll_walk (p : Pkt) (C : Option Addr) (cn cc : Nat) (E : Option Addr) (en ec : Nat) (L : Option Addr) (ln lc : Nat) (w : World)
    (ra : Row w C cn cc 1 4 (u32s p.cs)) (re : Row w E en ec 1 1 (bys p.ex)) (rl : Row w L ln lc 1 1 (bys p.pl)) (ok : p.Ok) (be : en ≤ 140737488351232) (bl : ln ≤ 140737488351232) :
    Calls Try.prog 7 #[.agg #[.bool p.mr, .int .i64 p.ty, .int .u16 p.sq, .int .u32 p.tm, .int .u32 p.ss, .slice C cn cc, .bool p.hx, .int .u16 p.pf, .slice E en ec, .slice L ln lc, .int .i64 p.pad]] w fun e w' => e = .returned (.bool true) ∧ Below w.heap.size w w' := by
  have HP : Hid (PRow w p C cn cc E en ec L ln lc) := ⟨ra, re, rl⟩
  have HO := Lib.hid ok
  clear ra re rl ok
  obtain ⟨z, hz⟩ : ∃ z, errP p = z := ⟨_, rfl⟩
  have HZ : Hid ((z : Int) = (errP p : Nat)) := by show _ = _; rw [hz]
  obtain ⟨l, hl⟩ : ∃ l, outP p = l := ⟨_, rfl⟩
  have HL := Lib.hid hl
  obtain ⟨k, hk⟩ : ∃ k, l.length = k := ⟨_, rfl⟩
  have HK := Lib.hid hk
  obtain ⟨b, hb⟩ : ∃ b, mayP p = b := ⟨_, rfl⟩
  have HM := Lib.hid hb
  obtain ⟨s, hs⟩ : ∃ s, sizeP p = s := ⟨_, rfl⟩
  have HS := Lib.hid hs
  have HSI : Hid ((s : Int) = (sizeP p : Nat)) := by show _ = _; rw [hs]
  clear hz hl hk hb hs
  go_enter Try.func7, Try.ntmps7
  go_wp2_with (first
    | (go_at_call 23; (with_reducible refine (shown5_any _).mono ?_); rintro e w1 ⟨rfl, hb1⟩; have hb2 := ((Below.refl w.heap.size w).alloc (Nat.le_refl _) _).trans (hb1.mono (by simp)); have hit := blk_below (blk_alloc _ _) hb1; obtain ⟨x0, x1, x2, x3, x4, x5, x6, x7, x8, x9, x10⟩ := eleven_cells hit)
    | (go_at_call 24; (with_reducible refine (pput_row p HO.out (z : Int) HZ.out l HL.out k HK.out C cn cc E en ec L ln lc _ (HP.out.below hb2) be bl).mono ?_); rintro e w2 ⟨B, c2, rfl, ho2, hb3⟩; have hit2 := blk_below hit hb3; have hb4 := hb2.trans (hb3.mono hb2.size); have HO2 := Lib.hid ho2; clear ho2 x0 x1 x2 x3 x4 x5 x6 x7 x8 x9 x10; obtain ⟨x0, x1, x2, x3, x4, x5, x6, x7, x8, x9, x10⟩ := eleven_cells hit2)
    | (go_at_call 25; (with_reducible refine (rpput_row p C cn cc E en ec L ln lc _ HO.out (z : Int) HZ.out l HL.out k HK.out (HP.out.below hb4) be bl).mono ?_); rintro e w3 ⟨B3, c3, rfl, ho3, hb5⟩; have hit3 := blk_below hit2 hb5; have hb6 := hb4.trans (hb5.mono hb4.size); have HO3 := Lib.hid ho3; have HO4 := Lib.hid (HO2.out.kept (own_below hb5) (own_none _)); clear ho3 x0 x1 x2 x3 x4 x5 x6 x7 x8 x9 x10))
  refine region_planA (calmB_sound _) (.fork [0, 1, 2, 3, 4, 5, 6, 7, 8, 9, 10, 11] (.fork [13, 12, 14, 15, 16, 17, 18] (.leaf [20, 19, 21, 22, 23, 24]) (.leaf [19, 20, 21, 22, 23, 24])) (.fork [12, 13, 14, 15, 16, 17, 18] (.leaf [20, 19, 21, 22, 23, 24]) (.leaf [19, 20, 21, 22, 23, 24]))) (by kernel_rfl) (by kernel_rfl) (by kernel_rfl) ?_
  have hb7 : Below w.heap.size w w3.drew := hb6.drew
  have hit4 := blk_below hit3 ((Below.refl w3.heap.size w3).drew)
  have v1 : (convert 30 9 (.slice B k c2)).run Try.prog w3.drew = .ok (.string ⟨l.toArray⟩) w3.drew := cv_rd HK.out ((Rd.own HO4.out).drew)
  have v2 : (convert 30 9 (.slice B3 k c3)).run Try.prog w3.drew = .ok (.string ⟨l.toArray⟩) w3.drew := cv_rd HK.out ((Rd.own HO3.out).drew)
  obtain ⟨x0, x1, x2, x3, x4, x5, x6, x7, x8, x9, x10⟩ := eleven_cells hit4
  clear hb1 hb2 hb3 hb4 hb5 hb6 hit hit2 hit3
  generalize w3.drew = w4 at *
  refine wpPlan_fork fun P1 hP1 => ?_
  simp only [List.filterMap_cons, List.filterMap_nil, List.getElem?_toArray, List.getElem?_cons_succ, List.getElem?_cons_zero]
  change wpList _ _ _ [_, _, _, _, _, _, _, _, _, _, _, _] _ _
  go_wp2
  refine hP1 _ _ ?_ ?_
  · refine wpPlan_fork fun P2 hP2 => ?_
    simp only [List.filterMap_cons, List.filterMap_nil, List.getElem?_toArray, List.getElem?_cons_succ, List.getElem?_cons_zero]
    change wpList _ _ _ [_, _, _, _, _, _, _] _ _
    go_wp2_with (first | (go_at_call 26; (with_reducible refine (pmay_row p b HM.out C cn cc E en ec L ln lc _ ?hP).mono ?_); (case hP => exact HP.out.below (by assumption)); rintro e wA ⟨rfl, hbn⟩; have hbA := below_next (w := w) (by assumption) hbn; have hitA := blk_below (g := w.heap.size) (o := (.cells #[.bool p.mr, .int .i64 p.ty, .int .u16 p.sq, .int .u32 p.tm, .int .u32 p.ss, .slice C cn cc, .bool p.hx, .int .u16 p.pf, .slice E en ec, .slice L ln lc, .int .i64 p.pad] 44)) (by assumption) hbn; obtain ⟨x0, x1, x2, x3, x4, x5, x6, x7, x8, x9, x10⟩ := eleven_cells hitA; clear hbn) | (go_at_call 27; (with_reducible refine (rmayP_row p C cn cc E en ec L ln lc _ b HM.out ?hP be).mono ?_); (case hP => exact HP.out.below (by assumption)); rintro e wA ⟨rfl, hbn⟩; have hbA := below_next (w := w) (by assumption) hbn; have hitA := blk_below (g := w.heap.size) (o := (.cells #[.bool p.mr, .int .i64 p.ty, .int .u16 p.sq, .int .u32 p.tm, .int .u32 p.ss, .slice C cn cc, .bool p.hx, .int .u16 p.pf, .slice E en ec, .slice L ln lc, .int .i64 p.pad] 44)) (by assumption) hbn; obtain ⟨x0, x1, x2, x3, x4, x5, x6, x7, x8, x9, x10⟩ := eleven_cells hitA; clear hbn) | (go_at_call 28; (with_reducible refine (psize_row p (s : Int) HSI.out C cn cc E en ec L ln lc _ ?hP be bl).mono ?_); (case hP => exact HP.out.below (by assumption)); rintro e wA ⟨rfl, hbn⟩; have hbA := below_next (w := w) (by assumption) hbn; have hitA := blk_below (g := w.heap.size) (o := (.cells #[.bool p.mr, .int .i64 p.ty, .int .u16 p.sq, .int .u32 p.tm, .int .u32 p.ss, .slice C cn cc, .bool p.hx, .int .u16 p.pf, .slice E en ec, .slice L ln lc, .int .i64 p.pad] 44)) (by assumption) hbn; obtain ⟨x0, x1, x2, x3, x4, x5, x6, x7, x8, x9, x10⟩ := eleven_cells hitA; clear hbn) | (go_at_call 29; (with_reducible refine (rsizeP_row p C cn cc E en ec L ln lc _ s HS.out ?hP be bl).mono ?_); (case hP => exact HP.out.below (by assumption)); rintro e wA ⟨rfl, hbn⟩; have hbA := below_next (w := w) (by assumption) hbn; have hitA := blk_below (g := w.heap.size) (o := (.cells #[.bool p.mr, .int .i64 p.ty, .int .u16 p.sq, .int .u32 p.tm, .int .u32 p.ss, .slice C cn cc, .bool p.hx, .int .u16 p.pf, .slice E en ec, .slice L ln lc, .int .i64 p.pad] 44)) (by assumption) hbn; obtain ⟨x0, x1, x2, x3, x4, x5, x6, x7, x8, x9, x10⟩ := eleven_cells hitA; clear hbn))
    refine hP2 _ _ ?_ ?_
    · refine wpPlan_leaf fun P3 hP3 => ?_
      simp only [List.filterMap_cons, List.filterMap_nil, List.getElem?_toArray, List.getElem?_cons_succ, List.getElem?_cons_zero]
      change wpList _ _ _ [_, _, _, _, _, _] _ _
      go_wp2_with (first | (go_at_call 26; (with_reducible refine (pmay_row p b HM.out C cn cc E en ec L ln lc _ ?hP).mono ?_); (case hP => exact HP.out.below (by assumption)); rintro e wA ⟨rfl, hbn⟩; have hbA := below_next (w := w) (by assumption) hbn; have hitA := blk_below (g := w.heap.size) (o := (.cells #[.bool p.mr, .int .i64 p.ty, .int .u16 p.sq, .int .u32 p.tm, .int .u32 p.ss, .slice C cn cc, .bool p.hx, .int .u16 p.pf, .slice E en ec, .slice L ln lc, .int .i64 p.pad] 44)) (by assumption) hbn; obtain ⟨x0, x1, x2, x3, x4, x5, x6, x7, x8, x9, x10⟩ := eleven_cells hitA; clear hbn) | (go_at_call 27; (with_reducible refine (rmayP_row p C cn cc E en ec L ln lc _ b HM.out ?hP be).mono ?_); (case hP => exact HP.out.below (by assumption)); rintro e wA ⟨rfl, hbn⟩; have hbA := below_next (w := w) (by assumption) hbn; have hitA := blk_below (g := w.heap.size) (o := (.cells #[.bool p.mr, .int .i64 p.ty, .int .u16 p.sq, .int .u32 p.tm, .int .u32 p.ss, .slice C cn cc, .bool p.hx, .int .u16 p.pf, .slice E en ec, .slice L ln lc, .int .i64 p.pad] 44)) (by assumption) hbn; obtain ⟨x0, x1, x2, x3, x4, x5, x6, x7, x8, x9, x10⟩ := eleven_cells hitA; clear hbn) | (go_at_call 28; (with_reducible refine (psize_row p (s : Int) HSI.out C cn cc E en ec L ln lc _ ?hP be bl).mono ?_); (case hP => exact HP.out.below (by assumption)); rintro e wA ⟨rfl, hbn⟩; have hbA := below_next (w := w) (by assumption) hbn; have hitA := blk_below (g := w.heap.size) (o := (.cells #[.bool p.mr, .int .i64 p.ty, .int .u16 p.sq, .int .u32 p.tm, .int .u32 p.ss, .slice C cn cc, .bool p.hx, .int .u16 p.pf, .slice E en ec, .slice L ln lc, .int .i64 p.pad] 44)) (by assumption) hbn; obtain ⟨x0, x1, x2, x3, x4, x5, x6, x7, x8, x9, x10⟩ := eleven_cells hitA; clear hbn) | (go_at_call 29; (with_reducible refine (rsizeP_row p C cn cc E en ec L ln lc _ s HS.out ?hP be bl).mono ?_); (case hP => exact HP.out.below (by assumption)); rintro e wA ⟨rfl, hbn⟩; have hbA := below_next (w := w) (by assumption) hbn; have hitA := blk_below (g := w.heap.size) (o := (.cells #[.bool p.mr, .int .i64 p.ty, .int .u16 p.sq, .int .u32 p.tm, .int .u32 p.ss, .slice C cn cc, .bool p.hx, .int .u16 p.pf, .slice E en ec, .slice L ln lc, .int .i64 p.pad] 44)) (by assumption) hbn; obtain ⟨x0, x1, x2, x3, x4, x5, x6, x7, x8, x9, x10⟩ := eleven_cells hitA; clear hbn))
      go_ret
      exact ⟨rfl, hbA⟩
    · refine wpPlan_leaf fun P4 hP4 => ?_
      simp only [List.filterMap_cons, List.filterMap_nil, List.getElem?_toArray, List.getElem?_cons_succ, List.getElem?_cons_zero]
      change wpList _ _ _ [_, _, _, _, _, _] _ _
      go_wp2_with (first | (go_at_call 26; (with_reducible refine (pmay_row p b HM.out C cn cc E en ec L ln lc _ ?hP).mono ?_); (case hP => exact HP.out.below (by assumption)); rintro e wA ⟨rfl, hbn⟩; have hbA := below_next (w := w) (by assumption) hbn; have hitA := blk_below (g := w.heap.size) (o := (.cells #[.bool p.mr, .int .i64 p.ty, .int .u16 p.sq, .int .u32 p.tm, .int .u32 p.ss, .slice C cn cc, .bool p.hx, .int .u16 p.pf, .slice E en ec, .slice L ln lc, .int .i64 p.pad] 44)) (by assumption) hbn; obtain ⟨x0, x1, x2, x3, x4, x5, x6, x7, x8, x9, x10⟩ := eleven_cells hitA; clear hbn) | (go_at_call 27; (with_reducible refine (rmayP_row p C cn cc E en ec L ln lc _ b HM.out ?hP be).mono ?_); (case hP => exact HP.out.below (by assumption)); rintro e wA ⟨rfl, hbn⟩; have hbA := below_next (w := w) (by assumption) hbn; have hitA := blk_below (g := w.heap.size) (o := (.cells #[.bool p.mr, .int .i64 p.ty, .int .u16 p.sq, .int .u32 p.tm, .int .u32 p.ss, .slice C cn cc, .bool p.hx, .int .u16 p.pf, .slice E en ec, .slice L ln lc, .int .i64 p.pad] 44)) (by assumption) hbn; obtain ⟨x0, x1, x2, x3, x4, x5, x6, x7, x8, x9, x10⟩ := eleven_cells hitA; clear hbn) | (go_at_call 28; (with_reducible refine (psize_row p (s : Int) HSI.out C cn cc E en ec L ln lc _ ?hP be bl).mono ?_); (case hP => exact HP.out.below (by assumption)); rintro e wA ⟨rfl, hbn⟩; have hbA := below_next (w := w) (by assumption) hbn; have hitA := blk_below (g := w.heap.size) (o := (.cells #[.bool p.mr, .int .i64 p.ty, .int .u16 p.sq, .int .u32 p.tm, .int .u32 p.ss, .slice C cn cc, .bool p.hx, .int .u16 p.pf, .slice E en ec, .slice L ln lc, .int .i64 p.pad] 44)) (by assumption) hbn; obtain ⟨x0, x1, x2, x3, x4, x5, x6, x7, x8, x9, x10⟩ := eleven_cells hitA; clear hbn) | (go_at_call 29; (with_reducible refine (rsizeP_row p C cn cc E en ec L ln lc _ s HS.out ?hP be bl).mono ?_); (case hP => exact HP.out.below (by assumption)); rintro e wA ⟨rfl, hbn⟩; have hbA := below_next (w := w) (by assumption) hbn; have hitA := blk_below (g := w.heap.size) (o := (.cells #[.bool p.mr, .int .i64 p.ty, .int .u16 p.sq, .int .u32 p.tm, .int .u32 p.ss, .slice C cn cc, .bool p.hx, .int .u16 p.pf, .slice E en ec, .slice L ln lc, .int .i64 p.pad] 44)) (by assumption) hbn; obtain ⟨x0, x1, x2, x3, x4, x5, x6, x7, x8, x9, x10⟩ := eleven_cells hitA; clear hbn))
      go_ret
      exact ⟨rfl, hbA⟩
  · refine wpPlan_fork fun P5 hP5 => ?_
    simp only [List.filterMap_cons, List.filterMap_nil, List.getElem?_toArray, List.getElem?_cons_succ, List.getElem?_cons_zero]
    change wpList _ _ _ [_, _, _, _, _, _, _] _ _
    go_wp2_with (first | (go_at_call 26; (with_reducible refine (pmay_row p b HM.out C cn cc E en ec L ln lc _ ?hP).mono ?_); (case hP => exact HP.out.below (by assumption)); rintro e wA ⟨rfl, hbn⟩; have hbA := below_next (w := w) (by assumption) hbn; have hitA := blk_below (g := w.heap.size) (o := (.cells #[.bool p.mr, .int .i64 p.ty, .int .u16 p.sq, .int .u32 p.tm, .int .u32 p.ss, .slice C cn cc, .bool p.hx, .int .u16 p.pf, .slice E en ec, .slice L ln lc, .int .i64 p.pad] 44)) (by assumption) hbn; obtain ⟨x0, x1, x2, x3, x4, x5, x6, x7, x8, x9, x10⟩ := eleven_cells hitA; clear hbn) | (go_at_call 27; (with_reducible refine (rmayP_row p C cn cc E en ec L ln lc _ b HM.out ?hP be).mono ?_); (case hP => exact HP.out.below (by assumption)); rintro e wA ⟨rfl, hbn⟩; have hbA := below_next (w := w) (by assumption) hbn; have hitA := blk_below (g := w.heap.size) (o := (.cells #[.bool p.mr, .int .i64 p.ty, .int .u16 p.sq, .int .u32 p.tm, .int .u32 p.ss, .slice C cn cc, .bool p.hx, .int .u16 p.pf, .slice E en ec, .slice L ln lc, .int .i64 p.pad] 44)) (by assumption) hbn; obtain ⟨x0, x1, x2, x3, x4, x5, x6, x7, x8, x9, x10⟩ := eleven_cells hitA; clear hbn) | (go_at_call 28; (with_reducible refine (psize_row p (s : Int) HSI.out C cn cc E en ec L ln lc _ ?hP be bl).mono ?_); (case hP => exact HP.out.below (by assumption)); rintro e wA ⟨rfl, hbn⟩; have hbA := below_next (w := w) (by assumption) hbn; have hitA := blk_below (g := w.heap.size) (o := (.cells #[.bool p.mr, .int .i64 p.ty, .int .u16 p.sq, .int .u32 p.tm, .int .u32 p.ss, .slice C cn cc, .bool p.hx, .int .u16 p.pf, .slice E en ec, .slice L ln lc, .int .i64 p.pad] 44)) (by assumption) hbn; obtain ⟨x0, x1, x2, x3, x4, x5, x6, x7, x8, x9, x10⟩ := eleven_cells hitA; clear hbn) | (go_at_call 29; (with_reducible refine (rsizeP_row p C cn cc E en ec L ln lc _ s HS.out ?hP be bl).mono ?_); (case hP => exact HP.out.below (by assumption)); rintro e wA ⟨rfl, hbn⟩; have hbA := below_next (w := w) (by assumption) hbn; have hitA := blk_below (g := w.heap.size) (o := (.cells #[.bool p.mr, .int .i64 p.ty, .int .u16 p.sq, .int .u32 p.tm, .int .u32 p.ss, .slice C cn cc, .bool p.hx, .int .u16 p.pf, .slice E en ec, .slice L ln lc, .int .i64 p.pad] 44)) (by assumption) hbn; obtain ⟨x0, x1, x2, x3, x4, x5, x6, x7, x8, x9, x10⟩ := eleven_cells hitA; clear hbn))
    refine hP5 _ _ ?_ ?_
    · refine wpPlan_leaf fun P6 hP6 => ?_
      simp only [List.filterMap_cons, List.filterMap_nil, List.getElem?_toArray, List.getElem?_cons_succ, List.getElem?_cons_zero]
      change wpList _ _ _ [_, _, _, _, _, _] _ _
      go_wp2_with (first | (go_at_call 26; (with_reducible refine (pmay_row p b HM.out C cn cc E en ec L ln lc _ ?hP).mono ?_); (case hP => exact HP.out.below (by assumption)); rintro e wA ⟨rfl, hbn⟩; have hbA := below_next (w := w) (by assumption) hbn; have hitA := blk_below (g := w.heap.size) (o := (.cells #[.bool p.mr, .int .i64 p.ty, .int .u16 p.sq, .int .u32 p.tm, .int .u32 p.ss, .slice C cn cc, .bool p.hx, .int .u16 p.pf, .slice E en ec, .slice L ln lc, .int .i64 p.pad] 44)) (by assumption) hbn; obtain ⟨x0, x1, x2, x3, x4, x5, x6, x7, x8, x9, x10⟩ := eleven_cells hitA; clear hbn) | (go_at_call 27; (with_reducible refine (rmayP_row p C cn cc E en ec L ln lc _ b HM.out ?hP be).mono ?_); (case hP => exact HP.out.below (by assumption)); rintro e wA ⟨rfl, hbn⟩; have hbA := below_next (w := w) (by assumption) hbn; have hitA := blk_below (g := w.heap.size) (o := (.cells #[.bool p.mr, .int .i64 p.ty, .int .u16 p.sq, .int .u32 p.tm, .int .u32 p.ss, .slice C cn cc, .bool p.hx, .int .u16 p.pf, .slice E en ec, .slice L ln lc, .int .i64 p.pad] 44)) (by assumption) hbn; obtain ⟨x0, x1, x2, x3, x4, x5, x6, x7, x8, x9, x10⟩ := eleven_cells hitA; clear hbn) | (go_at_call 28; (with_reducible refine (psize_row p (s : Int) HSI.out C cn cc E en ec L ln lc _ ?hP be bl).mono ?_); (case hP => exact HP.out.below (by assumption)); rintro e wA ⟨rfl, hbn⟩; have hbA := below_next (w := w) (by assumption) hbn; have hitA := blk_below (g := w.heap.size) (o := (.cells #[.bool p.mr, .int .i64 p.ty, .int .u16 p.sq, .int .u32 p.tm, .int .u32 p.ss, .slice C cn cc, .bool p.hx, .int .u16 p.pf, .slice E en ec, .slice L ln lc, .int .i64 p.pad] 44)) (by assumption) hbn; obtain ⟨x0, x1, x2, x3, x4, x5, x6, x7, x8, x9, x10⟩ := eleven_cells hitA; clear hbn) | (go_at_call 29; (with_reducible refine (rsizeP_row p C cn cc E en ec L ln lc _ s HS.out ?hP be bl).mono ?_); (case hP => exact HP.out.below (by assumption)); rintro e wA ⟨rfl, hbn⟩; have hbA := below_next (w := w) (by assumption) hbn; have hitA := blk_below (g := w.heap.size) (o := (.cells #[.bool p.mr, .int .i64 p.ty, .int .u16 p.sq, .int .u32 p.tm, .int .u32 p.ss, .slice C cn cc, .bool p.hx, .int .u16 p.pf, .slice E en ec, .slice L ln lc, .int .i64 p.pad] 44)) (by assumption) hbn; obtain ⟨x0, x1, x2, x3, x4, x5, x6, x7, x8, x9, x10⟩ := eleven_cells hitA; clear hbn))
      go_ret
      exact ⟨rfl, hbA⟩
    · refine wpPlan_leaf fun P7 hP7 => ?_
      simp only [List.filterMap_cons, List.filterMap_nil, List.getElem?_toArray, List.getElem?_cons_succ, List.getElem?_cons_zero]
      change wpList _ _ _ [_, _, _, _, _, _] _ _
      go_wp2_with (first | (go_at_call 26; (with_reducible refine (pmay_row p b HM.out C cn cc E en ec L ln lc _ ?hP).mono ?_); (case hP => exact HP.out.below (by assumption)); rintro e wA ⟨rfl, hbn⟩; have hbA := below_next (w := w) (by assumption) hbn; have hitA := blk_below (g := w.heap.size) (o := (.cells #[.bool p.mr, .int .i64 p.ty, .int .u16 p.sq, .int .u32 p.tm, .int .u32 p.ss, .slice C cn cc, .bool p.hx, .int .u16 p.pf, .slice E en ec, .slice L ln lc, .int .i64 p.pad] 44)) (by assumption) hbn; obtain ⟨x0, x1, x2, x3, x4, x5, x6, x7, x8, x9, x10⟩ := eleven_cells hitA; clear hbn) | (go_at_call 27; (with_reducible refine (rmayP_row p C cn cc E en ec L ln lc _ b HM.out ?hP be).mono ?_); (case hP => exact HP.out.below (by assumption)); rintro e wA ⟨rfl, hbn⟩; have hbA := below_next (w := w) (by assumption) hbn; have hitA := blk_below (g := w.heap.size) (o := (.cells #[.bool p.mr, .int .i64 p.ty, .int .u16 p.sq, .int .u32 p.tm, .int .u32 p.ss, .slice C cn cc, .bool p.hx, .int .u16 p.pf, .slice E en ec, .slice L ln lc, .int .i64 p.pad] 44)) (by assumption) hbn; obtain ⟨x0, x1, x2, x3, x4, x5, x6, x7, x8, x9, x10⟩ := eleven_cells hitA; clear hbn) | (go_at_call 28; (with_reducible refine (psize_row p (s : Int) HSI.out C cn cc E en ec L ln lc _ ?hP be bl).mono ?_); (case hP => exact HP.out.below (by assumption)); rintro e wA ⟨rfl, hbn⟩; have hbA := below_next (w := w) (by assumption) hbn; have hitA := blk_below (g := w.heap.size) (o := (.cells #[.bool p.mr, .int .i64 p.ty, .int .u16 p.sq, .int .u32 p.tm, .int .u32 p.ss, .slice C cn cc, .bool p.hx, .int .u16 p.pf, .slice E en ec, .slice L ln lc, .int .i64 p.pad] 44)) (by assumption) hbn; obtain ⟨x0, x1, x2, x3, x4, x5, x6, x7, x8, x9, x10⟩ := eleven_cells hitA; clear hbn) | (go_at_call 29; (with_reducible refine (rsizeP_row p C cn cc E en ec L ln lc _ s HS.out ?hP be bl).mono ?_); (case hP => exact HP.out.below (by assumption)); rintro e wA ⟨rfl, hbn⟩; have hbA := below_next (w := w) (by assumption) hbn; have hitA := blk_below (g := w.heap.size) (o := (.cells #[.bool p.mr, .int .i64 p.ty, .int .u16 p.sq, .int .u32 p.tm, .int .u32 p.ss, .slice C cn cc, .bool p.hx, .int .u16 p.pf, .slice E en ec, .slice L ln lc, .int .i64 p.pad] 44)) (by assumption) hbn; obtain ⟨x0, x1, x2, x3, x4, x5, x6, x7, x8, x9, x10⟩ := eleven_cells hitA; clear hbn))
      go_ret
      exact ⟨rfl, hbA⟩
namespace rtpAll
open Go.ChangeShapes Go.WideShapes Go.ChangeAt Go.RowKit
open Go.ChangeMaps (open_string shut_string)
set_option linter.unusedVariables false

theorem own : ownKnob Try.prog.godebug = none := by kernel_rfl
theorem laidOut : laidOutB Try.prog = true := by kernel_rfl

set_option maxRecDepth 100000 in
theorem lifted (os : Os) (started : os.Started) (H : Type) (enc : TypeId × Value → H) :
    ReturnsInHanded {} Try.checked os 7 .any (Rows.rtpAllSpec.pre6 enc Try.prog Try.f7 Rows.rtpAllRow.domain false) (Rows.rtpAllSpec.post enc Try.prog Try.f7 false true false false) := by
  refine returnsInHanded_of_change_sized (C := Try.checked) own started (by kernel_rfl) Try.func7
    (ChangeSpec.witness6 (enc := enc) (C := Try.checked) false ⟨#[], #[.agg #[.bool false, .int .i64 0, .int .u16 0, .int .u32 0, .int .u32 0, .slice none 0 0, .bool false, .int .u16 0, .slice none 0 0, .slice none 0 0, .int .i64 0]], []⟩ 8 (by kernel_rfl) (by kernel_rfl) (by kernel_rfl) (by kernel_rfl)) ?_
  intro W base args ds gs before hval0 hW hcnd hsz0 _
  have hsz : (DataW.weightsEach Try.prog (Try.f7.params.toList ++ Rows.rtpAllSpec.plain.varTypes Try.prog) (ds ++ gs)).all (· ≤ reachBytes) = true := hsz0
  have hval : ∀ (j : Nat) t v, Try.f7.params[j]? = some t → args[j]? = some v → Value.okWide Try.prog W .any base t v := hval0
  have hW' := hW
  obtain ⟨p, q, hA0, hV, rfl, hfz, hnd⟩ := hW
  have hA : DataW.TrodAll enc Try.prog W 0 (fun _ => true) true Try.f7.params.toList args.toList ds p := hA0
  rw [Try.params7] at hA hval hsz
  obtain ⟨v0, vs0, d0, ds0, p0, q0, hargs, rfl, rfl, h0, r0⟩ := trodAll_cons hA
  obtain ⟨rfl, rfl, rfl⟩ := trodAll_nil r0
  obtain rfl : args = #[v0] := by cases args; simp_all
  obtain ⟨rfl, rfl⟩ := trodVars_none hV
  have k0 := h0
  have lt0 : ∀ x ∈ p0, x.block < W.heap.size := by obtain ⟨m, hm⟩ := k0; exact DataW.trod_lt m _ _ _ hm
  obtain ⟨P0, A0, n0, c0, E0, en0, ec0, L0, ln0, lc0, rfl, ra0, re0, rl0, ok0, be0, bl0⟩ := open_packet (hval 0 44 v0 rfl rfl) h0 (fun x hx => by have := List.all_eq_true.1 hsz _ (DataW.weights_mem_each (j := 0) rfl rfl x hx); simpa using this)
  clear hA0 hval0 hsz0
  refine (rtpAll_walk P0 A0 n0 c0 E0 en0 ec0 L0 ln0 lc0 W ra0 re0 rl0 ok0 be0 bl0).mono fun e W' ⟨he, bel⟩ => ?_
  subst he
  exact ⟨_, rfl, _, _, _, [], _, [], hW', trodAll_mk1 (shut_bool Try.underlying4 _), (trodAll_cons_mk (Below.trod laidOut (by kernel_rfl) (of_decide_eq_true (by kernel_rfl)) k0 bel lt0) trodAll_mk0), rfl, bel.frame _, fun h => by cases h⟩

/-- The statement. -/
theorem proved : Rows.RtpAllSaid :=
  OpenClaim.holds_of_wide 7 Try.f7 rfl rfl rfl rfl rfl rfl rfl ⟨rfl, rfl, rfl, rfl, rfl⟩ rfl rfl rfl rfl rfl (by kernel_rfl) Try.func7 (by kernel_rfl)
    (of_decide_eq_true (by kernel_rfl)) (by unfold Func.isWrapper; rw [if_neg (of_decide_eq_false (by kernel_rfl))]; exact ⟨rfl, rfl⟩)
    (fun os started H enc _ => lifted os started H enc)
#print axioms proved
end rtpAll
end Go.Proofs.Ytnkclbaeamcplaa
