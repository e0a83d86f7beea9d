/-
RtpPad: padding changes nothing but Pad; a byte of it that is not as it should be is refused. For every packet, every padding and every place.
-/
import Derived.Test.YtnkclbaeamcplaaRtpCut
namespace Go.Proofs.Ytnkclbaeamcplaa
set_option linter.unusedVariables false
set_option linter.unusedSimpArgs false
open Go Go.RowKit

theorem samePkt_pd (q : Pkt) (x : Int) (hx : q.pad = x) (C : Option Addr) (cn cc : Nat) (E : Option Addr) (en ec : Nat) (L : Option Addr) (ln lc : Nat) (C' : Option Addr) (cn' cc' : Nat) (E' : Option Addr) (en' ec' : Nat) (L' : Option Addr) (ln' lc' : Nat) (w : World)
    (h : PRow w q C cn cc E en ec L ln lc) (h' : PRow w q C' cn' cc' E' en' ec' L' ln' lc') :
    Calls Try.prog 31 #[.agg #[.bool q.mr, .int .i64 q.ty, .int .u16 q.sq, .int .u32 q.tm, .int .u32 q.ss, .slice C cn cc, .bool q.hx, .int .u16 q.pf, .slice E en ec, .slice L ln lc, .int .i64 x], .agg #[.bool q.mr, .int .i64 q.ty, .int .u16 q.sq, .int .u32 q.tm, .int .u32 q.ss, .slice C' cn' cc', .bool q.hx, .int .u16 q.pf, .slice E' en' ec', .slice L' ln' lc', .int .i64 q.pad]] w fun e w' =>
      e = .returned (.bool true) ∧ Below w.heap.size w w' := by
  subst hx
  exact samePkt_row q q rfl C cn cc E en ec L ln lc C' cn' cc' E' en' ec' L' ln' lc' w h h'
/-- A byte of the call's own row, written. -/
theorem own_byte {w : World} {base : Nat} {B : Option Addr} {n c : Nat} {l : List UInt8} (h : w.ownsRow base 5 1 (.slice B n c) n (bys l)) (i : Nat) (hi : i < n) (x : UInt8) (X : Int) (hX : X = x.toNat) : ∃ g, B = some ⟨g, 0, none⟩ ∧ base ≤ g ∧ (∃ v, w.cell? ⟨g, i, none⟩ = some v) ∧ w.frozen? ⟨g, i, none⟩ = false ∧
    (w.setCell ⟨g, i, none⟩ (.int .u8 X)).ownsRow base 5 1 (.slice B n c) n (bys (l.set i x)) ∧ w.grownBy (w.setCell ⟨g, i, none⟩ (.int .u8 X)) (some g) := by
  subst hX
  obtain ⟨g, cap, hv, _⟩ := h.form (by omega)
  injection hv with hB
  subst hB
  have hl := h.1
  have c0 := h.cellAt i (by omega)
  obtain ⟨ho, hg⟩ := h.stored i (.int .u8 x.toNat)
  refine ⟨g, rfl, own_from h g rfl, ⟨_, c0.trans (List.getElem?_eq_getElem (by omega))⟩, h.frozenAt i, ?_, hg⟩
  have e : bys (l.set i x) = (bys l).set i (.int .u8 x.toNat) := by simp [bys, u8v, List.map_set]
  rw [e]
  exact ho
set_option maxRecDepth 20000 in
set_option maxHeartbeats 4000000 in
theorem rtpPad_q (q : Pkt) (x pd : Int) (hq0 : q.pad = pd) (a : Int) (C : Option Addr) (cn cc : Nat) (E : Option Addr) (en ec : Nat) (L : Option Addr) (ln lc : Nat) (w : World)
    (ra : Row w C cn cc 1 4 (u32s q.cs)) (re : Row w E en ec 1 1 (bys q.ex)) (rl : Row w L ln lc 1 1 (bys q.pl)) (ok : q.Ok) (be : en ≤ 140737488351232) (bl : ln ≤ 140737488351232) (ha : -9223372036854775808 ≤ a ∧ a ≤ 9223372036854775807) (hpd : -9223372036854775808 ≤ pd ∧ pd ≤ 9223372036854775807) :
    Calls Try.prog 11 #[.agg #[.bool q.mr, .int .i64 q.ty, .int .u16 q.sq, .int .u32 q.tm, .int .u32 q.ss, .slice C cn cc, .bool q.hx, .int .u16 q.pf, .slice E en ec, .slice L ln lc, .int .i64 x], .int .i64 pd, .int .i64 a] w fun e w' => e = .returned (.bool true) ∧ Below w.heap.size w w' := by
  have HP : Hid (PRow w q C cn cc E en ec L ln lc) := ⟨ra, re, rl⟩
  have HO := Lib.hid ok
  have HQ0 := Lib.hid hq0
  clear ra re rl ok
  by_cases hp1 : pd < 1
  · clear hq0
    go_enter Try.func11, Try.ntmps11
    go_wp2_with (first
      | (go_at_call 23; (with_reducible refine (shown5_any _).mono ?_); rintro e w1 ⟨rfl, hb1⟩; have hb2 := ((Below.refl w.heap.size w).alloc (Nat.le_refl _) _).trans (hb1.mono (by simp))))
    go_ret
    exact ⟨rfl, hb2⟩
  by_cases hp2 : 255 < pd
  · clear hq0
    go_enter Try.func11, Try.ntmps11
    go_wp2_with (first
      | (go_at_call 23; (with_reducible refine (shown5_any _).mono ?_); rintro e w1 ⟨rfl, hb1⟩; have hb2 := ((Below.refl w.heap.size w).alloc (Nat.le_refl _) _).trans (hb1.mono (by simp))))
    go_ret
    exact ⟨rfl, hb2⟩
  obtain ⟨P, rfl⟩ : ∃ P : Nat, pd = P := ⟨pd.toNat, by omega⟩
  have g1 : decide ((P : Int) < 1) = false := by simp; omega
  have g2 : decide ((255 : Int) < (P : Int)) = false := by simp; omega
  have hP1 : 1 ≤ P := by omega
  have hP2 : P ≤ 255 := by omega
  clear hp1 hp2 hpd
  by_cases h0 : errP q = 0
  · have hm := (err_may h0).1
    obtain ⟨k, hkk⟩ : ∃ k, (pktL q).length = k := ⟨_, rfl⟩
    have HK := Lib.hid hkk
    have hk5 : k ≤ 512 := by rw [← hkk, sizeP_len hm]; exact (err_may h0).2
    have HZ : Hid ((0 : Int) = (errP q : Nat)) := by show _ = _; rw [h0]; rfl
    have HL : Hid (outP q = pktL q) := outP_yes h0
    obtain ⟨h1, h2⟩ := get_put5 HO.out h0
    have HG := Lib.hid h2
    have HY : Hid ((0 : Int) = (lookE (pktL q) : Nat)) := by show _ = _; rw [h1]; rfl
    have hkP : P ≤ k := by rw [← hkk, sizeP_len hm]; unfold sizeP; rw [if_pos hm, hq0]; omega
    obtain ⟨j, hj⟩ : ∃ j, k = j + P := ⟨k - P, by omega⟩
    have gl : decide ((k : Int) < (P : Int)) = false := by simp; omega
    have gl2 : decide (k < P) = false := by simp; omega
    clear h1 h2
    by_cases hneg : a < 0
    · clear hkk h0 hm hq0 hj
      go_enter Try.func11, Try.ntmps11
      go_wp2_with (first
        | (go_at_call 23; (with_reducible refine (shown5_any _).mono ?_); rintro e w1 ⟨rfl, hb1⟩; have hb2 := ((Below.refl w.heap.size w).alloc (Nat.le_refl _) _).trans (hb1.mono (by simp)); have hit := blk_below (blk_alloc _ _) hb1; obtain ⟨⟨p10, f10⟩, hi, hg⟩ := eleven_10 hit (.int .i64 (P : Int)); have HIT := Lib.hid hi; have HB2 := Lib.hid (hb2.grown hg hb2.size (by simp)); obtain ⟨t0, t1, t2, t3, t4, t5, t6, t7, t8, t9, t10⟩ := eleven_cells hi; clear hit hi hg hb2 hb1)
        | (go_at_call 24; (with_reducible refine (pput_rowp q (P : Int) HQ0.out HO.out 0 HZ.out (pktL q) HL.out k HK.out C cn cc E en ec L ln lc _ (HP.out.below HB2.out) be bl).mono ?_); rintro e w2 ⟨B, c2, rfl, ho2, hb3⟩; have hit2 := blk_below HIT.out hb3; have hb4 := HB2.out.trans (hb3.mono HB2.out.size); have HO2 := Lib.hid ho2; clear ho2 t0 t1 t2 t3 t4 t5 t6 t7 t8 t9 t10 p10 f10)
        | (go_at_call 30; (with_reducible refine (pget_row (pktL q) q 0 HG.out HY.out B k c2 w2 ⟨HK.out, (own_cap HO2.out).1, (own_cap HO2.out).2, Rd.own HO2.out⟩).mono ?_); rintro e w3 ⟨C3, cn3, cc3, E3, en3, ec3, L3, ln3, lc3, rfl, HP3, hb5⟩; have hit3 := blk_below hit2 hb5; have hit4 := blk_below hit3 ((Below.refl w3.heap.size w3).alloc (Nat.le_refl _) (.cells #[.bool q.mr, .int .i64 q.ty, .int .u16 q.sq, .int .u32 q.tm, .int .u32 q.ss, .slice C3 cn3 cc3, .bool q.hx, .int .u16 q.pf, .slice E3 en3 ec3, .slice L3 ln3 lc3, .int .i64 q.pad] 44)); have hnew := heap_alloc_new w3 (.cells #[.bool q.mr, .int .i64 q.ty, .int .u16 q.sq, .int .u32 q.tm, .int .u32 q.ss, .slice C3 cn3 cc3, .bool q.hx, .int .u16 q.pf, .slice E3 en3 ec3, .slice L3 ln3 lc3, .int .i64 q.pad] 44); have hb6 := hb4.trans (hb5.mono hb4.size); have hb7 := hb6.alloc hb6.size (.cells #[.bool q.mr, .int .i64 q.ty, .int .u16 q.sq, .int .u32 q.tm, .int .u32 q.ss, .slice C3 cn3 cc3, .bool q.hx, .int .u16 q.pf, .slice E3 en3 ec3, .slice L3 ln3 lc3, .int .i64 q.pad] 44); have HB7 := Lib.hid hb7; have hb25 := hb5.alloc hb5.size (.cells #[.bool q.mr, .int .i64 q.ty, .int .u16 q.sq, .int .u32 q.tm, .int .u32 q.ss, .slice C3 cn3 cc3, .bool q.hx, .int .u16 q.pf, .slice E3 en3 ec3, .slice L3 ln3 lc3, .int .i64 q.pad] 44); have HB25 := Lib.hid hb25; have HPx := Lib.hid (HP3.out.below ((Below.refl w3.heap.size w3).alloc (Nat.le_refl _) (.cells #[.bool q.mr, .int .i64 q.ty, .int .u16 q.sq, .int .u32 q.tm, .int .u32 q.ss, .slice C3 cn3 cc3, .bool q.hx, .int .u16 q.pf, .slice E3 en3 ec3, .slice L3 ln3 lc3, .int .i64 q.pad] 44))); obtain ⟨y0, y1, y2, y3, y4, y5, y6, y7, y8, y9, y10⟩ := eleven_cells hit4; obtain ⟨z0, z1, z2, z3, z4, z5, z6, z7, z8, z9, z10⟩ := eleven_cells hnew; clear hit3 hit4 hnew hb6 hb7 hb25 hb5)
        | (go_at_call 31; (with_reducible refine (samePkt_pd q (P : Int) HQ0.out C cn cc E en ec L ln lc C3 cn3 cc3 E3 en3 ec3 L3 ln3 lc3 _ (HP.out.below HB7.out) HPx.out).mono ?_); rintro e w4 ⟨rfl, hb8⟩; have HB8 := Lib.hid (HB7.out.trans (hb8.mono HB7.out.size))))
      go_ret
      exact ⟨rfl, HB8.out⟩
    by_cases hbig : (P : Int) - 1 ≤ a
    · clear hkk h0 hm hq0 hj hneg
      go_enter Try.func11, Try.ntmps11
      go_wp2_with (first
        | (go_at_call 23; (with_reducible refine (shown5_any _).mono ?_); rintro e w1 ⟨rfl, hb1⟩; have hb2 := ((Below.refl w.heap.size w).alloc (Nat.le_refl _) _).trans (hb1.mono (by simp)); have hit := blk_below (blk_alloc _ _) hb1; obtain ⟨⟨p10, f10⟩, hi, hg⟩ := eleven_10 hit (.int .i64 (P : Int)); have HIT := Lib.hid hi; have HB2 := Lib.hid (hb2.grown hg hb2.size (by simp)); obtain ⟨t0, t1, t2, t3, t4, t5, t6, t7, t8, t9, t10⟩ := eleven_cells hi; clear hit hi hg hb2 hb1)
        | (go_at_call 24; (with_reducible refine (pput_rowp q (P : Int) HQ0.out HO.out 0 HZ.out (pktL q) HL.out k HK.out C cn cc E en ec L ln lc _ (HP.out.below HB2.out) be bl).mono ?_); rintro e w2 ⟨B, c2, rfl, ho2, hb3⟩; have hit2 := blk_below HIT.out hb3; have hb4 := HB2.out.trans (hb3.mono HB2.out.size); have HO2 := Lib.hid ho2; clear ho2 t0 t1 t2 t3 t4 t5 t6 t7 t8 t9 t10 p10 f10)
        | (go_at_call 30; (with_reducible refine (pget_row (pktL q) q 0 HG.out HY.out B k c2 w2 ⟨HK.out, (own_cap HO2.out).1, (own_cap HO2.out).2, Rd.own HO2.out⟩).mono ?_); rintro e w3 ⟨C3, cn3, cc3, E3, en3, ec3, L3, ln3, lc3, rfl, HP3, hb5⟩; have hit3 := blk_below hit2 hb5; have hit4 := blk_below hit3 ((Below.refl w3.heap.size w3).alloc (Nat.le_refl _) (.cells #[.bool q.mr, .int .i64 q.ty, .int .u16 q.sq, .int .u32 q.tm, .int .u32 q.ss, .slice C3 cn3 cc3, .bool q.hx, .int .u16 q.pf, .slice E3 en3 ec3, .slice L3 ln3 lc3, .int .i64 q.pad] 44)); have hnew := heap_alloc_new w3 (.cells #[.bool q.mr, .int .i64 q.ty, .int .u16 q.sq, .int .u32 q.tm, .int .u32 q.ss, .slice C3 cn3 cc3, .bool q.hx, .int .u16 q.pf, .slice E3 en3 ec3, .slice L3 ln3 lc3, .int .i64 q.pad] 44); have hb6 := hb4.trans (hb5.mono hb4.size); have hb7 := hb6.alloc hb6.size (.cells #[.bool q.mr, .int .i64 q.ty, .int .u16 q.sq, .int .u32 q.tm, .int .u32 q.ss, .slice C3 cn3 cc3, .bool q.hx, .int .u16 q.pf, .slice E3 en3 ec3, .slice L3 ln3 lc3, .int .i64 q.pad] 44); have HB7 := Lib.hid hb7; have hb25 := hb5.alloc hb5.size (.cells #[.bool q.mr, .int .i64 q.ty, .int .u16 q.sq, .int .u32 q.tm, .int .u32 q.ss, .slice C3 cn3 cc3, .bool q.hx, .int .u16 q.pf, .slice E3 en3 ec3, .slice L3 ln3 lc3, .int .i64 q.pad] 44); have HB25 := Lib.hid hb25; have HPx := Lib.hid (HP3.out.below ((Below.refl w3.heap.size w3).alloc (Nat.le_refl _) (.cells #[.bool q.mr, .int .i64 q.ty, .int .u16 q.sq, .int .u32 q.tm, .int .u32 q.ss, .slice C3 cn3 cc3, .bool q.hx, .int .u16 q.pf, .slice E3 en3 ec3, .slice L3 ln3 lc3, .int .i64 q.pad] 44))); obtain ⟨y0, y1, y2, y3, y4, y5, y6, y7, y8, y9, y10⟩ := eleven_cells hit4; obtain ⟨z0, z1, z2, z3, z4, z5, z6, z7, z8, z9, z10⟩ := eleven_cells hnew; clear hit3 hit4 hnew hb6 hb7 hb25 hb5)
        | (go_at_call 31; (with_reducible refine (samePkt_pd q (P : Int) HQ0.out C cn cc E en ec L ln lc C3 cn3 cc3 E3 en3 ec3 L3 ln3 lc3 _ (HP.out.below HB7.out) HPx.out).mono ?_); rintro e w4 ⟨rfl, hb8⟩; have HB8 := Lib.hid (HB7.out.trans (hb8.mono HB7.out.size))))
      go_ret
      exact ⟨rfl, HB8.out⟩
    obtain ⟨t, rfl⟩ : ∃ t : Nat, a = t := ⟨a.toNat, by omega⟩
    have gt : decide ((P : Int) - 1 ≤ (t : Int)) = false := by simp; omega
    have hsub : (k : Int) - (P : Int) = (j : Int) := by omega
    obtain ⟨i, hi⟩ : ∃ i, j + t = i := ⟨_, rfl⟩
    have hadd : (j : Int) + (t : Int) = (i : Int) := by omega
    have hik : i < k := by omega
    have hikI : (i : Int) < (k : Int) := by omega
    have hbad := pad_bad HO.out h0 P t hq0 (by omega)
    rw [hkk, show k - P + t = i by omega] at hbad
    have HB1 : Hid ((1 : Int) = (lookE ((pktL q).set i 1) : Nat)) := by show _ = _; rw [hbad]; rfl
    have HBZ : Hid (getP ((pktL q).set i 1) = zeroP) := getP_zero (by rw [hbad]; decide)
    have HBL : Hid (((pktL q).set i 1).length = k) := by show _ = _; rw [List.length_set, hkk]
    clear hkk h0 hm hq0 hneg hbig hbad hj hi
    go_enter Try.func11, Try.ntmps11
    go_wp2_with (first
      | (go_at_call 23; (with_reducible refine (shown5_any _).mono ?_); rintro e w1 ⟨rfl, hb1⟩; have hb2 := ((Below.refl w.heap.size w).alloc (Nat.le_refl _) _).trans (hb1.mono (by simp)); have hit := blk_below (blk_alloc _ _) hb1; obtain ⟨⟨p10, f10⟩, hi, hg⟩ := eleven_10 hit (.int .i64 (P : Int)); have HIT := Lib.hid hi; have HB2 := Lib.hid (hb2.grown hg hb2.size (by simp)); obtain ⟨t0, t1, t2, t3, t4, t5, t6, t7, t8, t9, t10⟩ := eleven_cells hi; clear hit hi hg hb2 hb1)
      | (go_at_call 24; (with_reducible refine (pput_rowp q (P : Int) HQ0.out HO.out 0 HZ.out (pktL q) HL.out k HK.out C cn cc E en ec L ln lc _ (HP.out.below HB2.out) be bl).mono ?_); rintro e w2 ⟨B, c2, rfl, ho2, hb3⟩; have hit2 := blk_below HIT.out hb3; have hb4 := HB2.out.trans (hb3.mono HB2.out.size); have HO2 := Lib.hid ho2; clear ho2 t0 t1 t2 t3 t4 t5 t6 t7 t8 t9 t10 p10 f10)
      | (go_at_call 30; (with_reducible refine (pget_row (pktL q) q 0 HG.out HY.out B k c2 w2 ⟨HK.out, (own_cap HO2.out).1, (own_cap HO2.out).2, Rd.own HO2.out⟩).mono ?_); rintro e w3 ⟨C3, cn3, cc3, E3, en3, ec3, L3, ln3, lc3, rfl, HP3, hb5⟩; have hit3 := blk_below hit2 hb5; have hit4 := blk_below hit3 ((Below.refl w3.heap.size w3).alloc (Nat.le_refl _) (.cells #[.bool q.mr, .int .i64 q.ty, .int .u16 q.sq, .int .u32 q.tm, .int .u32 q.ss, .slice C3 cn3 cc3, .bool q.hx, .int .u16 q.pf, .slice E3 en3 ec3, .slice L3 ln3 lc3, .int .i64 q.pad] 44)); have hnew := heap_alloc_new w3 (.cells #[.bool q.mr, .int .i64 q.ty, .int .u16 q.sq, .int .u32 q.tm, .int .u32 q.ss, .slice C3 cn3 cc3, .bool q.hx, .int .u16 q.pf, .slice E3 en3 ec3, .slice L3 ln3 lc3, .int .i64 q.pad] 44); have hb6 := hb4.trans (hb5.mono hb4.size); have hb7 := hb6.alloc hb6.size (.cells #[.bool q.mr, .int .i64 q.ty, .int .u16 q.sq, .int .u32 q.tm, .int .u32 q.ss, .slice C3 cn3 cc3, .bool q.hx, .int .u16 q.pf, .slice E3 en3 ec3, .slice L3 ln3 lc3, .int .i64 q.pad] 44); have HB7 := Lib.hid hb7; have hb25 := hb5.alloc hb5.size (.cells #[.bool q.mr, .int .i64 q.ty, .int .u16 q.sq, .int .u32 q.tm, .int .u32 q.ss, .slice C3 cn3 cc3, .bool q.hx, .int .u16 q.pf, .slice E3 en3 ec3, .slice L3 ln3 lc3, .int .i64 q.pad] 44); have HB25 := Lib.hid hb25; have HPx := Lib.hid (HP3.out.below ((Below.refl w3.heap.size w3).alloc (Nat.le_refl _) (.cells #[.bool q.mr, .int .i64 q.ty, .int .u16 q.sq, .int .u32 q.tm, .int .u32 q.ss, .slice C3 cn3 cc3, .bool q.hx, .int .u16 q.pf, .slice E3 en3 ec3, .slice L3 ln3 lc3, .int .i64 q.pad] 44))); obtain ⟨y0, y1, y2, y3, y4, y5, y6, y7, y8, y9, y10⟩ := eleven_cells hit4; obtain ⟨z0, z1, z2, z3, z4, z5, z6, z7, z8, z9, z10⟩ := eleven_cells hnew; clear hit3 hit4 hnew hb6 hb7 hb25 hb5)
      | (go_at_call 31; (with_reducible refine (samePkt_pd q (P : Int) HQ0.out C cn cc E en ec L ln lc C3 cn3 cc3 E3 en3 ec3 L3 ln3 lc3 _ (HP.out.below HB7.out) HPx.out).mono ?_); rintro e w4 ⟨rfl, hb8⟩; have HB8 := Lib.hid (HB7.out.trans (hb8.mono HB7.out.size)); have hb28 := HB25.out.trans (hb8.mono HB25.out.size); obtain ⟨gB, rfl, hgB, ⟨v5, c5⟩, f5, ho5, hg5⟩ := own_byte (HO2.out.kept (own_below hb28) (own_none _)) i hik 1 1 (by decide); have HO5 := Lib.hid ho5; have hwB := HB2.out.size; have HB9 := Lib.hid (HB8.out.grown hg5 HB8.out.size (fun q hq => by injection hq with hq; omega)); have h5c := own_cap ho5; clear ho5 hg5 hb8 hb28)
      | (go_at_call 30; (with_reducible refine (pget_row ((pktL q).set i 1) zeroP 1 HBZ.out HB1.out _ k c2 _ ⟨HBL.out, (own_cap HO5.out).1, (own_cap HO5.out).2, Rd.own HO5.out⟩).mono ?_); rintro e w6 ⟨C6, cn6, cc6, E6, en6, ec6, L6, ln6, lc6, rfl, HP6, hb10⟩; have hb11 := HB9.out.trans (hb10.mono HB9.out.size); have hb12 := fun o => hb11.alloc hb11.size o))
    go_ret
    exact ⟨rfl, hb12 _⟩
  · obtain ⟨z, hz⟩ : ∃ z, errP q = z := ⟨_, rfl⟩
    have HZ : Hid ((z : Int) = (errP q : Nat)) := by show _ = _; rw [hz]
    have HL := Lib.hid (outP_nil h0)
    rw [hz] at h0
    have hz0 : ((z : Int) != 0) = true := by simp; omega
    clear hz h0 hq0
    go_enter Try.func11, Try.ntmps11
    go_wp2_with (first
      | (go_at_call 23; (with_reducible refine (shown5_any _).mono ?_); rintro e w1 ⟨rfl, hb1⟩; have hb2 := ((Below.refl w.heap.size w).alloc (Nat.le_refl _) _).trans (hb1.mono (by simp)); have hit := blk_below (blk_alloc _ _) hb1; obtain ⟨⟨p10, f10⟩, hi, hg⟩ := eleven_10 hit (.int .i64 (P : Int)); have HIT := Lib.hid hi; have HB2 := Lib.hid (hb2.grown hg hb2.size (by simp)); obtain ⟨t0, t1, t2, t3, t4, t5, t6, t7, t8, t9, t10⟩ := eleven_cells hi; clear hit hi hg hb2 hb1)
      | (go_at_call 24; (with_reducible refine (pput_rowp q (P : Int) HQ0.out HO.out (z : Int) HZ.out [] HL.out 0 rfl C cn cc E en ec L ln lc _ (HP.out.below HB2.out) be bl).mono ?_); rintro e w2 ⟨B, c2, rfl, ho2, hb3⟩; have hit2 := blk_below HIT.out hb3; have hb4 := HB2.out.trans (hb3.mono HB2.out.size); have HO2 := Lib.hid ho2; clear ho2 t0 t1 t2 t3 t4 t5 t6 t7 t8 t9 t10 p10 f10))
    go_ret
    exact ⟨rfl, hb4⟩
theorem rtpPad_walk (p : Pkt) (C : Option Addr) (cn cc : Nat) (E : Option Addr) (en ec : Nat) (L : Option Addr) (ln lc : Nat) (pd a : Int) (w : World)
    (ra : Row w C cn cc 1 4 (u32s p.cs)) (re : Row w E en ec 1 1 (bys p.ex)) (rl : Row w L ln lc 1 1 (bys p.pl)) (ok : p.Ok) (be : en ≤ 140737488351232) (bl : ln ≤ 140737488351232) (hpd : -9223372036854775808 ≤ pd ∧ pd ≤ 9223372036854775807) (ha : -9223372036854775808 ≤ a ∧ a ≤ 9223372036854775807) :
    Calls Try.prog 11 #[.agg #[.bool p.mr, .int .i64 p.ty, .int .u16 p.sq, .int .u32 p.tm, .int .u32 p.ss, .slice C cn cc, .bool p.hx, .int .u16 p.pf, .slice E en ec, .slice L ln lc, .int .i64 p.pad], .int .i64 pd, .int .i64 a] w fun e w' => e = .returned (.bool true) ∧ Below w.heap.size w w' :=
  rtpPad_q { p with pad := pd } p.pad pd rfl a C cn cc E en ec L ln lc w ra re rl (pad_ok ok pd hpd) be bl ha hpd
namespace rtpPad
open Go.ChangeShapes Go.WideShapes Go.ChangeAt Go.RowKit
open Go.ChangeMaps (open_string shut_string)
set_option linter.unusedVariables false

theorem own : ownKnob Try.prog.godebug = none := by kernel_rfl
theorem laidOut : laidOutB Try.prog = true := by kernel_rfl

set_option maxRecDepth 100000 in
theorem lifted (os : Os) (started : os.Started) (H : Type) (enc : TypeId × Value → H) :
    ReturnsInHanded {} Try.checked os 11 .any (Rows.rtpPadSpec.pre6 enc Try.prog Try.f11 Rows.rtpPadRow.domain false) (Rows.rtpPadSpec.post enc Try.prog Try.f11 false true false false) := by
  refine returnsInHanded_of_change_sized (C := Try.checked) own started (by kernel_rfl) Try.func11
    (ChangeSpec.witness6 (enc := enc) (C := Try.checked) false ⟨#[], #[.agg #[.bool false, .int .i64 0, .int .u16 0, .int .u32 0, .int .u32 0, .slice none 0 0, .bool false, .int .u16 0, .slice none 0 0, .slice none 0 0, .int .i64 0], .int .i64 0, .int .i64 0], []⟩ 8 (by kernel_rfl) (by kernel_rfl) (by kernel_rfl) (by kernel_rfl)) ?_
  intro W base args ds gs before hval0 hW hcnd hsz0 _
  have hsz : (DataW.weightsEach Try.prog (Try.f11.params.toList ++ Rows.rtpPadSpec.plain.varTypes Try.prog) (ds ++ gs)).all (· ≤ reachBytes) = true := hsz0
  have hval : ∀ (j : Nat) t v, Try.f11.params[j]? = some t → args[j]? = some v → Value.okWide Try.prog W .any base t v := hval0
  have hW' := hW
  obtain ⟨p, q, hA0, hV, rfl, hfz, hnd⟩ := hW
  have hA : DataW.TrodAll enc Try.prog W 0 (fun _ => true) true Try.f11.params.toList args.toList ds p := hA0
  rw [Try.params11] at hA hval hsz
  obtain ⟨v0, vs0, d0, ds0, p0, q0, hargs, rfl, rfl, h0, r0⟩ := trodAll_cons hA
  obtain ⟨v1, vs1, d1, ds1, p1, q1, rfl, rfl, rfl, h1, r1⟩ := trodAll_cons r0
  obtain ⟨v2, vs2, d2, ds2, p2, q2, rfl, rfl, rfl, h2, r2⟩ := trodAll_cons r1
  obtain ⟨rfl, rfl, rfl⟩ := trodAll_nil r2
  obtain rfl : args = #[v0, v1, v2] := by cases args; simp_all
  obtain ⟨rfl, rfl⟩ := trodVars_none hV
  have k0 := h0
  have lt0 : ∀ x ∈ p0, x.block < W.heap.size := by obtain ⟨m, hm⟩ := k0; exact DataW.trod_lt m _ _ _ hm
  obtain ⟨P0, A0, n0, c0, E0, en0, ec0, L0, ln0, lc0, rfl, ra0, re0, rl0, ok0, be0, bl0⟩ := open_packet (hval 0 44 v0 rfl rfl) h0 (fun x hx => by have := List.all_eq_true.1 hsz _ (DataW.weights_mem_each (j := 0) rfl rfl x hx); simpa using this)
  obtain ⟨x1, rfl, rfl, rfl, w1⟩ := open_int Try.underlying3 (hval 1 3 v1 rfl rfl) h1
  obtain ⟨x2, rfl, rfl, rfl, w2⟩ := open_int Try.underlying3 (hval 2 3 v2 rfl rfl) h2
  clear hA0 hval0 hsz0
  refine (rtpPad_walk P0 A0 n0 c0 E0 en0 ec0 L0 ln0 lc0 x1 x2 W ra0 re0 rl0 ok0 be0 bl0 (bounds_i64 w1) (bounds_i64 w2)).mono fun e W' ⟨he, bel⟩ => ?_
  subst he
  exact ⟨_, rfl, _, _, _, [], _, [], hW', trodAll_mk1 (shut_bool Try.underlying4 _), (trodAll_cons_mk (Below.trod laidOut (by kernel_rfl) (of_decide_eq_true (by kernel_rfl)) k0 bel lt0) (trodAll_cons_mk (shut_int Try.underlying3 w1) (trodAll_cons_mk (shut_int Try.underlying3 w2) trodAll_mk0))), rfl, bel.frame _, fun h => by cases h⟩

/-- The statement. -/
theorem proved : Rows.RtpPadSaid :=
  OpenClaim.holds_of_wide 11 Try.f11 rfl rfl rfl rfl rfl rfl rfl ⟨rfl, rfl, rfl, rfl, rfl⟩ rfl rfl rfl rfl rfl (by kernel_rfl) Try.func11 (by kernel_rfl)
    (of_decide_eq_true (by kernel_rfl)) (by unfold Func.isWrapper; rw [if_neg (of_decide_eq_false (by kernel_rfl))]; exact ⟨rfl, rfl⟩)
    (fun os started H enc _ => lifted os started H enc)
#print axioms proved
end rtpPad
end Go.Proofs.Ytnkclbaeamcplaa
