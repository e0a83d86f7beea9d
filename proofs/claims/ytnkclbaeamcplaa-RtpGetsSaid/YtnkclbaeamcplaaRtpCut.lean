/-
RtpCut: a beginning of a packet without padding is it with less payload, or too short. For every packet and every length.
-/
import Derived.Test.YtnkclbaeamcplaaRtpTurn
import Derived.Test.YtnkclbaeamcplaaRtpBack
namespace Go.Proofs.Ytnkclbaeamcplaa
set_option linter.unusedVariables false
set_option linter.unusedSimpArgs false
open Go Go.RowKit

theorem eleven_10 {w : World} {g : Nat} {t : TypeId} {a0 a1 a2 a3 a4 a5 a6 a7 a8 a9 a10 : Value} (h : w.heap[g]? = some (.cells #[a0, a1, a2, a3, a4, a5, a6, a7, a8, a9, a10] t (0, 0))) (v10 : Value) :
    ((w).cell? ⟨g, 10, none⟩ = some a10 ∧ (w).frozen? ⟨g, 10, none⟩ = false) ∧ (((w).setCell ⟨g, 10, none⟩ v10)).heap[g]? = some (.cells #[a0, a1, a2, a3, a4, a5, a6, a7, a8, a9, v10] t (0, 0)) ∧ w.grownBy ((w).setCell ⟨g, 10, none⟩ v10) (some g) := by
  obtain ⟨c9, h9, g9⟩ := cell_set h 10 a10 v10 rfl
  exact ⟨c9, h9, g9⟩
theorem pput_rowp (p : Pkt) (x : Int) (hx : p.pad = x) (ok : p.Ok) (Z : Int) (hZ : Z = (errP p : Nat)) (l : List UInt8) (hl : outP p = l) (k : Nat) (hk : l.length = k) (C : Option Addr) (cn cc : Nat) (E : Option Addr) (en ec : Nat) (L : Option Addr) (ln lc : Nat) (w : World) (h : PRow w p C cn cc E en ec L ln lc) (b2 : en ≤ 140737488351232) (b3 : ln ≤ 140737488351232) :
    Calls Try.prog 24 #[.agg #[.bool p.mr, .int .i64 p.ty, .int .u16 p.sq, .int .u32 p.tm, .int .u32 p.ss, .slice C cn cc, .bool p.hx, .int .u16 p.pf, .slice E en ec, .slice L ln lc, .int .i64 x]] w fun e w' =>
      ∃ B c', e = .returned (.tuple #[.slice B k c', .int .i64 Z]) ∧ w'.ownsRow w.heap.size 5 1 (.slice B k c') k (bys l) ∧ Below w.heap.size w w' := by
  subst hx
  exact pput_row p ok Z hZ l hl k hk C cn cc E en ec L ln lc w h b2 b3
theorem samePkt_pl (q r : Pkt) (x : Int) (hx : q.pad = x) (pl : List UInt8) (hr : r = { q with pl := pl }) (C : Option Addr) (cn cc : Nat) (E : Option Addr) (en ec : Nat) (L : Option Addr) (ln lc : Nat) (C' : Option Addr) (cn' cc' : Nat) (E' : Option Addr) (en' ec' : Nat) (L' : Option Addr) (ln' lc' : Nat) (w : World)
    (h : PRow w { q with pl := pl } C cn cc E en ec L ln lc) (h' : PRow w r C' cn' cc' E' en' ec' L' ln' lc') :
    Calls Try.prog 31 #[.agg #[.bool q.mr, .int .i64 q.ty, .int .u16 q.sq, .int .u32 q.tm, .int .u32 q.ss, .slice C cn cc, .bool q.hx, .int .u16 q.pf, .slice E en ec, .slice L ln lc, .int .i64 x], .agg #[.bool r.mr, .int .i64 r.ty, .int .u16 r.sq, .int .u32 r.tm, .int .u32 r.ss, .slice C' cn' cc', .bool r.hx, .int .u16 r.pf, .slice E' en' ec', .slice L' ln' lc', .int .i64 r.pad]] w fun e w' =>
      e = .returned (.bool true) ∧ Below w.heap.size w w' := by
  subst hx
  exact samePkt_row { q with pl := pl } r hr C cn cc E en ec L ln lc C' cn' cc' E' en' ec' L' ln' lc' w h h'
theorem pget_keep (l : List UInt8) (q : Pkt) (Z : Int) (hq : getP l = q) (hZ : Z = (lookE l : Nat)) (A : Option Addr) (n c : Nat) (w : World) (h : Bts w A n c l) :
    Calls Try.prog 30 #[.slice A n c] w fun e w' => ∃ C cn cc E en ec L ln lc, e = .returned (.tuple #[.agg #[.bool q.mr, .int .i64 q.ty, .int .u16 q.sq, .int .u32 q.tm, .int .u32 q.ss, .slice C cn cc, .bool q.hx, .int .u16 q.pf, .slice E en ec, .slice L ln lc, .int .i64 q.pad], .int .i64 Z]) ∧
      Hid (∀ w1 w2 g, Below w'.heap.size w' w1 → w1.grownBy w2 (some g) → g < w.heap.size → PRow w2 q C cn cc E en ec L ln lc) ∧ Below w.heap.size w w' := by
  subst hq hZ
  refine (pget_any A n c l w h).mono ?_
  rintro e w' ⟨C, cn, cc, E, en, ec, L, ln, lc, rfl, h1, h2, h3, h4⟩
  refine ⟨C, cn, cc, E, en, ec, L, ln, lc, rfl, fun w1 w2 g hb hg hlt => ?_, h4⟩
  have key : ∀ {t : TypeId} {A : Option Addr} {n c : Nat} {xs : List Value}, w'.ownsRow w.heap.size t 1 (.slice A n c) n xs → w2.ownsRow w.heap.size t 1 (.slice A n c) n xs := fun ho => by
    have ho1 := ho.kept (own_below hb) (own_none _)
    refine ho1.kept hg (.inr fun e1 => ?_)
    rw [ownBlock_slice] at e1
    have := own_from ho1 g e1
    omega
  exact ⟨own_row32 (key h1), own_row8 (key h2), own_row8 (key h3)⟩
theorem Row.front {w : World} {A : Option Addr} {n c : Nat} {l : List UInt8} (h : Row w A n c 1 1 (bys l)) {d : Nat} (hd : d ≤ n) : Row w A d c 1 1 (bys (l.take d)) := by
  have hl := h.len
  rw [bys_length] at hl
  refine ⟨by rw [bys_length, List.length_take]; omega, Nat.le_trans hd h.nc, h.cm, fun e => ⟨by have := h.nil e; omega, (h.nil e).2⟩, ?_⟩
  rw [← bys_take]
  exact h.rd.take d
theorem own_leq {w : World} {base : Nat} {B : Option Addr} {n c : Nat} {l : List UInt8} (h : w.ownsRow base 5 1 (.slice B n c) n (bys l)) : n ≤ c := (own_cap h).1
set_option maxRecDepth 20000 in
set_option maxHeartbeats 4000000 in
theorem rtpCut_q (q : Pkt) (x : Int) (hq0 : q.pad = 0) (n : Int) (C : Option Addr) (cn cc : Nat) (E : Option Addr) (en ec : Nat) (L : Option Addr) (ln lc : Nat) (w : World)
    (ra : Row w C cn cc 1 4 (u32s q.cs)) (re : Row w E en ec 1 1 (bys q.ex)) (rl : Row w L ln lc 1 1 (bys q.pl)) (ok : q.Ok) (be : en ≤ 140737488351232) (bl : ln ≤ 140737488351232) (hn : -9223372036854775808 ≤ n ∧ n ≤ 9223372036854775807) :
    Calls Try.prog 10 #[.agg #[.bool q.mr, .int .i64 q.ty, .int .u16 q.sq, .int .u32 q.tm, .int .u32 q.ss, .slice C cn cc, .bool q.hx, .int .u16 q.pf, .slice E en ec, .slice L ln lc, .int .i64 x], .int .i64 n] w fun e w' => e = .returned (.bool true) ∧ Below w.heap.size w w' := by
  have HP : Hid (PRow w q C cn cc E en ec L ln lc) := ⟨ra, re, rl⟩
  have HO := Lib.hid ok
  have HQ0 := Lib.hid hq0
  have hlc := rl.nc
  have hlm := rl.cm
  unfold maxLen at hlm
  clear ra re rl ok
  by_cases h0 : errP q = 0
  · have hm := (err_may h0).1
    obtain ⟨k, hkk⟩ : ∃ k, (pktL q).length = k := ⟨_, rfl⟩
    have HK := Lib.hid hkk
    have hk5 : k ≤ 512 := by rw [← hkk, sizeP_len hm]; exact (err_may h0).2
    have HZ : Hid ((0 : Int) = (errP q : Nat)) := by show _ = _; rw [h0]; rfl
    have HL : Hid (outP q = pktL q) := outP_yes h0
    obtain ⟨hd, hhd⟩ : ∃ hd, headP q = hd := ⟨_, rfl⟩
    have hkl : k = hd + ln := by rw [← hkk, sizeP_len hm, ← hhd, ← HP.out.hln]; unfold sizeP; rw [if_pos hm, hq0]; rfl
    by_cases hneg : n < 0
    · clear hkk hhd h0 hm hq0
      go_enter Try.func10, Try.ntmps10
      go_wp2_with (first
        | (go_at_call 23; (with_reducible refine (shown5_any _).mono ?_); rintro e w1 ⟨rfl, hb1⟩; have hb2 := ((Below.refl w.heap.size w).alloc (Nat.le_refl _) _).trans (hb1.mono (by simp)); have hit := blk_below (blk_alloc _ _) hb1; obtain ⟨⟨p10, f10⟩, hi, hg⟩ := eleven_10 hit (.int .i64 0); have HIT := Lib.hid hi; have HB2 := Lib.hid (hb2.grown hg hb2.size (by simp)); obtain ⟨t0, t1, t2, t3, t4, t5, t6, t7, t8, t9, t10⟩ := eleven_cells hi; clear hit hi hg hb2 hb1)
        | (go_at_call 24; (with_reducible refine (pput_rowp q 0 HQ0.out HO.out 0 HZ.out (pktL q) HL.out k HK.out C cn cc E en ec L ln lc _ (HP.out.below HB2.out) be bl).mono ?_); rintro e w2 ⟨B, c2, rfl, ho2, hb3⟩; have hit2 := blk_below HIT.out hb3; have hb4 := HB2.out.trans (hb3.mono HB2.out.size); have HO2 := Lib.hid ho2; have hmc := own_leq ho2; clear ho2 t0 t1 t2 t3 t4 t5 t6 t7 t8 t9 t10 p10 f10))
      go_ret
      exact ⟨rfl, hb4⟩
    · obtain ⟨m, rfl⟩ : ∃ m : Nat, n = m := ⟨n.toNat, by omega⟩
      by_cases hbig : k < m
      · have gk : decide ((k : Int) < (m : Int)) = true := by simp; omega
        have gk2 : decide (k < m) = true := by simp; omega
        clear hkk hhd h0 hm hq0 hneg
        go_enter Try.func10, Try.ntmps10
        go_wp2_with (first
          | (go_at_call 23; (with_reducible refine (shown5_any _).mono ?_); rintro e w1 ⟨rfl, hb1⟩; have hb2 := ((Below.refl w.heap.size w).alloc (Nat.le_refl _) _).trans (hb1.mono (by simp)); have hit := blk_below (blk_alloc _ _) hb1; obtain ⟨⟨p10, f10⟩, hi, hg⟩ := eleven_10 hit (.int .i64 0); have HIT := Lib.hid hi; have HB2 := Lib.hid (hb2.grown hg hb2.size (by simp)); obtain ⟨t0, t1, t2, t3, t4, t5, t6, t7, t8, t9, t10⟩ := eleven_cells hi; clear hit hi hg hb2 hb1)
          | (go_at_call 24; (with_reducible refine (pput_rowp q 0 HQ0.out HO.out 0 HZ.out (pktL q) HL.out k HK.out C cn cc E en ec L ln lc _ (HP.out.below HB2.out) be bl).mono ?_); rintro e w2 ⟨B, c2, rfl, ho2, hb3⟩; have hit2 := blk_below HIT.out hb3; have hb4 := HB2.out.trans (hb3.mono HB2.out.size); have HO2 := Lib.hid ho2; have hmc := own_leq ho2; clear ho2 t0 t1 t2 t3 t4 t5 t6 t7 t8 t9 t10 p10 f10))
        go_ret
        exact ⟨rfl, hb4⟩
      · have gk : decide ((k : Int) < (m : Int)) = false := by simp; omega
        have gk2 : decide (k < m) = false := by simp; omega
        have gm : decide ((m : Int) < 0) = false := by simp
        have hmk : m ≤ k := by omega
        have hmI : (m : Int) ≤ (k : Int) := by omega
        have hsub : (k : Int) - (ln : Int) = (hd : Int) := by omega
        have HT : Hid (((pktL q).take m).length = m) := by show _ = _; rw [List.length_take, hkk]; omega
        by_cases hsh : m < hd
        · have gh2 : decide (m < hd) = true := by simp; omega
          have HG := Lib.hid (cut_short HO.out h0 m (by rw [hhd]; exact hsh))
          have HY : Hid ((2 : Int) = (lookE ((pktL q).take m) : Nat)) := by show _ = _; rw [HG.out]; rfl
          have HZP : Hid (getP ((pktL q).take m) = zeroP) := getP_zero (by rw [HG.out]; decide)
          have gh : decide ((m : Int) < (hd : Int)) = true := by simp; omega
          clear hkk hhd h0 hm hq0 hneg hbig hkl
          go_enter Try.func10, Try.ntmps10
          go_wp2_with (first
            | (go_at_call 23; (with_reducible refine (shown5_any _).mono ?_); rintro e w1 ⟨rfl, hb1⟩; have hb2 := ((Below.refl w.heap.size w).alloc (Nat.le_refl _) _).trans (hb1.mono (by simp)); have hit := blk_below (blk_alloc _ _) hb1; obtain ⟨⟨p10, f10⟩, hi, hg⟩ := eleven_10 hit (.int .i64 0); have HIT := Lib.hid hi; have HB2 := Lib.hid (hb2.grown hg hb2.size (by simp)); obtain ⟨t0, t1, t2, t3, t4, t5, t6, t7, t8, t9, t10⟩ := eleven_cells hi; clear hit hi hg hb2 hb1)
            | (go_at_call 24; (with_reducible refine (pput_rowp q 0 HQ0.out HO.out 0 HZ.out (pktL q) HL.out k HK.out C cn cc E en ec L ln lc _ (HP.out.below HB2.out) be bl).mono ?_); rintro e w2 ⟨B, c2, rfl, ho2, hb3⟩; have hit2 := blk_below HIT.out hb3; have hb4 := HB2.out.trans (hb3.mono HB2.out.size); have HO2 := Lib.hid ho2; have hmc := Nat.le_trans hmk (own_leq ho2); clear ho2 t0 t1 t2 t3 t4 t5 t6 t7 t8 t9 t10 p10 f10)
            | (go_at_call 30; (with_reducible refine (pget_row ((pktL q).take m) zeroP 2 HZP.out HY.out B m c2 w2 ⟨HT.out, Nat.le_trans hmk (own_cap HO2.out).1, (own_cap HO2.out).2, (by rw [← bys_take]; exact (Rd.own HO2.out).take m)⟩).mono ?_); rintro e w3 ⟨C3, cn3, cc3, E3, en3, ec3, L3, ln3, lc3, rfl, HP3, hb5⟩; have hit3 := blk_below hit2 hb5; have hit4 := fun o => blk_below hit3 ((Below.refl w3.heap.size w3).alloc (Nat.le_refl _) o); have hb6 := hb4.trans (hb5.mono hb4.size); have hb7 := fun o => hb6.alloc hb6.size o; have HPx := Lib.hid (fun o => HP3.out.below ((Below.refl w3.heap.size w3).alloc (Nat.le_refl _) o)); have x9 := fun o => (eleven_cells (hit4 o)).2.2.2.2.2.2.2.2.2.1)
            | (go_at_call 31; (with_reducible refine (samePkt_zero C3 cn3 cc3 E3 en3 ec3 L3 ln3 lc3 _ (HPx.out _)).mono ?_); rintro e w4 ⟨rfl, hb8⟩))
          go_ret
          exact ⟨rfl, (hb7 _).trans (hb8.mono (hb7 _).size)⟩
        · obtain ⟨d, hmd⟩ : ∃ d, m = hd + d := ⟨m - hd, by omega⟩
          obtain ⟨r, hr⟩ : ∃ r, getP ((pktL q).take m) = r := ⟨_, rfl⟩
          obtain ⟨hg1, hg2⟩ := cut_long HO.out h0 hq0 m (by rw [hhd]; omega)
          rw [hr, hhd, show m - hd = d by omega] at hg2
          have HR := Lib.hid hg2
          have HRr := Lib.hid hr
          have HY : Hid ((0 : Int) = (lookE ((pktL q).take m) : Nat)) := by show _ = _; rw [hg1]; rfl
          have gh : decide ((m : Int) < (hd : Int)) = false := by simp; omega
          have gh2 : decide (m < hd) = false := by simp; omega
          have hdl : d ≤ ln := by omega
          have hsd : (m : Int) - (hd : Int) = (d : Int) := by omega
          have hdc : (d : Int) ≤ (lc : Int) := by omega
          have hdc' : d ≤ lc := by omega
          clear hkk hhd h0 hm hq0 hneg hbig hkl hr hg1 hg2 hsh hmd
          go_enter Try.func10, Try.ntmps10
          go_upto_if 45 with (first
            | (go_at_call 23; (with_reducible refine (shown5_any _).mono ?_); rintro e w1 ⟨rfl, hb1⟩; have hb2 := ((Below.refl w.heap.size w).alloc (Nat.le_refl _) _).trans (hb1.mono (by simp)); have hit := blk_below (blk_alloc _ _) hb1; obtain ⟨⟨p10, f10⟩, hi, hg⟩ := eleven_10 hit (.int .i64 0); have HIT := Lib.hid hi; have HB2 := Lib.hid (hb2.grown hg hb2.size (by simp)); obtain ⟨t0, t1, t2, t3, t4, t5, t6, t7, t8, t9, t10⟩ := eleven_cells hi; clear hit hi hg hb2 hb1)
            | (go_at_call 24; (with_reducible refine (pput_rowp q 0 HQ0.out HO.out 0 HZ.out (pktL q) HL.out k HK.out C cn cc E en ec L ln lc _ (HP.out.below HB2.out) be bl).mono ?_); rintro e w2 ⟨B, c2, rfl, ho2, hb3⟩; have hit2 := blk_below HIT.out hb3; have hb4 := HB2.out.trans (hb3.mono HB2.out.size); have HO2 := Lib.hid ho2; have hmc := Nat.le_trans hmk (own_leq ho2); clear ho2 t0 t1 t2 t3 t4 t5 t6 t7 t8 t9 t10 p10 f10)
            | (go_at_call 30; (with_reducible refine (pget_keep ((pktL q).take m) r 0 HRr.out HY.out B m c2 w2 ⟨HT.out, Nat.le_trans hmk (own_cap HO2.out).1, (own_cap HO2.out).2, (by rw [← bys_take]; exact (Rd.own HO2.out).take m)⟩).mono ?_); rintro e w3 ⟨C3, cn3, cc3, E3, en3, ec3, L3, ln3, lc3, rfl, HP3, hb5⟩; have hit3 := blk_below hit2 hb5; have hit4 := blk_below hit3 ((Below.refl w3.heap.size w3).alloc (Nat.le_refl _) (.cells #[.bool r.mr, .int .i64 r.ty, .int .u16 r.sq, .int .u32 r.tm, .int .u32 r.ss, .slice C3 cn3 cc3, .bool r.hx, .int .u16 r.pf, .slice E3 en3 ec3, .slice L3 ln3 lc3, .int .i64 r.pad] 44)); have hnew := heap_alloc_new w3 (.cells #[.bool r.mr, .int .i64 r.ty, .int .u16 r.sq, .int .u32 r.tm, .int .u32 r.ss, .slice C3 cn3 cc3, .bool r.hx, .int .u16 r.pf, .slice E3 en3 ec3, .slice L3 ln3 lc3, .int .i64 r.pad] 44); have hb6 := hb4.trans (hb5.mono hb4.size); have hb7 := hb6.alloc hb6.size (.cells #[.bool r.mr, .int .i64 r.ty, .int .u16 r.sq, .int .u32 r.tm, .int .u32 r.ss, .slice C3 cn3 cc3, .bool r.hx, .int .u16 r.pf, .slice E3 en3 ec3, .slice L3 ln3 lc3, .int .i64 r.pad] 44); have hlt3 := blk_in hit3; have x9 := (eleven_cells hit4).2.2.2.2.2.2.2.2.2.1; obtain ⟨⟨p9, f9⟩, hi9, hg9⟩ := eleven_9 hit4 (.slice L d lc); have HI9 := Lib.hid hi9; have HN9 := Lib.hid ((hg9.block _ (blk_in hnew) (fun e => by injection e with e; omega)).trans hnew); have HB9 := Lib.hid (hb7.grown hg9 hb7.size (by simp)); have HPy := Lib.hid (HP3.out _ _ w.heap.size ((Below.refl w3.heap.size w3).alloc (Nat.le_refl _) (.cells #[.bool r.mr, .int .i64 r.ty, .int .u16 r.sq, .int .u32 r.tm, .int .u32 r.ss, .slice C3 cn3 cc3, .bool r.hx, .int .u16 r.pf, .slice E3 en3 ec3, .slice L3 ln3 lc3, .int .i64 r.pad] 44)) hg9 (blk_in hit2)); have HPz : Hid (PRow _ { q with pl := q.pl.take d } C cn cc E en ec L d lc) := ⟨(HP.out.below HB9.out).rc, (HP.out.below HB9.out).re, (HP.out.below HB9.out).rl.front hdl⟩; obtain ⟨y0, y1, y2, y3, y4, y5, y6, y7, y8, y9, y10⟩ := eleven_cells HI9.out; obtain ⟨z0, z1, z2, z3, z4, z5, z6, z7, z8, z9, z10⟩ := eleven_cells HN9.out; clear hit3 hit4 hnew hb6 hb7 hi9 hg9))
          generalize w3.alloc (.cells #[.bool r.mr, .int .i64 r.ty, .int .u16 r.sq, .int .u32 r.tm, .int .u32 r.ss, .slice C3 cn3 cc3, .bool r.hx, .int .u16 r.pf, .slice E3 en3 ec3, .slice L3 ln3 lc3, .int .i64 r.pad] 44) = W3 at *
          go_wp2_with ((go_at_call 31; (with_reducible refine (samePkt_pl q r 0 HQ0.out (q.pl.take d) HR.out C cn cc E en ec L d lc C3 cn3 cc3 E3 en3 ec3 L3 ln3 lc3 _ HPz.out HPy.out).mono ?_); rintro e w4 ⟨rfl, hb8⟩))
          go_ret
          exact ⟨rfl, HB9.out.trans (hb8.mono HB9.out.size)⟩
  · obtain ⟨z, hz⟩ : ∃ z, errP q = z := ⟨_, rfl⟩
    have HZ : Hid ((z : Int) = (errP q : Nat)) := by show _ = _; rw [hz]
    have HL := Lib.hid (outP_nil h0)
    rw [hz] at h0
    have hz0 : ((z : Int) != 0) = true := by simp; omega
    clear hz h0 hq0
    go_enter Try.func10, Try.ntmps10
    go_wp2_with (first
      | (go_at_call 23; (with_reducible refine (shown5_any _).mono ?_); rintro e w1 ⟨rfl, hb1⟩; have hb2 := ((Below.refl w.heap.size w).alloc (Nat.le_refl _) _).trans (hb1.mono (by simp)); have hit := blk_below (blk_alloc _ _) hb1; obtain ⟨⟨p10, f10⟩, hi, hg⟩ := eleven_10 hit (.int .i64 0); have HIT := Lib.hid hi; have HB2 := Lib.hid (hb2.grown hg hb2.size (by simp)); obtain ⟨t0, t1, t2, t3, t4, t5, t6, t7, t8, t9, t10⟩ := eleven_cells hi; clear hit hi hg hb2 hb1)
      | (go_at_call 24; (with_reducible refine (pput_rowp q 0 HQ0.out HO.out (z : Int) HZ.out [] HL.out 0 rfl C cn cc E en ec L ln lc _ (HP.out.below HB2.out) be bl).mono ?_); rintro e w2 ⟨B, c2, rfl, ho2, hb3⟩; have hit2 := blk_below HIT.out hb3; have hb4 := HB2.out.trans (hb3.mono HB2.out.size); have HO2 := Lib.hid ho2; have hmc := own_leq ho2; clear ho2 t0 t1 t2 t3 t4 t5 t6 t7 t8 t9 t10 p10 f10))
    go_ret
    exact ⟨rfl, hb4⟩
theorem rtpCut_walk (p : Pkt) (C : Option Addr) (cn cc : Nat) (E : Option Addr) (en ec : Nat) (L : Option Addr) (ln lc : Nat) (n : Int) (w : World)
    (ra : Row w C cn cc 1 4 (u32s p.cs)) (re : Row w E en ec 1 1 (bys p.ex)) (rl : Row w L ln lc 1 1 (bys p.pl)) (ok : p.Ok) (be : en ≤ 140737488351232) (bl : ln ≤ 140737488351232) (hn : -9223372036854775808 ≤ n ∧ n ≤ 9223372036854775807) :
    Calls Try.prog 10 #[.agg #[.bool p.mr, .int .i64 p.ty, .int .u16 p.sq, .int .u32 p.tm, .int .u32 p.ss, .slice C cn cc, .bool p.hx, .int .u16 p.pf, .slice E en ec, .slice L ln lc, .int .i64 p.pad], .int .i64 n] w fun e w' => e = .returned (.bool true) ∧ Below w.heap.size w w' :=
  rtpCut_q { p with pad := 0 } p.pad rfl n C cn cc E en ec L ln lc w ra re rl (pad_ok ok 0 (by omega)) be bl hn
namespace rtpCut
open Go.ChangeShapes Go.WideShapes Go.ChangeAt Go.RowKit
open Go.ChangeMaps (open_string shut_string)
set_option linter.unusedVariables false

theorem own : ownKnob Try.prog.godebug = none := by kernel_rfl
theorem laidOut : laidOutB Try.prog = true := by kernel_rfl

set_option maxRecDepth 100000 in
theorem lifted (os : Os) (started : os.Started) (H : Type) (enc : TypeId × Value → H) :
    ReturnsInHanded {} Try.checked os 10 .any (Rows.rtpCutSpec.pre6 enc Try.prog Try.f10 Rows.rtpCutRow.domain false) (Rows.rtpCutSpec.post enc Try.prog Try.f10 false true false false) := by
  refine returnsInHanded_of_change_sized (C := Try.checked) own started (by kernel_rfl) Try.func10
    (ChangeSpec.witness6 (enc := enc) (C := Try.checked) false ⟨#[], #[.agg #[.bool false, .int .i64 0, .int .u16 0, .int .u32 0, .int .u32 0, .slice none 0 0, .bool false, .int .u16 0, .slice none 0 0, .slice none 0 0, .int .i64 0], .int .i64 0], []⟩ 8 (by kernel_rfl) (by kernel_rfl) (by kernel_rfl) (by kernel_rfl)) ?_
  intro W base args ds gs before hval0 hW hcnd hsz0 _
  have hsz : (DataW.weightsEach Try.prog (Try.f10.params.toList ++ Rows.rtpCutSpec.plain.varTypes Try.prog) (ds ++ gs)).all (· ≤ reachBytes) = true := hsz0
  have hval : ∀ (j : Nat) t v, Try.f10.params[j]? = some t → args[j]? = some v → Value.okWide Try.prog W .any base t v := hval0
  have hW' := hW
  obtain ⟨p, q, hA0, hV, rfl, hfz, hnd⟩ := hW
  have hA : DataW.TrodAll enc Try.prog W 0 (fun _ => true) true Try.f10.params.toList args.toList ds p := hA0
  rw [Try.params10] at hA hval hsz
  obtain ⟨v0, vs0, d0, ds0, p0, q0, hargs, rfl, rfl, h0, r0⟩ := trodAll_cons hA
  obtain ⟨v1, vs1, d1, ds1, p1, q1, rfl, rfl, rfl, h1, r1⟩ := trodAll_cons r0
  obtain ⟨rfl, rfl, rfl⟩ := trodAll_nil r1
  obtain rfl : args = #[v0, v1] := by cases args; simp_all
  obtain ⟨rfl, rfl⟩ := trodVars_none hV
  have k0 := h0
  have lt0 : ∀ x ∈ p0, x.block < W.heap.size := by obtain ⟨m, hm⟩ := k0; exact DataW.trod_lt m _ _ _ hm
  obtain ⟨P0, A0, n0, c0, E0, en0, ec0, L0, ln0, lc0, rfl, ra0, re0, rl0, ok0, be0, bl0⟩ := open_packet (hval 0 44 v0 rfl rfl) h0 (fun x hx => by have := List.all_eq_true.1 hsz _ (DataW.weights_mem_each (j := 0) rfl rfl x hx); simpa using this)
  obtain ⟨x1, rfl, rfl, rfl, w1⟩ := open_int Try.underlying3 (hval 1 3 v1 rfl rfl) h1
  clear hA0 hval0 hsz0
  refine (rtpCut_walk P0 A0 n0 c0 E0 en0 ec0 L0 ln0 lc0 x1 W ra0 re0 rl0 ok0 be0 bl0 (bounds_i64 w1)).mono fun e W' ⟨he, bel⟩ => ?_
  subst he
  exact ⟨_, rfl, _, _, _, [], _, [], hW', trodAll_mk1 (shut_bool Try.underlying4 _), (trodAll_cons_mk (Below.trod laidOut (by kernel_rfl) (of_decide_eq_true (by kernel_rfl)) k0 bel lt0) (trodAll_cons_mk (shut_int Try.underlying3 w1) trodAll_mk0)), rfl, bel.frame _, fun h => by cases h⟩

/-- The statement. -/
theorem proved : Rows.RtpCutSaid :=
  OpenClaim.holds_of_wide 10 Try.f10 rfl rfl rfl rfl rfl rfl rfl ⟨rfl, rfl, rfl, rfl, rfl⟩ rfl rfl rfl rfl rfl (by kernel_rfl) Try.func10 (by kernel_rfl)
    (of_decide_eq_true (by kernel_rfl)) (by unfold Func.isWrapper; rw [if_neg (of_decide_eq_false (by kernel_rfl))]; exact ⟨rfl, rfl⟩)
    (fun os started H enc _ => lifted os started H enc)
#print axioms proved
end rtpCut
end Go.Proofs.Ytnkclbaeamcplaa
