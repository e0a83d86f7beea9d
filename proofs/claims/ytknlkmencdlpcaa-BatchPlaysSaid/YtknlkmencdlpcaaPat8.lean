/-
What FrameOf of the reference tells.
What Apply of the reference tells.
-/
import Derived.Test.YtknlkmencdlpcaaPat6
namespace Go.Proofs.Ytknlkmencdlpcaa
set_option linter.unusedVariables false
set_option linter.unusedSimpArgs false
open Go Go.RowKit

theorem four_03 {w : World} {g : Nat} {t : TypeId} {a0 a1 a2 a3 : Value} (h : w.heap[g]? = some (.cells #[a0, a1, a2, a3] t (0, 0))) (v0 v3 : Value) :
    (w.cell? ⟨g, 0, none⟩ = some a0 ∧ w.frozen? ⟨g, 0, none⟩ = false) ∧ ((w.setCell ⟨g, 0, none⟩ v0).cell? ⟨g, 3, none⟩ = some a3 ∧ (w.setCell ⟨g, 0, none⟩ v0).frozen? ⟨g, 3, none⟩ = false) ∧
      ((w.setCell ⟨g, 0, none⟩ v0).setCell ⟨g, 3, none⟩ v3).heap[g]? = some (.cells #[v0, a1, a2, v3] t (0, 0)) ∧ w.grownBy ((w.setCell ⟨g, 0, none⟩ v0).setCell ⟨g, 3, none⟩ v3) (some g) := by
  obtain ⟨c2, h2, g2⟩ := cell_set h 0 a0 v0 rfl
  obtain ⟨c3, h3, g3⟩ := cell_set h2 3 a3 v3 rfl
  exact ⟨c2, c3, h3, grown_tr g2 g3⟩
/-- The part of a payload behind its descriptor. -/
theorem tail_rd {w : World} {base : Nat} {L : Option Addr} {ln lc : Nat} {l : List UInt8} (h : w.ownsRow base 5 1 (.slice L ln lc) ln (bys l)) (h4 : 4 ≤ ln) : Rd w (if lc = 4 then L else L.map (·.add 4)) (bys (l.drop 4)) := by
  have hb := own_bts h
  obtain ⟨ad, rfl, _⟩ := bts_byte hb (k := 0) (by omega)
  have hl : (l.drop 4).take (ln - 4) = l.drop 4 := List.take_of_length_le (by rw [List.length_drop, hb.len]; exact Nat.le_refl _)
  split
  · rename_i hc
    have := part_nil hb 4 (ln - 4) (by omega) hc
    rwa [hl] at this
  · have := part_rd hb 4 (ln - 4) (by omega)
    rwa [hl] at this
set_option maxRecDepth 20000 in
set_option maxHeartbeats 4000000 in
theorem rframeOf_any (A : Option Addr) (n c : Nat) (l : List UInt8) (k : Int) (f : Nat) (hf : f < 65536) (w : World) (h : Bts w A n c l) (hn : n ≤ 140737488351232) :
    Calls Try.prog 19 #[.slice A n c, .int .i64 k, .int .u16 f] w fun e w' => ∃ B c', e = .returned (.tuple #[.slice B n c', .bool (okD l && decide (0 ≤ k ∧ k ≤ 2))]) ∧ w'.ownsRow w.heap.size 5 1 (.slice B n c') n (bys (frP l k f)) ∧ Below w.heap.size w w' := by
  have HB := Lib.hid h
  have hln := h.len
  clear h
  cases hok : okD l
  · have HK := Lib.hid hok
    have HR : Hid (frP l k f = l) := by show _ = _; unfold frP; rw [hok]; rfl
    obtain ⟨z, hz⟩ : ∃ z, mE l = z := ⟨_, rfl⟩
    have hne := mE_ne hok
    rw [hz] at hne
    have HZ := Lib.hid hz
    clear hok hz
    go_enter Try.func19, Try.ntmps19
    go_wp2_with (first
      | (go_at_call 80; (with_reducible refine (media_no l z HK.out HZ.out A n c _ HB.out).mono ?_); rintro e w1 ⟨C, cn, cc, E, en, ec, L, ln, lc, rfl, HP, hb1⟩; have hbw := hb1)
      | (refine wpList_store_blk rfl 39 (.tmp 8) (.tmp 16) rfl w1.heap.size _ #[.bool false, .int .i64 0, .int .u16 0, .int .u32 0, .int .u32 0, .slice C cn cc, .bool false, .int .u16 0, .slice E en ec, .slice L ln lc, .int .i64 0] _ rfl rfl (two_new w1 _ _).2.1 rfl (by kernel_rfl) (by simp [Value.oneCell']) ?_; intro w5 hi5 hg5; have hj5 := two_second hg5)
      | (refine wpList_store_blk rfl 109 (.tmp 9) (.tmp 17) rfl (w1.heap.size + 1) _ #[.int .i64 0, .bool false, .bool false, .int .u16 0] _ rfl rfl hj5 rfl (by kernel_rfl) (by simp [Value.oneCell']) ?_; intro w6 hi6 hg6; obtain ⟨hbs, hi7, hs6⟩ := two_stored hg5 hi5 hg6; have hb6 := hbw.trans (hbs.mono hbw.size))
      | (at_builtin; refine wpList_app slU8 rfl _ _ rfl w.heap.size none 0 0 [] rfl (World.ownsRow_nil _ _ _ _) A n c (bys l) rfl (by rw [bys_length, hln, Nat.mul_one]) (HB.out.below hb6).rd (bys_one _) (by omega) hb6.size ?_; intro A4 c4 w7 ho4 hg4 hA4; simp only [Nat.zero_add, List.nil_append] at ho4; have hb7 := hb6.grown hg4 hb6.size (by simp)))
    exact bodyPost_ret (v := .tuple #[.slice A4 (0 + n) c4, .bool false]) (by simp [results, Try.results19, go_sem]) rfl ⟨A4, c4, by simp, by rw [HR.out]; exact ho4, hb7⟩
  · have HK := Lib.hid hok
    obtain ⟨q, hq⟩ : ∃ q, getP l = q := ⟨_, rfl⟩
    have HQ := Lib.hid hq
    by_cases hk : 0 ≤ k ∧ k ≤ 2
    · obtain ⟨kk, rfl⟩ : ∃ kk : Nat, k = (kk : Int) := ⟨k.toNat, by omega⟩
      have hkk : kk ≤ 2 := by omega
      have HR : Hid (frP l (kk : Int) f = frL l kk f) := by show _ = _; unfold frP; rw [hok, decide_eq_true hk, Int.toNat_natCast]; rfl
      rw [decide_eq_true hk]
      obtain ⟨hE, hP⟩ := fr_get hok hkk hf
      have hfl : (frL l kk f).length = n := by rw [(Alike.desc (okD_look hok) (okD_room hok).2.1 kk f hf).len, hln]
      obtain ⟨o1, o2⟩ := out_get hE
      have ⟨hok1, hok2⟩ := getP_lens l
      have hqok := getP_ok l
      have hqpl : plG l = q.pl := by rw [← (getP_f (okD_look hok)).2.2.2, hq]
      have hq4 : 4 ≤ q.pl.length := by
        obtain ⟨_, r1, r2, _⟩ := okD_room hok
        rw [← hqpl]; unfold plG; rw [List.length_take, List.length_drop]; omega
      rw [hqpl, hq] at hP
      rw [hq] at hok1 hok2 hqok
      rw [hP] at o1 o2
      have HD := Lib.hid (show dP (kk : Int) (dK q.pl) (dS q.pl) f = descL kk (dK q.pl) (dS q.pl) f by unfold dP mayD; rw [if_pos (by simp; omega)]; rfl)
      have HOK : Hid ({ q with pl := descL kk (dK q.pl) (dS q.pl) f ++ q.pl.drop 4 } : Pkt).Ok := pl_ok hqok _
      have HO1 : Hid ((0 : Int) = (errP { q with pl := descL kk (dK q.pl) (dS q.pl) f ++ q.pl.drop 4 } : Nat)) := by show _ = _; rw [o1]; rfl
      have HO2 := Lib.hid o2
      clear hok hq hk hE hP o1 o2 hqpl hqok
      go_enter Try.func19, Try.ntmps19
      go_wp2_with (first
        | (go_at_call 80; (with_reducible refine (media_ok l q HK.out HQ.out A n c _ HB.out).mono ?_); rintro e w1 ⟨C, cn, cc, E, en, ec, L, ln, lc, rfl, HP, hb1⟩; have hbw := hb1; have hln4 : 4 ≤ ln := (by rw [← HP.out.row.hln]; exact hq4); obtain ⟨ad, rfl, _⟩ := bts_byte (own_bts HP.out.ol) (k := 0) (by omega))
        | (refine wpList_store_blk rfl 39 (.tmp 8) (.tmp 16) rfl w1.heap.size _ #[.bool q.mr, .int .i64 q.ty, .int .u16 q.sq, .int .u32 q.tm, .int .u32 q.ss, .slice C cn cc, .bool q.hx, .int .u16 q.pf, .slice E en ec, .slice (some ad) ln lc, .int .i64 q.pad] _ rfl rfl (two_new w1 _ _).2.1 rfl (by kernel_rfl) (by simp [Value.oneCell']) ?_; intro w5 hi5 hg5; have hj5 := two_second hg5)
        | (refine wpList_store_blk rfl 109 (.tmp 9) (.tmp 17) rfl (w1.heap.size + 1) _ #[.int .i64 (dL q.pl), .bool (dK q.pl), .bool (dS q.pl), .int .u16 (dF q.pl)] _ rfl rfl hj5 rfl (by kernel_rfl) (by simp [Value.oneCell']) ?_; intro w6 hi6 hg6; obtain ⟨hbs, hi7, hs6⟩ := two_stored hg5 hi5 hg6; have hb6 := hbw.trans (hbs.mono hbw.size); have HP6 := Lib.hid (HP.out.below hbs); obtain ⟨⟨y1, y2⟩, ⟨y3, y4⟩, hi8, hg8⟩ := four_03 hi6 (.int .i64 kk) (.int .u16 f))
        | fail)
      refine region_planA (calmB_sound _) (.fork [0, 2] (.leaf [3, 4, 1, 5, 6, 7]) (.leaf [1, 3, 4, 5, 6, 7])) (by kernel_rfl) (by kernel_rfl) (by kernel_rfl) ?_
      have hp8 : (((w6.setCell ⟨w1.heap.size + 1, 0, none⟩ (.int .i64 kk)).setCell ⟨w1.heap.size + 1, 3, none⟩ (.int .u16 f)).drew).heap[w1.heap.size]? = _ := (four_keep hi7 hg8 (by omega) : ((w6.setCell ⟨w1.heap.size + 1, 0, none⟩ (.int .i64 kk)).setCell ⟨w1.heap.size + 1, 3, none⟩ (.int .u16 f)).heap[w1.heap.size]? = _)
      have hd8 : (((w6.setCell ⟨w1.heap.size + 1, 0, none⟩ (.int .i64 kk)).setCell ⟨w1.heap.size + 1, 3, none⟩ (.int .u16 f)).drew).heap[w1.heap.size + 1]? = _ := hi8
      have HP8 : Hid (POwn (((w6.setCell ⟨w1.heap.size + 1, 0, none⟩ (.int .i64 kk)).setCell ⟨w1.heap.size + 1, 3, none⟩ (.int .u16 f)).drew) w.heap.size q C cn cc E en ec (some ad) ln lc) := (HP6.out.over hi6 (by decide) (by decide) hg8).below (Below.refl _ _).drew
      have hb8 : Below w.heap.size w (((w6.setCell ⟨w1.heap.size + 1, 0, none⟩ (.int .i64 kk)).setCell ⟨w1.heap.size + 1, 3, none⟩ (.int .u16 f)).drew) := (hb6.grown hg8 hb6.size (fun q hq => by injection hq with hq; have := hbw.size; omega)).drew
      have hlnq : q.pl.length - 4 = ln - 4 := by rw [HP8.out.row.hln]
      clear y1 y2 y3 y4 hi8 hg8 hi7 hi6 hi5 hg5 hg6 hj5
      generalize ((w6.setCell ⟨w1.heap.size + 1, 0, none⟩ (.int .i64 kk)).setCell ⟨w1.heap.size + 1, 3, none⟩ (.int .u16 f)).drew = w8 at *
      obtain ⟨p0, p1, p2, p3, p4, p5, p6, p7, p8, p9, p10⟩ := eleven_cells hp8
      obtain ⟨d0, d1, d2, d3⟩ := four_set hd8
      refine wpPlan_fork fun P1 hP1 => ?_
      simp only [List.filterMap_cons, List.filterMap_nil, List.getElem?_toArray, List.getElem?_cons_succ, List.getElem?_cons_zero]
      change wpList _ _ _ [_, _] _ _
      go_wp2
      refine hP1 _ _ ?_ ?_
      · refine wpPlan_leaf fun P2 hP2 => ?_
        simp only [List.filterMap_cons, List.filterMap_nil, List.getElem?_toArray, List.getElem?_cons_succ, List.getElem?_cons_zero]
        change wpList _ _ _ [_, _, _, _, _, _] _ _
        go_wp2_with (first | (go_at_call 81; ((with_reducible refine (rdput_any (kk : Int) (f : Int) (dK q.pl) (dS q.pl) f w8 rfl (by omega)).mono ?_); rintro e w9 ⟨B, m, c0, rfl, HM, hoB, hb9⟩; have hm4 : m = 4 := (by rw [HM.out, HD.out, descL_len]); subst hm4; rw [HD.out] at hoB; have hp9 := blk_below hp8 hb9; obtain ⟨v0, v1, v2, v3, v4, v5, v6, v7, v8, v9, v10⟩ := eleven_cells hp9; obtain ⟨⟨u1, u2⟩, hpX, hgX⟩ := eleven_9 hp9 (.slice none 0 0))) | (at_builtin; (refine wpList_app slU8 rfl _ _ rfl w8.heap.size B 4 c0 (bys (descL kk (dK q.pl) (dS q.pl) f)) rfl hoB _ (ln - 4) (lc - 4) (bys (q.pl.drop 4)) rfl (by rw [bys_length, List.length_drop, hlnq, Nat.mul_one]) ((tail_rd HP8.out.ol hln4).below hb9) (bys_one _) (by omega) hb9.size ?_; intro A2 c2 w10 ho10 hg10 hA2; rw [bys_append] at ho10; have e4 : 4 + (ln - 4) = ln := (by omega); rw [e4] at ho10 ⊢; have hb10 := hb9.grown hg10 hb9.size (own_from hoB); have hp10 := blk_below hp8 hb10; obtain ⟨⟨z1, z2⟩, hpY, hgY⟩ := eleven_9 hp10 (.slice A2 ln c2); obtain ⟨t0, t1, t2, t3, t4, t5, t6, t7, t8, t9, t10⟩ := eleven_cells hpY; have HP10 := Lib.hid ((HP8.out.below hb10).over hp10 (by decide) (by decide) hgY); have HL10 := Lib.hid (ho10.kept hgY (own_off ho10 hp10 (by decide))); have hb11 := (hb8.trans (hb10.mono hb8.size)).grown hgY (hb8.trans (hb10.mono hb8.size)).size (fun q hq => by injection hq with hq; have := hbw.size; omega))) | (go_at_call 26; ((with_reducible refine (rpput_row { q with pl := descL kk (dK q.pl) (dS q.pl) f ++ q.pl.drop 4 } _ _ _ _ _ _ _ _ _ _ HOK.out 0 HO1.out (frL l kk f) HO2.out n hfl ⟨HP10.out.row.rc, HP10.out.row.re, own_row8 HL10.out⟩ (by have := HP10.out.row.hen; omega) (by have := HP10.out.row.hln; omega)).mono ?_); rintro e w12 ⟨B2, c3, rfl, ho12, hb12⟩)))
        all_goals exact bodyPost_ret (v := .tuple #[.slice B2 n c3, .bool true]) (by simp [results, Try.results19, go_sem]) rfl ⟨B2, c3, rfl, by rw [HR.out]; exact own_mono ho12 hb11.size, hb11.trans (hb12.mono hb11.size)⟩
      · refine wpPlan_leaf fun P3 hP3 => ?_
        simp only [List.filterMap_cons, List.filterMap_nil, List.getElem?_toArray, List.getElem?_cons_succ, List.getElem?_cons_zero]
        change wpList _ _ _ [_, _, _, _, _, _] _ _
        go_wp2_with (first | (go_at_call 81; ((with_reducible refine (rdput_any (kk : Int) (f : Int) (dK q.pl) (dS q.pl) f w8 rfl (by omega)).mono ?_); rintro e w9 ⟨B, m, c0, rfl, HM, hoB, hb9⟩; have hm4 : m = 4 := (by rw [HM.out, HD.out, descL_len]); subst hm4; rw [HD.out] at hoB; have hp9 := blk_below hp8 hb9; obtain ⟨v0, v1, v2, v3, v4, v5, v6, v7, v8, v9, v10⟩ := eleven_cells hp9; obtain ⟨⟨u1, u2⟩, hpX, hgX⟩ := eleven_9 hp9 (.slice none 0 0))) | (at_builtin; (refine wpList_app slU8 rfl _ _ rfl w8.heap.size B 4 c0 (bys (descL kk (dK q.pl) (dS q.pl) f)) rfl hoB _ (ln - 4) (lc - 4) (bys (q.pl.drop 4)) rfl (by rw [bys_length, List.length_drop, hlnq, Nat.mul_one]) ((tail_rd HP8.out.ol hln4).below hb9) (bys_one _) (by omega) hb9.size ?_; intro A2 c2 w10 ho10 hg10 hA2; rw [bys_append] at ho10; have e4 : 4 + (ln - 4) = ln := (by omega); rw [e4] at ho10 ⊢; have hb10 := hb9.grown hg10 hb9.size (own_from hoB); have hp10 := blk_below hp8 hb10; obtain ⟨⟨z1, z2⟩, hpY, hgY⟩ := eleven_9 hp10 (.slice A2 ln c2); obtain ⟨t0, t1, t2, t3, t4, t5, t6, t7, t8, t9, t10⟩ := eleven_cells hpY; have HP10 := Lib.hid ((HP8.out.below hb10).over hp10 (by decide) (by decide) hgY); have HL10 := Lib.hid (ho10.kept hgY (own_off ho10 hp10 (by decide))); have hb11 := (hb8.trans (hb10.mono hb8.size)).grown hgY (hb8.trans (hb10.mono hb8.size)).size (fun q hq => by injection hq with hq; have := hbw.size; omega))) | (go_at_call 26; ((with_reducible refine (rpput_row { q with pl := descL kk (dK q.pl) (dS q.pl) f ++ q.pl.drop 4 } _ _ _ _ _ _ _ _ _ _ HOK.out 0 HO1.out (frL l kk f) HO2.out n hfl ⟨HP10.out.row.rc, HP10.out.row.re, own_row8 HL10.out⟩ (by have := HP10.out.row.hen; omega) (by have := HP10.out.row.hln; omega)).mono ?_); rintro e w12 ⟨B2, c3, rfl, ho12, hb12⟩)))
        all_goals exact bodyPost_ret (v := .tuple #[.slice B2 n c3, .bool true]) (by simp [results, Try.results19, go_sem]) rfl ⟨B2, c3, rfl, by rw [HR.out]; exact own_mono ho12 hb11.size, hb11.trans (hb12.mono hb11.size)⟩
    · have HR : Hid (frP l k f = l) := by show _ = _; unfold frP; rw [hok, decide_eq_false hk]; rfl
      rw [decide_eq_false hk]
      clear hok hq
      by_cases hk0 : k < 0
      · clear hk
        go_enter Try.func19, Try.ntmps19
        go_wp2_with (first
          | (go_at_call 80; (with_reducible refine (media_ok l q HK.out HQ.out A n c _ HB.out).mono ?_); rintro e w1 ⟨C, cn, cc, E, en, ec, L, ln, lc, rfl, HP, hb1⟩; have hbw := hb1)
          | (refine wpList_store_blk rfl 39 (.tmp 8) (.tmp 16) rfl w1.heap.size _ #[.bool q.mr, .int .i64 q.ty, .int .u16 q.sq, .int .u32 q.tm, .int .u32 q.ss, .slice C cn cc, .bool q.hx, .int .u16 q.pf, .slice E en ec, .slice L ln lc, .int .i64 q.pad] _ rfl rfl (two_new w1 _ _).2.1 rfl (by kernel_rfl) (by simp [Value.oneCell']) ?_; intro w5 hi5 hg5; have hj5 := two_second hg5)
          | (refine wpList_store_blk rfl 109 (.tmp 9) (.tmp 17) rfl (w1.heap.size + 1) _ #[.int .i64 (dL q.pl), .bool (dK q.pl), .bool (dS q.pl), .int .u16 (dF q.pl)] _ rfl rfl hj5 rfl (by kernel_rfl) (by simp [Value.oneCell']) ?_; intro w6 hi6 hg6; obtain ⟨hbs, hi7, hs6⟩ := two_stored hg5 hi5 hg6; have hb6 := hbw.trans (hbs.mono hbw.size))
          | (at_builtin; refine wpList_app slU8 rfl _ _ rfl w.heap.size none 0 0 [] rfl (World.ownsRow_nil _ _ _ _) A n c (bys l) rfl (by rw [bys_length, hln, Nat.mul_one]) (HB.out.below hb6).rd (bys_one _) (by omega) hb6.size ?_; intro A4 c4 w7 ho4 hg4 hA4; simp only [Nat.zero_add, List.nil_append] at ho4; have hb7 := hb6.grown hg4 hb6.size (by simp)))
        exact bodyPost_ret (v := .tuple #[.slice A4 (0 + n) c4, .bool false]) (by simp [results, Try.results19, go_sem]) rfl ⟨A4, c4, by simp, by rw [HR.out]; exact ho4, hb7⟩
      · have hk3 : 3 ≤ k := by omega
        clear hk
        go_enter Try.func19, Try.ntmps19
        go_wp2_with (first
          | (go_at_call 80; (with_reducible refine (media_ok l q HK.out HQ.out A n c _ HB.out).mono ?_); rintro e w1 ⟨C, cn, cc, E, en, ec, L, ln, lc, rfl, HP, hb1⟩; have hbw := hb1)
          | (refine wpList_store_blk rfl 39 (.tmp 8) (.tmp 16) rfl w1.heap.size _ #[.bool q.mr, .int .i64 q.ty, .int .u16 q.sq, .int .u32 q.tm, .int .u32 q.ss, .slice C cn cc, .bool q.hx, .int .u16 q.pf, .slice E en ec, .slice L ln lc, .int .i64 q.pad] _ rfl rfl (two_new w1 _ _).2.1 rfl (by kernel_rfl) (by simp [Value.oneCell']) ?_; intro w5 hi5 hg5; have hj5 := two_second hg5)
          | (refine wpList_store_blk rfl 109 (.tmp 9) (.tmp 17) rfl (w1.heap.size + 1) _ #[.int .i64 (dL q.pl), .bool (dK q.pl), .bool (dS q.pl), .int .u16 (dF q.pl)] _ rfl rfl hj5 rfl (by kernel_rfl) (by simp [Value.oneCell']) ?_; intro w6 hi6 hg6; obtain ⟨hbs, hi7, hs6⟩ := two_stored hg5 hi5 hg6; have hb6 := hbw.trans (hbs.mono hbw.size))
          | (at_builtin; refine wpList_app slU8 rfl _ _ rfl w.heap.size none 0 0 [] rfl (World.ownsRow_nil _ _ _ _) A n c (bys l) rfl (by rw [bys_length, hln, Nat.mul_one]) (HB.out.below hb6).rd (bys_one _) (by omega) hb6.size ?_; intro A4 c4 w7 ho4 hg4 hA4; simp only [Nat.zero_add, List.nil_append] at ho4; have hb7 := hb6.grown hg4 hb6.size (by simp)))
        exact bodyPost_ret (v := .tuple #[.slice A4 (0 + n) c4, .bool false]) (by simp [results, Try.results19, go_sem]) rfl ⟨A4, c4, by simp, by rw [HR.out]; exact ho4, hb7⟩
end Go.Proofs.Ytknlkmencdlpcaa

namespace Go.Proofs.Ytknlkmencdlpcaa
set_option linter.unusedVariables false
set_option linter.unusedSimpArgs false
open Go Go.RowKit

set_option maxRecDepth 20000 in
set_option maxHeartbeats 8000000 in
theorem rapply_any (A : Option Addr) (n c : Nat) (l : List UInt8) (sq tm ss f : Nat) (hsq : sq < 65536) (htm : tm < 4294967296) (hss : ss < 4294967296) (hf : f < 65536) (w : World) (h : Bts w A n c l) (hn : n ≤ 140737488351232) :
    Calls Try.prog 18 #[.slice A n c, .agg #[.int .u16 sq, .int .u32 tm, .int .u32 ss, .int .u16 f]] w fun e w' => ∃ B c', e = .returned (.tuple #[.slice B n c', .bool (okD l)]) ∧ w'.ownsRow w.heap.size 5 1 (.slice B n c') n (bys (apP l sq tm ss f)) ∧ Below w.heap.size w w' := by
  have HB := Lib.hid h
  have hln := h.len
  clear h
  cases hok : okD l
  · have HK := Lib.hid hok
    have HR : Hid (apP l sq tm ss f = l) := by show _ = _; unfold apP; rw [hok]; rfl
    obtain ⟨z, hz⟩ : ∃ z, mE l = z := ⟨_, rfl⟩
    have hne := mE_ne hok
    rw [hz] at hne
    have HZ := Lib.hid hz
    clear hok hz
    go_enter Try.func18, Try.ntmps18
    go_wp2_with (first
      | (go_at_call 80; (with_reducible refine (media_no l z HK.out HZ.out A n c _ (HB.out.below ((Below.refl w.heap.size w).alloc (Nat.le_refl _) (.cells #[.int .u16 sq, .int .u32 tm, .int .u32 ss, .int .u16 f] 26)))).mono ?_); rintro e w1 ⟨C, cn, cc, E, en, ec, L, ln, lc, rfl, HP, hb1⟩; have hbw := ((Below.refl w.heap.size w).alloc (Nat.le_refl _) (.cells #[.int .u16 sq, .int .u32 tm, .int .u32 ss, .int .u16 f] 26)).trans (hb1.mono (by simp)))
      | (refine wpList_store_blk rfl 39 (.tmp 6) (.tmp 14) rfl w1.heap.size _ #[.bool false, .int .i64 0, .int .u16 0, .int .u32 0, .int .u32 0, .slice C cn cc, .bool false, .int .u16 0, .slice E en ec, .slice L ln lc, .int .i64 0] _ rfl rfl (two_new w1 _ _).2.1 rfl (by kernel_rfl) (by simp [Value.oneCell']) ?_; intro w5 hi5 hg5; have hj5 := two_second hg5)
      | (refine wpList_store_blk rfl 109 (.tmp 7) (.tmp 15) rfl (w1.heap.size + 1) _ #[.int .i64 0, .bool false, .bool false, .int .u16 0] _ rfl rfl hj5 rfl (by kernel_rfl) (by simp [Value.oneCell']) ?_; intro w6 hi6 hg6; obtain ⟨hbs, hi7, hs6⟩ := two_stored hg5 hi5 hg6; have hb6 := hbw.trans (hbs.mono hbw.size))
      | (at_builtin; refine wpList_app slU8 rfl _ _ rfl w.heap.size none 0 0 [] rfl (World.ownsRow_nil _ _ _ _) A n c (bys l) rfl (by rw [bys_length, hln, Nat.mul_one]) (HB.out.below hb6).rd (bys_one _) (by omega) hb6.size ?_; intro A4 c4 w7 ho4 hg4 hA4; simp only [Nat.zero_add, List.nil_append] at ho4; have hb7 := hb6.grown hg4 hb6.size (by simp)))
    exact bodyPost_ret (v := .tuple #[.slice A4 (0 + n) c4, .bool false]) (by simp [results, Try.results18, go_sem]) rfl ⟨A4, c4, by simp, by rw [HR.out]; exact ho4, hb7⟩
  · have HK := Lib.hid hok
    obtain ⟨q, hq⟩ : ∃ q, getP l = q := ⟨_, rfl⟩
    have HQ := Lib.hid hq
    obtain ⟨hE, hP⟩ := ap_get hok hsq htm hss hf
    have hfl : (apP l sq tm ss f).length = n := by
      have := (apP_steps hok hsq htm hss hf).2.2.2.len
      unfold apP; rw [hok, if_pos rfl, this, hln]
    obtain ⟨o1, o2⟩ := out_get hE
    have ⟨hok1, hok2⟩ := getP_lens l
    have hqok := getP_ok l
    have hqpl : plG l = q.pl := by rw [← (getP_f (okD_look hok)).2.2.2, hq]
    have hq4 : 4 ≤ q.pl.length := by
      obtain ⟨_, r1, r2, _⟩ := okD_room hok
      rw [← hqpl]; unfold plG; rw [List.length_take, List.length_drop]; omega
    rw [hqpl, hq] at hP
    rw [hq] at hok1 hok2 hqok
    rw [hP] at o1 o2
    have HD := Lib.hid (show dP (0 : Int) (dK q.pl) (dS q.pl) f = descL 0 (dK q.pl) (dS q.pl) f by unfold dP mayD; rw [if_pos (by simp)]; rfl)
    have HOK : Hid ({ q with sq := sq, tm := tm, ss := ss, pl := descL 0 (dK q.pl) (dS q.pl) f ++ q.pl.drop 4 } : Pkt).Ok := ⟨hqok.ty, hsq, htm, hss, hqok.cs, hqok.pf, hqok.pad⟩
    have HO1 : Hid ((0 : Int) = (errP { q with sq := sq, tm := tm, ss := ss, pl := descL 0 (dK q.pl) (dS q.pl) f ++ q.pl.drop 4 } : Nat)) := by show _ = _; rw [o1]; rfl
    have HO2 := Lib.hid o2
    clear hok hq hE hP o1 o2 hqpl hqok
    go_enter Try.func18, Try.ntmps18
    go_wp2_with (first
      | (go_at_call 80; (with_reducible refine (media_ok l q HK.out HQ.out A n c _ (HB.out.below ((Below.refl w.heap.size w).alloc (Nat.le_refl _) (.cells #[.int .u16 sq, .int .u32 tm, .int .u32 ss, .int .u16 f] 26)))).mono ?_); rintro e w1 ⟨C, cn, cc, E, en, ec, L, ln, lc, rfl, HP, hb1⟩; have hbw := ((Below.refl w.heap.size w).alloc (Nat.le_refl _) (.cells #[.int .u16 sq, .int .u32 tm, .int .u32 ss, .int .u16 f] 26)).trans (hb1.mono (by simp)); have hit1 := blk_below (blk_alloc w (.cells #[.int .u16 sq, .int .u32 tm, .int .u32 ss, .int .u16 f] 26)) hb1; have hln4 : 4 ≤ ln := (by rw [← HP.out.row.hln]; exact hq4); obtain ⟨ad, rfl, _⟩ := bts_byte (own_bts HP.out.ol) (k := 0) (by omega))
      | ((fail_if_success have := hi6); refine wpList_store_blk rfl 39 (.tmp 6) (.tmp 14) rfl w1.heap.size _ #[.bool q.mr, .int .i64 q.ty, .int .u16 q.sq, .int .u32 q.tm, .int .u32 q.ss, .slice C cn cc, .bool q.hx, .int .u16 q.pf, .slice E en ec, .slice (some ad) ln lc, .int .i64 q.pad] _ rfl rfl (two_new w1 _ _).2.1 rfl (by kernel_rfl) (by simp [Value.oneCell']) ?_; intro w5 hi5 hg5; have hj5 := two_second hg5)
      | ((fail_if_success have := hi6); refine wpList_store_blk rfl 109 (.tmp 7) (.tmp 15) rfl (w1.heap.size + 1) _ #[.int .i64 (dL q.pl), .bool (dK q.pl), .bool (dS q.pl), .int .u16 (dF q.pl)] _ rfl rfl hj5 rfl (by kernel_rfl) (by simp [Value.oneCell']) ?_; intro w6 hi6 hg6; obtain ⟨hbs, hi7, hs6⟩ := two_stored hg5 hi5 hg6; have hb6 := hbw.trans (hbs.mono hbw.size); have HP6 := Lib.hid (HP.out.below hbs); have hsz := hbw.size; have hszx := blk_lt hit1; have hx6 := blk_below hit1 hbs; obtain ⟨⟨a1, a2⟩, ⟨a3, a4⟩, ⟨a5, a6⟩, hp3, hg3⟩ := eleven_234 hi7 (.int .u16 sq) (.int .u32 tm) (.int .u32 ss); have hd3 := four_keep hi6 hg3 (by omega); obtain ⟨⟨y1, y2⟩, ⟨y3, y4⟩, hd5, hg5⟩ := four_03 hd3 (.int .i64 0) (.int .u16 f); have hp5 := four_keep hp3 hg5 (by omega); have hx7 : (w6.setCell ⟨w1.heap.size, 2, none⟩ (.int .u16 sq)).heap[w.heap.size]? = _ := four_keep hx6 (set_one w6 w1.heap.size 2 (.int .u16 sq)) (by omega); have hx8 : ((w6.setCell ⟨w1.heap.size, 2, none⟩ (.int .u16 sq)).setCell ⟨w1.heap.size, 3, none⟩ (.int .u32 tm)).heap[w.heap.size]? = _ := four_keep hx7 (set_one (w6.setCell ⟨w1.heap.size, 2, none⟩ (.int .u16 sq)) w1.heap.size 3 (.int .u32 tm)) (by omega); have hx9 : (((w6.setCell ⟨w1.heap.size, 2, none⟩ (.int .u16 sq)).setCell ⟨w1.heap.size, 3, none⟩ (.int .u32 tm)).setCell ⟨w1.heap.size, 4, none⟩ (.int .u32 ss)).heap[w.heap.size]? = _ := four_keep hx8 (set_one ((w6.setCell ⟨w1.heap.size, 2, none⟩ (.int .u16 sq)).setCell ⟨w1.heap.size, 3, none⟩ (.int .u32 tm)) w1.heap.size 4 (.int .u32 ss)) (by omega); have hx10 : ((((w6.setCell ⟨w1.heap.size, 2, none⟩ (.int .u16 sq)).setCell ⟨w1.heap.size, 3, none⟩ (.int .u32 tm)).setCell ⟨w1.heap.size, 4, none⟩ (.int .u32 ss)).setCell ⟨w1.heap.size + 1, 0, none⟩ (.int .i64 0)).heap[w.heap.size]? = _ := four_keep hx9 (set_one (((w6.setCell ⟨w1.heap.size, 2, none⟩ (.int .u16 sq)).setCell ⟨w1.heap.size, 3, none⟩ (.int .u32 tm)).setCell ⟨w1.heap.size, 4, none⟩ (.int .u32 ss)) (w1.heap.size + 1) 0 (.int .i64 0)) (by omega); obtain ⟨b00, b01, b02, b03⟩ := four_set hx6; obtain ⟨b10, b11, b12, b13⟩ := four_set hx7; obtain ⟨b20, b21, b22, b23⟩ := four_set hx8; obtain ⟨b30, b31, b32, b33⟩ := four_set hx9; obtain ⟨b40, b41, b42, b43⟩ := four_set hx10)
      | fail)
    refine region_planA (calmB_sound _) (.fork [0, 2] (.leaf [3, 4, 1, 5, 6, 7]) (.leaf [1, 3, 4, 5, 6, 7])) (by kernel_rfl) (by kernel_rfl) (by kernel_rfl) ?_
    have hp8 : ((((((w6.setCell ⟨w1.heap.size, 2, none⟩ (.int .u16 sq)).setCell ⟨w1.heap.size, 3, none⟩ (.int .u32 tm)).setCell ⟨w1.heap.size, 4, none⟩ (.int .u32 ss)).setCell ⟨w1.heap.size + 1, 0, none⟩ (.int .i64 0)).setCell ⟨w1.heap.size + 1, 3, none⟩ (.int .u16 f)).drew).heap[w1.heap.size]? = _ := hp5
    have hd8 : ((((((w6.setCell ⟨w1.heap.size, 2, none⟩ (.int .u16 sq)).setCell ⟨w1.heap.size, 3, none⟩ (.int .u32 tm)).setCell ⟨w1.heap.size, 4, none⟩ (.int .u32 ss)).setCell ⟨w1.heap.size + 1, 0, none⟩ (.int .i64 0)).setCell ⟨w1.heap.size + 1, 3, none⟩ (.int .u16 f)).drew).heap[w1.heap.size + 1]? = _ := hd5
    have HP8 : Hid (POwn ((((((w6.setCell ⟨w1.heap.size, 2, none⟩ (.int .u16 sq)).setCell ⟨w1.heap.size, 3, none⟩ (.int .u32 tm)).setCell ⟨w1.heap.size, 4, none⟩ (.int .u32 ss)).setCell ⟨w1.heap.size + 1, 0, none⟩ (.int .i64 0)).setCell ⟨w1.heap.size + 1, 3, none⟩ (.int .u16 f)).drew) (w.alloc (.cells #[.int .u16 sq, .int .u32 tm, .int .u32 ss, .int .u16 f] 26)).heap.size q C cn cc E en ec (some ad) ln lc) := ((HP6.out.over hi7 (by decide) (by decide) hg3).over hd3 (by decide) (by decide) hg5).below (Below.refl _ _).drew
    have hb8 : Below w.heap.size w ((((((w6.setCell ⟨w1.heap.size, 2, none⟩ (.int .u16 sq)).setCell ⟨w1.heap.size, 3, none⟩ (.int .u32 tm)).setCell ⟨w1.heap.size, 4, none⟩ (.int .u32 ss)).setCell ⟨w1.heap.size + 1, 0, none⟩ (.int .i64 0)).setCell ⟨w1.heap.size + 1, 3, none⟩ (.int .u16 f)).drew) := ((hb6.grown hg3 hb6.size (fun q hq => by injection hq with hq; have := hbw.size; omega)).grown hg5 (Nat.le_trans hb6.size hg3.size) (fun q hq => by injection hq with hq; have := hbw.size; omega)).drew
    have hlnq : q.pl.length - 4 = ln - 4 := by rw [HP8.out.row.hln]
    clear a1 a2 a3 a4 a5 a6 y1 y2 y3 y4 hd5 hp5 hg5 hg3 hd3 hp3 hi7 hi6 hi5 hg6 hj5 hx6 hx7 hx8 hx9 hx10 b00 b01 b02 b03 b10 b11 b12 b13 b20 b21 b22 b23 b30 b31 b32 b33 b40 b41 b42 b43
    generalize (((((w6.setCell ⟨w1.heap.size, 2, none⟩ (.int .u16 sq)).setCell ⟨w1.heap.size, 3, none⟩ (.int .u32 tm)).setCell ⟨w1.heap.size, 4, none⟩ (.int .u32 ss)).setCell ⟨w1.heap.size + 1, 0, none⟩ (.int .i64 0)).setCell ⟨w1.heap.size + 1, 3, none⟩ (.int .u16 f)).drew = w8 at *
    obtain ⟨p0, p1, p2, p3, p4, p5, p6, p7, p8, p9, p10⟩ := eleven_cells hp8
    obtain ⟨d0, d1, d2, d3⟩ := four_set hd8
    refine wpPlan_fork fun P1 hP1 => ?_
    simp only [List.filterMap_cons, List.filterMap_nil, List.getElem?_toArray, List.getElem?_cons_succ, List.getElem?_cons_zero]
    change wpList _ _ _ [_, _] _ _
    go_wp2
    refine hP1 _ _ ?_ ?_
    · refine wpPlan_leaf fun P2 hP2 => ?_
      simp only [List.filterMap_cons, List.filterMap_nil, List.getElem?_toArray, List.getElem?_cons_succ, List.getElem?_cons_zero]
      change wpList _ _ _ [_, _, _, _, _, _] _ _
      go_wp2_with (first | (go_at_call 81; ((with_reducible refine (rdput_any (0 : Int) (f : Int) (dK q.pl) (dS q.pl) f w8 rfl (by omega)).mono ?_); rintro e w9 ⟨B, m, c0, rfl, HM, hoB, hb9⟩; have hm4 : m = 4 := (by rw [HM.out, HD.out, descL_len]); subst hm4; rw [HD.out] at hoB; have hp9 := blk_below hp8 hb9; obtain ⟨v0, v1, v2, v3, v4, v5, v6, v7, v8, v9, v10⟩ := eleven_cells hp9)) | (at_builtin; (refine wpList_app slU8 rfl _ _ rfl w8.heap.size B 4 c0 (bys (descL 0 (dK q.pl) (dS q.pl) f)) rfl hoB _ (ln - 4) (lc - 4) (bys (q.pl.drop 4)) rfl (by rw [bys_length, List.length_drop, hlnq, Nat.mul_one]) ((tail_rd HP8.out.ol hln4).below hb9) (bys_one _) (by omega) hb9.size ?_; intro A2 c2 w10 ho10 hg10 hA2; rw [bys_append] at ho10; have e4 : 4 + (ln - 4) = ln := (by omega); rw [e4] at ho10 ⊢; have hb10 := hb9.grown hg10 hb9.size (own_from hoB); have hp10 := blk_below hp8 hb10; obtain ⟨⟨z1, z2⟩, hpY, hgY⟩ := eleven_9 hp10 (.slice A2 ln c2); obtain ⟨t0, t1, t2, t3, t4, t5, t6, t7, t8, t9, t10⟩ := eleven_cells hpY; have HP10 := Lib.hid ((HP8.out.below hb10).over hp10 (by decide) (by decide) hgY); have HL10 := Lib.hid (ho10.kept hgY (own_off ho10 hp10 (by decide))); have hb11 := (hb8.trans (hb10.mono hb8.size)).grown hgY (hb8.trans (hb10.mono hb8.size)).size (fun q hq => by injection hq with hq; have := hbw.size; omega))) | (go_at_call 26; ((with_reducible refine (rpput_row { q with sq := sq, tm := tm, ss := ss, pl := descL 0 (dK q.pl) (dS q.pl) f ++ q.pl.drop 4 } _ _ _ _ _ _ _ _ _ _ HOK.out 0 HO1.out (apP l sq tm ss f) HO2.out n hfl ⟨HP10.out.row.rc, HP10.out.row.re, own_row8 HL10.out⟩ (by have := HP10.out.row.hen; omega) (by have := HP10.out.row.hln; omega)).mono ?_); rintro e w12 ⟨B2, c3, rfl, ho12, hb12⟩)))
      all_goals exact bodyPost_ret (v := .tuple #[.slice B2 n c3, .bool true]) (by simp [results, Try.results18, go_sem]) rfl ⟨B2, c3, rfl, own_mono ho12 hb11.size, hb11.trans (hb12.mono hb11.size)⟩
    · refine wpPlan_leaf fun P3 hP3 => ?_
      simp only [List.filterMap_cons, List.filterMap_nil, List.getElem?_toArray, List.getElem?_cons_succ, List.getElem?_cons_zero]
      change wpList _ _ _ [_, _, _, _, _, _] _ _
      go_wp2_with (first | (go_at_call 81; ((with_reducible refine (rdput_any (0 : Int) (f : Int) (dK q.pl) (dS q.pl) f w8 rfl (by omega)).mono ?_); rintro e w9 ⟨B, m, c0, rfl, HM, hoB, hb9⟩; have hm4 : m = 4 := (by rw [HM.out, HD.out, descL_len]); subst hm4; rw [HD.out] at hoB; have hp9 := blk_below hp8 hb9; obtain ⟨v0, v1, v2, v3, v4, v5, v6, v7, v8, v9, v10⟩ := eleven_cells hp9)) | (at_builtin; (refine wpList_app slU8 rfl _ _ rfl w8.heap.size B 4 c0 (bys (descL 0 (dK q.pl) (dS q.pl) f)) rfl hoB _ (ln - 4) (lc - 4) (bys (q.pl.drop 4)) rfl (by rw [bys_length, List.length_drop, hlnq, Nat.mul_one]) ((tail_rd HP8.out.ol hln4).below hb9) (bys_one _) (by omega) hb9.size ?_; intro A2 c2 w10 ho10 hg10 hA2; rw [bys_append] at ho10; have e4 : 4 + (ln - 4) = ln := (by omega); rw [e4] at ho10 ⊢; have hb10 := hb9.grown hg10 hb9.size (own_from hoB); have hp10 := blk_below hp8 hb10; obtain ⟨⟨z1, z2⟩, hpY, hgY⟩ := eleven_9 hp10 (.slice A2 ln c2); obtain ⟨t0, t1, t2, t3, t4, t5, t6, t7, t8, t9, t10⟩ := eleven_cells hpY; have HP10 := Lib.hid ((HP8.out.below hb10).over hp10 (by decide) (by decide) hgY); have HL10 := Lib.hid (ho10.kept hgY (own_off ho10 hp10 (by decide))); have hb11 := (hb8.trans (hb10.mono hb8.size)).grown hgY (hb8.trans (hb10.mono hb8.size)).size (fun q hq => by injection hq with hq; have := hbw.size; omega))) | (go_at_call 26; ((with_reducible refine (rpput_row { q with sq := sq, tm := tm, ss := ss, pl := descL 0 (dK q.pl) (dS q.pl) f ++ q.pl.drop 4 } _ _ _ _ _ _ _ _ _ _ HOK.out 0 HO1.out (apP l sq tm ss f) HO2.out n hfl ⟨HP10.out.row.rc, HP10.out.row.re, own_row8 HL10.out⟩ (by have := HP10.out.row.hen; omega) (by have := HP10.out.row.hln; omega)).mono ?_); rintro e w12 ⟨B2, c3, rfl, ho12, hb12⟩)))
      all_goals exact bodyPost_ret (v := .tuple #[.slice B2 n c3, .bool true]) (by simp [results, Try.results18, go_sem]) rfl ⟨B2, c3, rfl, own_mono ho12 hb11.size, hb11.trans (hb12.mono hb11.size)⟩
end Go.Proofs.Ytknlkmencdlpcaa
