/-
PatchLast: of two patches the last one is what Of tells; what Of told brings the packet's numbers back.
-/
import Derived.Test.YtaomdinddccpeaaPatchAll
import Derived.Test.YtaomdinddccpeaaPat11
namespace Go.Proofs.Ytaomdinddccpeaa
set_option linter.unusedVariables false
set_option linter.unusedSimpArgs false
open Go Go.RowKit

theorem of_v (A : Option Addr) (n c : Nat) (l : List UInt8) (o1 o2 o3 o4 : Nat) (b : Bool) (h : oS l = o1 ∧ oT l = o2 ∧ oR l = o3 ∧ oF l = o4 ∧ okD l = b) (w : World) (hb : Bts w A n c l) :
    Calls Try.prog 20 #[.slice A n c] w fun e w' => e = .returned (.tuple #[.agg #[.int .u16 o1, .int .u32 o2, .int .u32 o3, .int .u16 o4], .bool b]) ∧ Below w.heap.size w w' := by
  obtain ⟨rfl, rfl, rfl, rfl, rfl⟩ := h
  exact ofP_any A n c l w hb
theorem apply_v (base : Nat) (A : Option Addr) (n c : Nat) (l l' : List UInt8) (sq tm ss f : Nat) (b : Bool) (h1 : okD l = b) (h2 : apP l sq tm ss f = l') (hsq : sq < 65536) (htm : tm < 4294967296) (hss : ss < 4294967296) (hf : f < 65536) (w : World) (ho : w.ownsRow base 5 1 (.slice A n c) n (bys l)) :
    Calls Try.prog 16 #[.slice A n c, .agg #[.int .u16 sq, .int .u32 tm, .int .u32 ss, .int .u16 f]] w fun e w' => e = .returned (.bool b) ∧
      w'.ownsRow base 5 1 (.slice A n c) n (bys l') ∧ w.grownBy w' (A.map Addr.block) := by
  subst h1 h2
  exact apply_any base A n c l sq tm ss f hsq htm hss hf w ho
set_option maxRecDepth 20000 in
set_option maxHeartbeats 8000000 in
theorem patchLast_no (A : Option Addr) (n c : Nat) (l : List UInt8) (x1 x2 x3 x4 y1 y2 y3 y4 : Nat) (w : World) (hB : Bts w A n c l) (hn : n ≤ 140737488351232) (bx1 : x1 < 65536) (bx2 : x2 < 4294967296) (bx3 : x3 < 4294967296) (bx4 : x4 < 65536) (by1 : y1 < 65536) (by2 : y2 < 4294967296) (by3 : y3 < 4294967296) (by4 : y4 < 65536) (hok : okD l = false) :
    Calls Try.prog 6 #[.slice A n c, .agg #[.int .u16 x1, .int .u32 x2, .int .u32 x3, .int .u16 x4], .agg #[.int .u16 y1, .int .u32 y2, .int .u32 y3, .int .u16 y4]] w fun e w' => e = .returned (.bool true) ∧ Below w.heap.size w w' := by
  have HB := Lib.hid hB
  obtain ⟨o1, e1⟩ : ∃ o, oS l = o := ⟨_, rfl⟩
  obtain ⟨o2, e2⟩ : ∃ o, oT l = o := ⟨_, rfl⟩
  obtain ⟨o3, e3⟩ : ∃ o, oR l = o := ⟨_, rfl⟩
  obtain ⟨o4, e4⟩ : ∃ o, oF l = o := ⟨_, rfl⟩
  have HO : Hid (oS l = o1 ∧ oT l = o2 ∧ oR l = o3 ∧ oF l = o4 ∧ okD l = false) := ⟨e1, e2, e3, e4, hok⟩
  have HA1 : Hid (okD l = false ∧ apP l x1 x2 x3 x4 = l) := ⟨hok, ap_no hok _ _ _ _⟩
  have HA2 : Hid (okD l = false ∧ apP l y1 y2 y3 y4 = l) := ⟨hok, ap_no hok _ _ _ _⟩
  have HA3 := HA2
  clear hB e1 e2 e3 e4 hok
  go_enter Try.func6, Try.ntmps6
  go_wp2_with (first
    | (go_at_call 14; go_loud ((with_reducible refine (shown6_any _).mono ?_); rintro e w1 ⟨rfl, hb1⟩; have hT := two_new w (.cells #[.int .u16 x1, .int .u32 x2, .int .u32 x3, .int .u16 x4] 26) (.cells #[.int .u16 y1, .int .u32 y2, .int .u32 y3, .int .u16 y4] 26); have hx1 := blk_below hT.2.1 hb1; have hy1 := blk_below hT.2.2.1 hb1; have hw1 := hT.1.trans (hb1.mono hT.1.size); clear hT))
    | (go_at_call 20; (fail_if_success have := hw2); go_loud ((with_reducible refine (of_v A n c l o1 o2 o3 o4 false HO.out _ (HB.out.below hw1)).mono ?_); rintro e w2 ⟨rfl, hb2⟩; have hz2 := blk_alloc w2 (.cells #[.int .u16 o1, .int .u32 o2, .int .u32 o3, .int .u16 o4] 26); have hw2 := hw1.trans (hb2.mono hw1.size); have hv2 := hw2.alloc hw2.size (.cells #[.int .u16 o1, .int .u32 o2, .int .u32 o3, .int .u16 o4] 26); have hbA := (Below.refl w2.heap.size w2).alloc (Nat.le_refl _) (.cells #[.int .u16 o1, .int .u32 o2, .int .u32 o3, .int .u16 o4] 26); have hx2 := blk_below (blk_below hx1 hb2) hbA; have hy2 := blk_below (blk_below hy1 hb2) hbA))
    | (go_at_call 15; (fail_if_success have := hw3); go_loud ((with_reducible refine (copied_any A n c l _ (HB.out.below hv2) hn).mono ?_); rintro e w3 ⟨C, c3, rfl, ho3, hb3⟩; have hx3 := blk_below hx2 hb3; have hy3 := blk_below hy2 hb3; have hz3 := blk_below hz2 hb3; have hw3 := hv2.trans (hb3.mono hv2.size)))
    | (go_at_call 15; go_loud ((with_reducible refine (copied_any A n c l _ (HB.out.below hw3) hn).mono ?_); rintro e w4 ⟨D, c4, rfl, ho4, hb4⟩; have hx4 := blk_below hx3 hb4; have hy4 := blk_below hy3 hb4; have hz4 := blk_below hz3 hb4; have hw4 := hw3.trans (hb4.mono hw3.size); have ho34 := ho3.kept (own_below hb4) (own_none _); obtain ⟨X0, X1, X2, X3⟩ := four_set hx4))
    | (go_at_call 16; (fail_if_success have := ho5); go_loud ((with_reducible refine (apply_v w.heap.size C n c3 l l x1 x2 x3 x4 false HA1.out.1 HA1.out.2 bx1 bx2 bx3 bx4 _ (own_mono ho34 hv2.size)).mono ?_); rintro e w5 ⟨rfl, ho5, hg5⟩; have hy5 := blk_over ho34 hy4 (by decide) hg5; have hz5 := blk_over ho34 hz4 (by decide) hg5; have hw5 := hw4.grown hg5 hw4.size (own_from (own_mono ho34 hv2.size)); have ho45 := ho4.kept hg5 (own_apart ho3 ho4); obtain ⟨Y0, Y1, Y2, Y3⟩ := four_set hy5))
    | (go_at_call 16; (fail_if_success have := ho6); go_loud ((with_reducible refine (apply_v w.heap.size C n c3 l l y1 y2 y3 y4 false HA2.out.1 HA2.out.2 by1 by2 by3 by4 _ ho5).mono ?_); rintro e w6 ⟨rfl, ho6, hg6⟩; have hy6 := blk_over ho5 hy5 (by decide) hg6; have hz6 := blk_over ho5 hz5 (by decide) hg6; have hw6 := hw5.grown hg6 hw5.size (own_from ho5); have ho46 := ho45.kept hg6 (own_apart ho3 ho4); obtain ⟨Z0, Z1, Z2, Z3⟩ := four_set hy6))
    | (go_at_call 16; (fail_if_success have := ho7); go_loud ((with_reducible refine (apply_v w.heap.size D n c4 l l y1 y2 y3 y4 false HA3.out.1 HA3.out.2 by1 by2 by3 by4 _ (own_mono ho46 hw3.size)).mono ?_); rintro e w7 ⟨rfl, ho7, hg7⟩; have hy7 := blk_over ho46 hy6 (by decide) hg7; have hz7 := blk_over ho46 hz6 (by decide) hg7; have hw7 := hw6.grown hg7 hw6.size (own_from (own_mono ho46 hw3.size)); have hoC := ho6.kept hg7 (own_apart2 ho3 ho4); have k1 := cv_own hoC; have k2 := cv_own ho7; have k3 := cv_rd (c := c) HB.out.len (HB.out.below hw7).rd)))
  go_ret
  exact ⟨by simp, hw7⟩
set_option maxRecDepth 20000 in
set_option maxHeartbeats 8000000 in
theorem patchLast_yes (A : Option Addr) (n c : Nat) (l : List UInt8) (x1 x2 x3 x4 y1 y2 y3 y4 : Nat) (w : World) (hB : Bts w A n c l) (hn : n ≤ 140737488351232) (bx1 : x1 < 65536) (bx2 : x2 < 4294967296) (bx3 : x3 < 4294967296) (bx4 : x4 < 65536) (by1 : y1 < 65536) (by2 : y2 < 4294967296) (by3 : y3 < 4294967296) (by4 : y4 < 65536) (hok : okD l = true) :
    Calls Try.prog 6 #[.slice A n c, .agg #[.int .u16 x1, .int .u32 x2, .int .u32 x3, .int .u16 x4], .agg #[.int .u16 y1, .int .u32 y2, .int .u32 y3, .int .u16 y4]] w fun e w' => e = .returned (.bool true) ∧ Below w.heap.size w w' := by
  have HB := Lib.hid hB
  obtain ⟨bo1, bo2, bo3, bo4⟩ := of_lt l
  obtain ⟨r1, r2, r3, r4⟩ := of_get hok
  obtain ⟨a1, a2, a3, a4⟩ := ap_of hok by1 by2 by3 by4
  have dx := (ap_desc hok bx1 bx2 bx3 bx4).1
  have dy := (ap_desc hok by1 by2 by3 by4).1
  have hl := ap_last hok bx1 bx2 bx3 bx4 by1 by2 by3 by4
  obtain ⟨k1, k2, k3, k4, k5⟩ := ap_back hok by1 by2 by3 by4
  have k6 := (getP_f (okD_look k1)).2.2.2
  rw [← k6] at k5
  clear k6
  obtain ⟨o1, e1⟩ : ∃ o, oS l = o := ⟨_, rfl⟩
  obtain ⟨o2, e2⟩ : ∃ o, oT l = o := ⟨_, rfl⟩
  obtain ⟨o3, e3⟩ : ∃ o, oR l = o := ⟨_, rfl⟩
  obtain ⟨o4, e4⟩ : ∃ o, oF l = o := ⟨_, rfl⟩
  have HO : Hid (oS l = o1 ∧ oT l = o2 ∧ oR l = o3 ∧ oF l = o4 ∧ okD l = true) := ⟨e1, e2, e3, e4, hok⟩
  rw [e1, e2, e3, e4] at k1 k2 k3 k4 k5
  rw [e1] at bo1 r1
  rw [e2] at bo2 r2
  rw [e3] at bo3 r3
  rw [e4] at bo4 r4
  obtain ⟨q, hq⟩ : ∃ q, getP l = q := ⟨_, rfl⟩
  obtain ⟨la, ha⟩ : ∃ m, apP l x1 x2 x3 x4 = m := ⟨_, rfl⟩
  obtain ⟨lb, hb⟩ : ∃ m, apP l y1 y2 y3 y4 = m := ⟨_, rfl⟩
  rw [ha] at dx hl
  rw [hb] at dy hl a1 a2 a3 a4 k1 k2 k3 k4 k5
  obtain ⟨lc', hc⟩ : ∃ m, apP lb o1 o2 o3 o4 = m := ⟨_, rfl⟩
  rw [hc] at k1 k2 k3 k4 k5
  obtain ⟨r, hr⟩ : ∃ r, getP lc' = r := ⟨_, rfl⟩
  rw [hr, hq] at k2 k3 k4
  rw [hr] at k5
  have HK := Lib.hid hok
  have HQ := Lib.hid hq
  have HA1 : Hid (okD l = true ∧ apP l x1 x2 x3 x4 = la) := ⟨hok, ha⟩
  have HA2 : Hid (okD la = true ∧ apP la y1 y2 y3 y4 = lb) := ⟨dx, hl⟩
  have HA3 : Hid (okD l = true ∧ apP l y1 y2 y3 y4 = lb) := ⟨hok, hb⟩
  have HA4 : Hid (okD lb = true ∧ apP lb o1 o2 o3 o4 = lc') := ⟨dy, hc⟩
  have HP : Hid (oS lb = y1 ∧ oT lb = y2 ∧ oR lb = y3 ∧ oF lb = y4 ∧ okD lb = true) := ⟨a1, a2, a3, a4, dy⟩
  have HKc := Lib.hid k1
  have HR := Lib.hid hr
  have HE : Hid (r.sq = q.sq ∧ r.tm = q.tm ∧ r.ss = q.ss ∧ dL r.pl = 0) := ⟨k2, k3, k4, k5⟩
  clear hB e1 e2 e3 e4 hok r1 r2 r3 r4 a1 a2 a3 a4 dx dy hl k1 k2 k3 k4 k5 hq ha hb hc hr
  go_enter Try.func6, Try.ntmps6
  go_wp2_with (first
    | (go_at_call 14; go_loud ((with_reducible refine (shown6_any _).mono ?_); rintro e w1 ⟨rfl, hb1⟩; have hT := two_new w (.cells #[.int .u16 x1, .int .u32 x2, .int .u32 x3, .int .u16 x4] 26) (.cells #[.int .u16 y1, .int .u32 y2, .int .u32 y3, .int .u16 y4] 26); have hx1 := blk_below hT.2.1 hb1; have hy1 := blk_below hT.2.2.1 hb1; have hw1 := hT.1.trans (hb1.mono hT.1.size); clear hT))
    | (go_at_call 20; (fail_if_success have := hw2); go_loud ((with_reducible refine (of_v A n c l o1 o2 o3 o4 true HO.out _ (HB.out.below hw1)).mono ?_); rintro e w2 ⟨rfl, hb2⟩; have hz2 := blk_alloc w2 (.cells #[.int .u16 o1, .int .u32 o2, .int .u32 o3, .int .u16 o4] 26); have hw2 := hw1.trans (hb2.mono hw1.size); have hv2 := hw2.alloc hw2.size (.cells #[.int .u16 o1, .int .u32 o2, .int .u32 o3, .int .u16 o4] 26); have hbA := (Below.refl w2.heap.size w2).alloc (Nat.le_refl _) (.cells #[.int .u16 o1, .int .u32 o2, .int .u32 o3, .int .u16 o4] 26); have hx2 := blk_below (blk_below hx1 hb2) hbA; have hy2 := blk_below (blk_below hy1 hb2) hbA))
    | (go_at_call 15; (fail_if_success have := hw3); go_loud ((with_reducible refine (copied_any A n c l _ (HB.out.below hv2) hn).mono ?_); rintro e w3 ⟨C, c3, rfl, ho3, hb3⟩; have hx3 := blk_below hx2 hb3; have hy3 := blk_below hy2 hb3; have hz3 := blk_below hz2 hb3; have hw3 := hv2.trans (hb3.mono hv2.size)))
    | (go_at_call 15; go_loud ((with_reducible refine (copied_any A n c l _ (HB.out.below hw3) hn).mono ?_); rintro e w4 ⟨D, c4, rfl, ho4, hb4⟩; have hx4 := blk_below hx3 hb4; have hy4 := blk_below hy3 hb4; have hz4 := blk_below hz3 hb4; have hw4 := hw3.trans (hb4.mono hw3.size); have ho34 := ho3.kept (own_below hb4) (own_none _); obtain ⟨X0, X1, X2, X3⟩ := four_set hx4))
    | (go_at_call 16; (fail_if_success have := ho5); go_loud ((with_reducible refine (apply_v w.heap.size C n c3 l la x1 x2 x3 x4 true HA1.out.1 HA1.out.2 bx1 bx2 bx3 bx4 _ (own_mono ho34 hv2.size)).mono ?_); rintro e w5 ⟨rfl, ho5, hg5⟩; have hy5 := blk_over ho34 hy4 (by decide) hg5; have hz5 := blk_over ho34 hz4 (by decide) hg5; have hw5 := hw4.grown hg5 hw4.size (own_from (own_mono ho34 hv2.size)); have ho45 := ho4.kept hg5 (own_apart ho3 ho4); obtain ⟨Y0, Y1, Y2, Y3⟩ := four_set hy5))
    | (go_at_call 16; (fail_if_success have := ho6); go_loud ((with_reducible refine (apply_v w.heap.size C n c3 la lb y1 y2 y3 y4 true HA2.out.1 HA2.out.2 by1 by2 by3 by4 _ ho5).mono ?_); rintro e w6 ⟨rfl, ho6, hg6⟩; have hy6 := blk_over ho5 hy5 (by decide) hg6; have hz6 := blk_over ho5 hz5 (by decide) hg6; have hw6 := hw5.grown hg6 hw5.size (own_from ho5); have ho46 := ho45.kept hg6 (own_apart ho3 ho4); obtain ⟨Z0, Z1, Z2, Z3⟩ := four_set hy6))
    | (go_at_call 16; (fail_if_success have := ho7); go_loud ((with_reducible refine (apply_v w.heap.size D n c4 l lb y1 y2 y3 y4 true HA3.out.1 HA3.out.2 by1 by2 by3 by4 _ (own_mono ho46 hw3.size)).mono ?_); rintro e w7 ⟨rfl, ho7, hg7⟩; have hy7 := blk_over ho46 hy6 (by decide) hg7; have hz7 := blk_over ho46 hz6 (by decide) hg7; have hw7 := hw6.grown hg7 hw6.size (own_from (own_mono ho46 hw3.size)); have hoC := ho6.kept hg7 (own_apart2 ho3 ho4); have k1 := cv_own hoC; have k2 := cv_own ho7; have k3 := cv_rd (c := c) HB.out.len (HB.out.below hw7).rd))
    | (go_at_call 20; go_loud ((with_reducible refine (of_v C n c3 lb y1 y2 y3 y4 true HP.out _ (own_bts hoC)).mono ?_); rintro e w8 ⟨rfl, hb8⟩; have hn8 := blk_alloc w8 (.cells #[.int .u16 y1, .int .u32 y2, .int .u32 y3, .int .u16 y4] 26); have hw8 := hw7.trans (hb8.mono hw7.size); have hv8 := hw8.alloc hw8.size (.cells #[.int .u16 y1, .int .u32 y2, .int .u32 y3, .int .u16 y4] 26); have hbB := (Below.refl w8.heap.size w8).alloc (Nat.le_refl _) (.cells #[.int .u16 y1, .int .u32 y2, .int .u32 y3, .int .u16 y4] 26); have hy8 := blk_below (blk_below hy7 hb8) hbB; have hz8 := blk_below (blk_below hz7 hb8) hbB; have hoC8 := (hoC.kept (own_below hb8) (own_none _)).kept (own_below hbB) (own_none _)))
    | (go_at_call 27; (fail_if_success have := hw9); go_loud ((with_reducible refine (media_ok l q HK.out HQ.out A n c _ (HB.out.below hv8)).mono ?_); rintro e w9 ⟨C1, cn1, cc1, E1, en1, ec1, L1, ln1, lc1, rfl, HP9, hb9⟩; clear HP9; have hw9 := hv8.trans (hb9.mono hv8.size); have hy9 := blk_below hy8 hb9; have hz9 := blk_below hz8 hb9; have hn9 := blk_below hn8 hb9; have hoC9 := hoC8.kept (own_below hb9) (own_none _)))
    | (refine wpList_store_blk rfl 39 (.tmp 13) (.tmp 71) rfl w9.heap.size _ #[.bool q.mr, .int .i64 q.ty, .int .u16 q.sq, .int .u32 q.tm, .int .u32 q.ss, .slice C1 cn1 cc1, .bool q.hx, .int .u16 q.pf, .slice E1 en1 ec1, .slice L1 ln1 lc1, .int .i64 q.pad] _ rfl rfl (two_new w9 _ _).2.1 rfl (by kernel_rfl) (by simp [Value.oneCell']) ?_; intro w10 hi10 hg10; have hj10 := two_second hg10)
    | (refine wpList_store_blk rfl 52 (.tmp 14) (.tmp 72) rfl (w9.heap.size + 1) _ #[.int .i64 (dL q.pl), .bool (dK q.pl), .bool (dS q.pl), .int .u16 (dF q.pl)] _ rfl rfl hj10 rfl (by kernel_rfl) (by simp [Value.oneCell']) ?_; intro w11 hi11 hg11; obtain ⟨hbs11, hp11, hs11⟩ := two_stored hg10 hi10 hg11; have hw11 := hw9.trans (hbs11.mono hw9.size); have hy11 := blk_below hy9 hbs11; have hz11 := blk_below hz9 hbs11; have hn11 := blk_below hn9 hbs11; have hoC11 := hoC9.kept (own_below hbs11) (own_none _); obtain ⟨O0, O1, O2, O3⟩ := four_set hz11)
    | (go_at_call 16; go_loud ((with_reducible refine (apply_v w.heap.size C n c3 lb lc' o1 o2 o3 o4 true HA4.out.1 HA4.out.2 bo1 bo2 bo3 bo4 _ hoC11).mono ?_); rintro e w12 ⟨rfl, ho12, hg12⟩; have hy12 := blk_over hoC11 hy11 (by decide) hg12; have hn12 := blk_over hoC11 hn11 (by decide) hg12; have hp12 := blk_over hoC11 hp11 (by decide) hg12; have hw12 := hw11.grown hg12 hw11.size (own_from hoC11)))
    | (go_at_call 27; go_loud ((with_reducible refine (media_ok lc' r HKc.out HR.out C n c3 _ (own_bts ho12)).mono ?_); rintro e w13 ⟨C2, cn2, cc2, E2, en2, ec2, L2, ln2, lc2, rfl, HP13, hb13⟩; clear HP13; have hw13 := hw12.trans (hb13.mono hw12.size); have hy13 := blk_below hy12 hb13; have hn13 := blk_below hn12 hb13; have hp13 := blk_below hp12 hb13))
    | (refine wpList_store_blk rfl 39 (.tmp 16) (.tmp 80) rfl w13.heap.size _ #[.bool r.mr, .int .i64 r.ty, .int .u16 r.sq, .int .u32 r.tm, .int .u32 r.ss, .slice C2 cn2 cc2, .bool r.hx, .int .u16 r.pf, .slice E2 en2 ec2, .slice L2 ln2 lc2, .int .i64 r.pad] _ rfl rfl (two_new w13 _ _).2.1 rfl (by kernel_rfl) (by simp [Value.oneCell']) ?_; intro w14 hi14 hg14; have hj14 := two_second hg14)
    | (refine wpList_store_blk rfl 52 (.tmp 17) (.tmp 81) rfl (w13.heap.size + 1) _ #[.int .i64 (dL r.pl), .bool (dK r.pl), .bool (dS r.pl), .int .u16 (dF r.pl)] _ rfl rfl hj14 rfl (by kernel_rfl) (by simp [Value.oneCell']) ?_; intro w15 hi15 hg15; obtain ⟨hbs15, hp15, hs15⟩ := two_stored hg14 hi14 hg15; have hw15 := hw13.trans (hbs15.mono hw13.size); obtain ⟨a0, a1, a2, a3⟩ := four_set (blk_below hn13 hbs15); obtain ⟨b0, b1, b2, b3⟩ := four_set (blk_below hy13 hbs15); obtain ⟨d0, d1, d2, d3⟩ := four_set hi15; obtain ⟨q0, q1, q2, q3, q4, q5, q6, q7, q8, q9, q10⟩ := eleven_cells hp15; obtain ⟨p0, p1, p2, p3, p4, p5, p6, p7, p8, p9, p10⟩ := eleven_cells (blk_below hp13 hbs15); clear q5 q6 q7 q8 q9 q10 p5 p6 p7 p8 p9 p10 q0 q1 p0 p1 d1 d2 d3; rw [HE.out.1] at q2; rw [HE.out.2.1] at q3; rw [HE.out.2.2.1] at q4; rw [HE.out.2.2.2] at d0))
  go_ret
  exact ⟨by simp, hw15⟩
namespace patchLast
theorem patchLast_walk (A : Option Addr) (n c : Nat) (l : List UInt8) (s t r f s' t' r' f' : Int) (w : World) (hl : l.length = n) (hc : n ≤ c) (hm : c ≤ maxLen) (hn : n ≤ 140737488351232) (hA : A = none → n = 0 ∧ c = 0) (hr : Rd w A (bys l))
    (hp : (0 ≤ s ∧ s ≤ 65535) ∧ (0 ≤ t ∧ t ≤ 4294967295) ∧ (0 ≤ r ∧ r ≤ 4294967295) ∧ (0 ≤ f ∧ f ≤ 65535)) (hp' : (0 ≤ s' ∧ s' ≤ 65535) ∧ (0 ≤ t' ∧ t' ≤ 4294967295) ∧ (0 ≤ r' ∧ r' ≤ 4294967295) ∧ (0 ≤ f' ∧ f' ≤ 65535)) :
    Calls Try.prog 6 #[.slice A n c, .agg #[.int .u16 s, .int .u32 t, .int .u32 r, .int .u16 f], .agg #[.int .u16 s', .int .u32 t', .int .u32 r', .int .u16 f']] w fun e w' => e = .returned (.bool true) ∧ Below w.heap.size w w' := by
  obtain ⟨s, rfl⟩ : ∃ m : Nat, s = (m : Int) := ⟨s.toNat, by omega⟩
  obtain ⟨t, rfl⟩ : ∃ m : Nat, t = (m : Int) := ⟨t.toNat, by omega⟩
  obtain ⟨r, rfl⟩ : ∃ m : Nat, r = (m : Int) := ⟨r.toNat, by omega⟩
  obtain ⟨f, rfl⟩ : ∃ m : Nat, f = (m : Int) := ⟨f.toNat, by omega⟩
  obtain ⟨s', rfl⟩ : ∃ m : Nat, s' = (m : Int) := ⟨s'.toNat, by omega⟩
  obtain ⟨t', rfl⟩ : ∃ m : Nat, t' = (m : Int) := ⟨t'.toNat, by omega⟩
  obtain ⟨r', rfl⟩ : ∃ m : Nat, r' = (m : Int) := ⟨r'.toNat, by omega⟩
  obtain ⟨f', rfl⟩ : ∃ m : Nat, f' = (m : Int) := ⟨f'.toNat, by omega⟩
  cases hok : okD l
  · exact patchLast_no A n c l s t r f s' t' r' f' w ⟨hl, hc, hm, hr⟩ hn (by omega) (by omega) (by omega) (by omega) (by omega) (by omega) (by omega) (by omega) hok
  · exact patchLast_yes A n c l s t r f s' t' r' f' w ⟨hl, hc, hm, hr⟩ hn (by omega) (by omega) (by omega) (by omega) (by omega) (by omega) (by omega) (by omega) hok
end patchLast
namespace patchLast
open Go.ChangeShapes Go.WideShapes Go.ChangeAt Go.RowKit
open Go.ChangeMaps (open_string shut_string)
set_option linter.unusedVariables false

theorem own : ownKnob Try.prog.godebug = none := by kernel_rfl
theorem laidOut : laidOutB Try.prog = true := by kernel_rfl

set_option maxRecDepth 100000 in
theorem lifted (os : Os) (started : os.Started) (H : Type) (enc : TypeId × Value → H) :
    ReturnsInHanded {} Try.checked os 6 .any (Rows.patchLastSpec.pre6 enc Try.prog Try.f6 Rows.patchLastRow.domain false) (Rows.patchLastSpec.post enc Try.prog Try.f6 false true false false) := by
  refine returnsInHanded_of_change_sized (C := Try.checked) own started (by kernel_rfl) Try.func6
    (ChangeSpec.witness6 (enc := enc) (C := Try.checked) false ⟨#[], #[.slice none 0 0, .agg #[.int .u16 0, .int .u32 0, .int .u32 0, .int .u16 0], .agg #[.int .u16 0, .int .u32 0, .int .u32 0, .int .u16 0]], []⟩ 8 (by kernel_rfl) (by kernel_rfl) (by kernel_rfl) (by kernel_rfl)) ?_
  intro W base args ds gs before hval0 hW hcnd hsz0 _
  have hsz : (DataW.weightsEach Try.prog (Try.f6.params.toList ++ Rows.patchLastSpec.plain.varTypes Try.prog) (ds ++ gs)).all (· ≤ reachBytes) = true := hsz0
  have hval : ∀ (j : Nat) t v, Try.f6.params[j]? = some t → args[j]? = some v → Value.okWide Try.prog W .any base t v := hval0
  have hW' := hW
  obtain ⟨p, q, hA0, hV, rfl, hfz, hnd⟩ := hW
  have hA : DataW.TrodAll enc Try.prog W 0 (fun _ => true) true Try.f6.params.toList args.toList ds p := hA0
  rw [Try.params6] at hA hval hsz
  obtain ⟨v0, vs0, d0, ds0, p0, q0, hargs, rfl, rfl, h0, r0⟩ := trodAll_cons hA
  obtain ⟨v1, vs1, d1, ds1, p1, q1, rfl, rfl, rfl, h1, r1⟩ := trodAll_cons r0
  obtain ⟨v2, vs2, d2, ds2, p2, q2, rfl, rfl, rfl, h2, r2⟩ := trodAll_cons r1
  obtain ⟨rfl, rfl, rfl⟩ := trodAll_nil r2
  obtain rfl : args = #[v0, v1, v2] := by cases args; simp_all
  obtain ⟨rfl, rfl⟩ := trodVars_none hV
  obtain ⟨a0, len0, cap0, rfl⟩ := okWide_slice Try.underlying22 (hval 0 22 v0 rfl rfl)
  have k0 := h0
  have lt0 : ∀ x ∈ p0, x.block < W.heap.size := by obtain ⟨m, hm⟩ := k0; exact DataW.trod_lt m _ _ _ hm
  obtain ⟨l0, n0, nc0, cm0, nl0, rd0, hl0⟩ : ∃ l : List UInt8, l.length = len0 ∧ len0 ≤ cap0 ∧ cap0 ≤ maxLen ∧ (a0 = none → len0 = 0 ∧ cap0 = 0) ∧ Rd W a0 (bys l) ∧ (len0 = 0 ∨ ∃ es sp, d0 = .slice es sp ∧ es.length = len0) := by
    obtain ⟨fuel, hf⟩ := h0
    exact open_byte_slice Try.underlying22 Try.underlying5 (by kernel_rfl) hf
  have hb0 : len0 * 1 ≤ 140737488351232 := reach_slice hsz (j := 0) rfl rfl Try.underlying22 (by kernel_rfl) hl0
  rw [Nat.mul_one] at hb0
  obtain ⟨s1, t1, m1, f1, rfl, rfl, rfl, wS1, wT1, wR1, wF1⟩ := open_patch (hval 1 26 v1 rfl rfl) h1
  obtain ⟨s2, t2, m2, f2, rfl, rfl, rfl, wS2, wT2, wR2, wF2⟩ := open_patch (hval 2 26 v2 rfl rfl) h2
  clear hA0 hval0 hsz0
  refine (patchLast_walk a0 len0 cap0 l0 s1 t1 m1 f1 s2 t2 m2 f2 W n0 nc0 cm0 hb0 nl0 rd0 ⟨bounds_u16 wS1, bounds_u32 wT1, bounds_u32 wR1, bounds_u16 wF1⟩ ⟨bounds_u16 wS2, bounds_u32 wT2, bounds_u32 wR2, bounds_u16 wF2⟩).mono fun e W' ⟨he, bel⟩ => ?_
  subst he
  exact ⟨_, rfl, _, _, _, [], _, [], hW', trodAll_mk1 (shut_bool Try.underlying4 _), (trodAll_cons_mk (Below.trod laidOut (by kernel_rfl) (of_decide_eq_true (by kernel_rfl)) k0 bel lt0) (trodAll_cons_mk (shut_patch wS1 wT1 wR1 wF1) (trodAll_cons_mk (shut_patch wS2 wT2 wR2 wF2) trodAll_mk0))), rfl, bel.frame _, fun h => by cases h⟩

/-- The statement. -/
theorem proved : Rows.PatchLastSaid :=
  OpenClaim.holds_of_wide 6 Try.f6 rfl rfl rfl rfl rfl rfl rfl ⟨rfl, rfl, rfl, rfl, rfl⟩ rfl rfl rfl rfl rfl (by kernel_rfl) Try.func6 (by kernel_rfl)
    (of_decide_eq_true (by kernel_rfl)) (by unfold Func.isWrapper; rw [if_neg (of_decide_eq_false (by kernel_rfl))]; exact ⟨rfl, rfl⟩)
    (fun os started H enc _ => lifted os started H enc)
#print axioms proved
end patchLast
end Go.Proofs.Ytaomdinddccpeaa
