/-
SiftAll: for all bytes, Of returns the kind and the first error that the reference returns, and Flat the packet, the descriptor and the items.
-/
import Derived.Test.YtknlkmencdlpcaaSf7
import Derived.Deep.CutBlock
import Derived.Test.YtknlkmencdlpcaaRows
namespace Go.Proofs.Ytknlkmencdlpcaa
set_option linter.unusedVariables false
set_option linter.unusedSimpArgs false
open Go Go.RowKit

theorem same_z (w : World) : Calls Try.prog 71 #[.agg #[.bool false, .int .i64 0, .int .u16 0, .int .u32 0, .int .u32 0, .slice none 0 0, .bool false, .int .u16 0, .slice none 0 0, .slice none 0 0, .int .i64 0], .agg #[.bool false, .int .i64 0, .int .u16 0, .int .u32 0, .int .u32 0, .slice none 0 0, .bool false, .int .u16 0, .slice none 0 0, .slice none 0 0, .int .i64 0]] w fun e w' => e = .returned (.bool true) ∧ Below w.heap.size w w' :=
  samePkt_row zeroP zeroP rfl none 0 0 none 0 0 none 0 0 none 0 0 none 0 0 none 0 0 w (prow_zero w) (prow_zero w)
theorem its_none (w : World) : Its w none 0 0 [] := ⟨rfl, Nat.le_refl _, Nat.zero_le _, Rd.nil _ _, nofun⟩
theorem getP_cs (l : List UInt8) : (getP l).cs.length ≤ 15 := by
  unfold getP
  split
  · show (csL l (nCs l)).length ≤ 15
    rw [csL_length]
    have := nCs_lt l
    omega
  · simp [zeroP]
theorem itemL_mem {is : List Itm} {i : Itm} (hi : i ∈ is) : (itemL i).length ≤ (itsL is).length := by
  induction is with
  | nil => cases hi
  | cons a t ih =>
    rw [itsL_cons, List.length_append]
    rcases List.mem_cons.1 hi with rfl | h
    · omega
    · have := ih h
      omega
theorem item_parts (i : Itm) : i.bl.length ≤ (itemL i).length ∧ i.go.length ≤ (itemL i).length ∧ i.pr.length ≤ (itemL i).length := by
  have e : (itemL i).length = 4 + ((headL i).length + (i.bl.length * 24 + (i.go.length * 4 + i.pr.length * 4))) := by
    unfold itemL bodyL
    simp only [List.length_append, blksL_length, foursL_length, prsL_length, List.length_cons, List.length_nil]
  omega
theorem itm_small {is : List Itm} {l : List UInt8} (h : itsL is = l) (hl : l.length ≤ 512) {i : Itm} (hi : i ∈ is) : i.bl.length ≤ 1000000 ∧ i.go.length ≤ 1000000 ∧ i.pr.length ≤ 1000000 := by
  have h1 : (itemL i).length ≤ 512 := by
    rw [← h] at hl
    exact Nat.le_trans (itemL_mem hi) hl
  have h2 : i.bl.length ≤ (itemL i).length ∧ i.go.length ≤ (itemL i).length ∧ i.pr.length ≤ (itemL i).length := item_parts i
  omega
set_option maxRecDepth 20000 in
set_option maxHeartbeats 4000000 in
theorem siftAll_walk (B : Option Addr) (n c : Nat) (l : List UInt8) (w : World) (b1 : l.length = n) (b2 : n ≤ c) (b3 : c ≤ maxLen) (b4 : n ≤ 140737488351232) (b5 : B = none → n = 0 ∧ c = 0) (b6 : Rd w B (bys l)) :
    Calls Try.prog 9 #[.slice B n c] w fun e w' => e = .returned (.bool true) ∧ Below w.heap.size w w' := by
  have HB : Hid (Bts w B n c l) := ⟨b1, b2, b3, b6⟩
  clear b1 b6 b5 b4 b3
  rcases evE_cases l with ⟨Z, hZ, hne⟩ | ⟨h5, h2, hf, hE⟩ | ⟨hE, hd⟩
  · have HZ := Lib.hid (And.intro hZ hne)
    clear hZ hne
    go_enter Try.func9, Try.ntmps9
    go_upto_region 5 with (first
      | (go_at_call 66; (with_reducible refine (shown10_any _).mono ?_); rintro e w1 ⟨rfl, hb1⟩)
      | (go_at_call 67; (with_reducible refine (of_no l Z HZ.out.1 HZ.out.2 B n c _ (HB.out.below hb1)).mono ?_); rintro e w2 ⟨rfl, hb2⟩; have hB2 := below_next hb1 hb2)
      | (go_at_call 68; (with_reducible refine (rsift_no l Z HZ.out.1 HZ.out.2 B n c _ (HB.out.below hB2)).mono ?_); rintro e w3 ⟨rfl, hb3⟩; have hB3 := below_next hB2 hb3))
    have hx := heap_alloc_new w3 (.cells #[.int .i64 0, .bool false, .int .i64 0, .int .u16 0, .int .u32 0, .int .u32 0, .slice none 0 0, .bool false, .int .u16 0, .slice none 0 0, .slice none 0 0, .int .i64 0, .int .i64 0, .bool false, .bool false, .int .u16 0, .slice none 0 0] 111)
    have hB := below_al hB3 (.cells #[.int .i64 0, .bool false, .int .i64 0, .int .u16 0, .int .u32 0, .int .u32 0, .slice none 0 0, .bool false, .int .u16 0, .slice none 0 0, .slice none 0 0, .int .i64 0, .int .i64 0, .bool false, .bool false, .int .u16 0, .slice none 0 0] 111)
    have hw3 := al_b w3 (.cells #[.int .i64 0, .bool false, .int .i64 0, .int .u16 0, .int .u32 0, .int .u32 0, .slice none 0 0, .bool false, .int .u16 0, .slice none 0 0, .slice none 0 0, .int .i64 0, .int .i64 0, .bool false, .bool false, .int .u16 0, .slice none 0 0] 111)
    generalize w3.alloc (.cells #[.int .i64 0, .bool false, .int .i64 0, .int .u16 0, .int .u32 0, .int .u32 0, .slice none 0 0, .bool false, .int .u16 0, .slice none 0 0, .slice none 0 0, .int .i64 0, .int .i64 0, .bool false, .bool false, .int .u16 0, .slice none 0 0] 111) = wy at *
    go_cut [31] from 22 to 30 (fun s31 wx => s31 = .bool false ∧ Below wy.heap.size wy wx)
    case first =>
      go_wp2_with fail
      have hxd := blk_below hx ((Below.refl _ wy).drew)
      have hbd := (Below.refl wy.heap.size wy).drew
      refine region_plan (calmB_sound _) (.fork [0, 2] (.leaf [3, 1, 4, 5, 6, 7, 8, 9]) (.leaf [1, 3, 4, 5, 6, 7, 8, 9])) (by kernel_rfl) (by kernel_rfl) (by kernel_rfl) ?_
      obtain ⟨x0, x1, x2, x3, x4, x5, x6, x7, x8, x9, x10, x11, x12, x13, x14, x15, x16⟩ := seventeen_cells hxd
      generalize wy.drew = wd at *
      refine wpPlan_fork fun PL0 hPL0 => ?_
      simp only [List.filterMap_cons, List.filterMap_nil, List.getElem?_toArray, List.getElem?_cons_succ, List.getElem?_cons_zero]
      change wpList _ _ _ [_, _] _ _
      go_wp2_with ((go_at_call 69; (with_reducible refine (kind_n wd).mono ?_); rintro e wk ⟨rfl, hbk0⟩; have hbk := below_next hbd hbk0; have hxk := blk_below hxd hbk0; obtain ⟨x0, x1, x2, x3, x4, x5, x6, x7, x8, x9, x10, x11, x12, x13, x14, x15, x16⟩ := seventeen_cells hxk))
      refine hPL0 _ _ ?_ ?_
      · refine wpPlan_leaf fun PL1 hPL1 => ?_
        simp only [List.filterMap_cons, List.filterMap_nil, List.getElem?_toArray, List.getElem?_cons_succ, List.getElem?_cons_zero]
        change wpList _ _ _ [_, _, _, _, _, _, _, _] _ _
        go_wp2_with ((go_at_call 69; (with_reducible refine (kind_n wd).mono ?_); rintro e wk ⟨rfl, hbk0⟩; have hbk := below_next hbd hbk0; have hxk := blk_below hxd hbk0; obtain ⟨x0, x1, x2, x3, x4, x5, x6, x7, x8, x9, x10, x11, x12, x13, x14, x15, x16⟩ := seventeen_cells hxk))
        go_meet
        exact ⟨rfl, hbk⟩
      · refine wpPlan_leaf fun PL1 hPL1 => ?_
        simp only [List.filterMap_cons, List.filterMap_nil, List.getElem?_toArray, List.getElem?_cons_succ, List.getElem?_cons_zero]
        change wpList _ _ _ [_, _, _, _, _, _, _, _] _ _
        go_wp2_with ((go_at_call 69; (with_reducible refine (kind_n wd).mono ?_); rintro e wk ⟨rfl, hbk0⟩; have hbk := below_next hbd hbk0; have hxk := blk_below hxd hbk0; obtain ⟨x0, x1, x2, x3, x4, x5, x6, x7, x8, x9, x10, x11, x12, x13, x14, x15, x16⟩ := seventeen_cells hxk))
        go_meet
        exact ⟨rfl, hbk⟩
    case rest =>
      obtain ⟨rfl, hbx⟩ := hcut
      have hxx := blk_below hx hbx
      have hBx := below_next hB hbx
      go_wp2_with (first
        | (go_at_call 70; (with_reducible refine (flat_n wc).mono ?_); rintro e w5 ⟨rfl, hb5⟩; have hB5 := below_al (below_al (below_next hBx hb5) (.cells #[.bool false, .int .i64 0, .int .u16 0, .int .u32 0, .int .u32 0, .slice none 0 0, .bool false, .int .u16 0, .slice none 0 0, .slice none 0 0, .int .i64 0] 39)) (.cells #[.int .i64 0, .bool false, .bool false, .int .u16 0] 109); have hp5 := al_keep (heap_alloc_new w5 (.cells #[.bool false, .int .i64 0, .int .u16 0, .int .u32 0, .int .u32 0, .slice none 0 0, .bool false, .int .u16 0, .slice none 0 0, .slice none 0 0, .int .i64 0] 39)) (.cells #[.int .i64 0, .bool false, .bool false, .int .u16 0] 109); have hd5 := heap_alloc_new (w5.alloc (.cells #[.bool false, .int .i64 0, .int .u16 0, .int .u32 0, .int .u32 0, .slice none 0 0, .bool false, .int .u16 0, .slice none 0 0, .slice none 0 0, .int .i64 0] 39)) (.cells #[.int .i64 0, .bool false, .bool false, .int .u16 0] 109); rw [al_size] at hd5; have hx5 := al_keep (al_keep (blk_below hxx hb5) (.cells #[.bool false, .int .i64 0, .int .u16 0, .int .u32 0, .int .u32 0, .slice none 0 0, .bool false, .int .u16 0, .slice none 0 0, .slice none 0 0, .int .i64 0] 39)) (.cells #[.int .i64 0, .bool false, .bool false, .int .u16 0] 109); have hA5 := below_al (al_b w5 (.cells #[.bool false, .int .i64 0, .int .u16 0, .int .u32 0, .int .u32 0, .slice none 0 0, .bool false, .int .u16 0, .slice none 0 0, .slice none 0 0, .int .i64 0] 39)) (.cells #[.int .i64 0, .bool false, .bool false, .int .u16 0] 109); obtain ⟨p0, p1, p2, p3, p4, p5, p6, p7, p8, p9, p10⟩ := eleven_cells hp5; obtain ⟨x0, x1, x2, x3, x4, x5, x6, x7, x8, x9, x10, x11, x12, x13, x14, x15, x16⟩ := seventeen_cells hx5)
        | (go_at_call 71; (with_reducible refine (same_z _).mono ?_); rintro e w6 ⟨rfl, hb6⟩; have hB6 := below_next hB5 hb6; have hd6 := blk_below hd5 hb6; have hx6 := blk_below hx5 hb6; obtain ⟨d0, d1, d2, d3⟩ := row4_cells hd6; obtain ⟨x0, x1, x2, x3, x4, x5, x6, x7, x8, x9, x10, x11, x12, x13, x14, x15, x16⟩ := seventeen_cells hx6)
        | (go_at_call 36; (with_reducible refine (sameIts_any none 0 0 [] none 0 0 [] _ (its_none _) (its_none _) rfl).mono ?_); rintro e w7 ⟨rfl, hb7⟩; have hB7 := below_next hB6 hb7))
      go_ret
      exact ⟨rfl, hB7⟩
  · obtain ⟨is, his⟩ : ∃ is, getsL l = is := ⟨_, rfl⟩
    obtain ⟨k, hk⟩ : ∃ k, is.length = k := ⟨_, rfl⟩
    obtain ⟨_, _, p3, _, p5, p6, p7⟩ := puts_gets hE
    rw [his] at p3 p5 p6
    have hsm : ∀ i ∈ is, i.bl.length ≤ 1000000 ∧ i.go.length ≤ 1000000 ∧ i.pr.length ≤ 1000000 := fun i hi => itm_small p6 p7 hi
    have HX := Lib.hid (And.intro h5 (And.intro h2 (And.intro hf (And.intro hE (And.intro his (And.intro hk (And.intro (show k ≤ 8 by omega) hsm)))))))
    clear h5 h2 hf hE his p3 p5 p6 p7 hsm hk
    go_enter Try.func9, Try.ntmps9
    go_upto_region 5 with (first
      | (go_at_call 66; (with_reducible refine (shown10_any _).mono ?_); rintro e w1 ⟨rfl, hb1⟩)
      | (go_at_call 67; (with_reducible refine (of_fb l is k HX.out.1 HX.out.2.1 HX.out.2.2.1 HX.out.2.2.2.1 HX.out.2.2.2.2.1 HX.out.2.2.2.2.2.1 B n c _ (HB.out.below hb1)).mono ?_); rintro e w2 ⟨A2, c2, xs2, rfl, HI2, HO2, hb2⟩; have hB2 := below_next hb1 hb2)
      | (go_at_call 68; (with_reducible refine (rsift_fb l is k HX.out.1 HX.out.2.1 HX.out.2.2.1 HX.out.2.2.2.1 HX.out.2.2.2.2.1 HX.out.2.2.2.2.2.1 B n c _ (HB.out.below hB2)).mono ?_); rintro e w3 ⟨A3, c3, xs3, rfl, HI3, HO3, hb3⟩; have hB3 := below_next hB2 hb3; have HO2' := Lib.hid (HO2.out.below hb3)))
    have hx := heap_alloc_new w3 (.cells #[.int .i64 2, .bool false, .int .i64 0, .int .u16 0, .int .u32 0, .int .u32 0, .slice none 0 0, .bool false, .int .u16 0, .slice none 0 0, .slice none 0 0, .int .i64 0, .int .i64 0, .bool false, .bool false, .int .u16 0, .slice A3 k c3] 111)
    have hB := below_al hB3 (.cells #[.int .i64 2, .bool false, .int .i64 0, .int .u16 0, .int .u32 0, .int .u32 0, .slice none 0 0, .bool false, .int .u16 0, .slice none 0 0, .slice none 0 0, .int .i64 0, .int .i64 0, .bool false, .bool false, .int .u16 0, .slice A3 k c3] 111)
    have hw3 := al_b w3 (.cells #[.int .i64 2, .bool false, .int .i64 0, .int .u16 0, .int .u32 0, .int .u32 0, .slice none 0 0, .bool false, .int .u16 0, .slice none 0 0, .slice none 0 0, .int .i64 0, .int .i64 0, .bool false, .bool false, .int .u16 0, .slice A3 k c3] 111)
    generalize w3.alloc (.cells #[.int .i64 2, .bool false, .int .i64 0, .int .u16 0, .int .u32 0, .int .u32 0, .slice none 0 0, .bool false, .int .u16 0, .slice none 0 0, .slice none 0 0, .int .i64 0, .int .i64 0, .bool false, .bool false, .int .u16 0, .slice A3 k c3] 111) = wy at *
    go_cut [31] from 22 to 30 (fun s31 wx => s31 = .bool false ∧ Below wy.heap.size wy wx)
    case first =>
      go_wp2_with fail
      have hxd := blk_below hx ((Below.refl _ wy).drew)
      have hbd := (Below.refl wy.heap.size wy).drew
      refine region_plan (calmB_sound _) (.fork [0, 2] (.leaf [3, 1, 4, 5, 6, 7, 8, 9]) (.leaf [1, 3, 4, 5, 6, 7, 8, 9])) (by kernel_rfl) (by kernel_rfl) (by kernel_rfl) ?_
      obtain ⟨x0, x1, x2, x3, x4, x5, x6, x7, x8, x9, x10, x11, x12, x13, x14, x15, x16⟩ := seventeen_cells hxd
      generalize wy.drew = wd at *
      refine wpPlan_fork fun PL0 hPL0 => ?_
      simp only [List.filterMap_cons, List.filterMap_nil, List.getElem?_toArray, List.getElem?_cons_succ, List.getElem?_cons_zero]
      change wpList _ _ _ [_, _] _ _
      go_wp2_with ((go_at_call 69; (with_reducible refine (kind_f A2 k c2 wd).mono ?_); rintro e wk ⟨rfl, hbk0⟩; have hbk := below_next hbd hbk0; have hxk := blk_below hxd hbk0; obtain ⟨x0, x1, x2, x3, x4, x5, x6, x7, x8, x9, x10, x11, x12, x13, x14, x15, x16⟩ := seventeen_cells hxk))
      refine hPL0 _ _ ?_ ?_
      · refine wpPlan_leaf fun PL1 hPL1 => ?_
        simp only [List.filterMap_cons, List.filterMap_nil, List.getElem?_toArray, List.getElem?_cons_succ, List.getElem?_cons_zero]
        change wpList _ _ _ [_, _, _, _, _, _, _, _] _ _
        go_wp2_with ((go_at_call 69; (with_reducible refine (kind_f A2 k c2 wd).mono ?_); rintro e wk ⟨rfl, hbk0⟩; have hbk := below_next hbd hbk0; have hxk := blk_below hxd hbk0; obtain ⟨x0, x1, x2, x3, x4, x5, x6, x7, x8, x9, x10, x11, x12, x13, x14, x15, x16⟩ := seventeen_cells hxk))
        go_meet
        exact ⟨rfl, hbk⟩
      · refine wpPlan_leaf fun PL1 hPL1 => ?_
        simp only [List.filterMap_cons, List.filterMap_nil, List.getElem?_toArray, List.getElem?_cons_succ, List.getElem?_cons_zero]
        change wpList _ _ _ [_, _, _, _, _, _, _, _] _ _
        go_wp2_with ((go_at_call 69; (with_reducible refine (kind_f A2 k c2 wd).mono ?_); rintro e wk ⟨rfl, hbk0⟩; have hbk := below_next hbd hbk0; have hxk := blk_below hxd hbk0; obtain ⟨x0, x1, x2, x3, x4, x5, x6, x7, x8, x9, x10, x11, x12, x13, x14, x15, x16⟩ := seventeen_cells hxk))
        go_meet
        exact ⟨rfl, hbk⟩
    case rest =>
      obtain ⟨rfl, hbx⟩ := hcut
      have hxx := blk_below hx hbx
      have hBx := below_next hB hbx
      go_wp2_with (first
        | (go_at_call 70; (with_reducible refine (flat_f A2 k c2 xs2 wc (((HO2'.out.below hw3).below hbx).its) (own_rowG 120 HO2'.out.own).nil (by have := HX.out.2.2.2.2.2.2; omega) (its_small HO2'.out HI2.out HX.out.2.2.2.2.2.2.2)).mono ?_); rintro e w5 ⟨A5, c5, ys5, rfl, HY5, HE5, hb5⟩; have hB5 := below_al (below_al (below_next hBx hb5) (.cells #[.bool false, .int .i64 0, .int .u16 0, .int .u32 0, .int .u32 0, .slice none 0 0, .bool false, .int .u16 0, .slice none 0 0, .slice none 0 0, .int .i64 0] 39)) (.cells #[.int .i64 0, .bool false, .bool false, .int .u16 0] 109); have hp5 := al_keep (heap_alloc_new w5 (.cells #[.bool false, .int .i64 0, .int .u16 0, .int .u32 0, .int .u32 0, .slice none 0 0, .bool false, .int .u16 0, .slice none 0 0, .slice none 0 0, .int .i64 0] 39)) (.cells #[.int .i64 0, .bool false, .bool false, .int .u16 0] 109); have hd5 := heap_alloc_new (w5.alloc (.cells #[.bool false, .int .i64 0, .int .u16 0, .int .u32 0, .int .u32 0, .slice none 0 0, .bool false, .int .u16 0, .slice none 0 0, .slice none 0 0, .int .i64 0] 39)) (.cells #[.int .i64 0, .bool false, .bool false, .int .u16 0] 109); rw [al_size] at hd5; have hx5 := al_keep (al_keep (blk_below hxx hb5) (.cells #[.bool false, .int .i64 0, .int .u16 0, .int .u32 0, .int .u32 0, .slice none 0 0, .bool false, .int .u16 0, .slice none 0 0, .slice none 0 0, .int .i64 0] 39)) (.cells #[.int .i64 0, .bool false, .bool false, .int .u16 0] 109); have hA5 := below_al (al_b w5 (.cells #[.bool false, .int .i64 0, .int .u16 0, .int .u32 0, .int .u32 0, .slice none 0 0, .bool false, .int .u16 0, .slice none 0 0, .slice none 0 0, .int .i64 0] 39)) (.cells #[.int .i64 0, .bool false, .bool false, .int .u16 0] 109); obtain ⟨p0, p1, p2, p3, p4, p5, p6, p7, p8, p9, p10⟩ := eleven_cells hp5; obtain ⟨x0, x1, x2, x3, x4, x5, x6, x7, x8, x9, x10, x11, x12, x13, x14, x15, x16⟩ := seventeen_cells hx5)
        | (go_at_call 71; (with_reducible refine (same_z _).mono ?_); rintro e w6 ⟨rfl, hb6⟩; have hB6 := below_next hB5 hb6; have hd6 := blk_below hd5 hb6; have hx6 := blk_below hx5 hb6; obtain ⟨d0, d1, d2, d3⟩ := row4_cells hd6; obtain ⟨x0, x1, x2, x3, x4, x5, x6, x7, x8, x9, x10, x11, x12, x13, x14, x15, x16⟩ := seventeen_cells hx6)
        | (go_at_call 36; (with_reducible refine (sameIts_any A5 k c5 ys5 A3 k c3 xs3 _ ((HY5.out.below hA5).below hb6) ((((HO3.out.below hw3).below hbx).below hb5).below hA5 |>.below hb6) (HE5.out.trans (HI2.out.trans HI3.out.symm))).mono ?_); rintro e w7 ⟨rfl, hb7⟩; have hB7 := below_next hB6 hb7))
      go_ret
      exact ⟨rfl, hB7⟩
  · obtain ⟨q, hq⟩ : ∃ q, getP l = q := ⟨_, rfl⟩
    obtain ⟨q1, q2⟩ := getP_lens l
    have hcs := getP_cs l
    rw [hq] at hd q1 q2 hcs
    obtain ⟨dl, dk, ds, df, e1, e2, e3, e4⟩ : ∃ (dl : Int) (dk ds : Bool) (df : Int), (dL q.pl : Int) = dl ∧ dK q.pl = dk ∧ dS q.pl = ds ∧ (dF q.pl : Int) = df := ⟨_, _, _, _, rfl, rfl, rfl, rfl⟩
    have HD := Lib.hid (And.intro hd (And.intro e1 (And.intro e2 (And.intro e3 (And.intro e4 (And.intro hE hq))))))
    have HL := Lib.hid (And.intro hcs (And.intro q1 q2))
    clear hd e1 e2 e3 e4 hE hq q1 q2 hcs
    go_enter Try.func9, Try.ntmps9
    go_upto_region 5 with (first
      | (go_at_call 66; (with_reducible refine (shown10_any _).mono ?_); rintro e w1 ⟨rfl, hb1⟩)
      | (go_at_call 67; (with_reducible refine (of_md l q dl dk ds df HD.out.2.2.2.2.2.1 HD.out.2.2.2.2.2.2 HD.out.1 HD.out.2.1 HD.out.2.2.1 HD.out.2.2.2.1 HD.out.2.2.2.2.1 B n c _ (HB.out.below hb1)).mono ?_); rintro e w2 ⟨C2, cn2, cc2, E2, en2, ec2, L2, ln2, lc2, rfl, HR2, hb2⟩; have hB2 := below_next hb1 hb2)
      | (go_at_call 68; (with_reducible refine (rsift_md l q dl dk ds df HD.out.2.2.2.2.2.1 HD.out.2.2.2.2.2.2 HD.out.1 HD.out.2.1 HD.out.2.2.1 HD.out.2.2.2.1 HD.out.2.2.2.2.1 B n c _ (HB.out.below hB2)).mono ?_); rintro e w3 ⟨C3, cn3, cc3, E3, en3, ec3, L3, ln3, lc3, rfl, HR3, hb3⟩; have hB3 := below_next hB2 hb3; have HR2' := Lib.hid (HR2.out.below hb3)))
    have hx := heap_alloc_new w3 (.cells #[.int .i64 1, .bool q.mr, .int .i64 q.ty, .int .u16 q.sq, .int .u32 q.tm, .int .u32 q.ss, .slice C3 cn3 cc3, .bool q.hx, .int .u16 q.pf, .slice E3 en3 ec3, .slice L3 ln3 lc3, .int .i64 q.pad, .int .i64 dl, .bool dk, .bool ds, .int .u16 df, .slice none 0 0] 111)
    have hB := below_al hB3 (.cells #[.int .i64 1, .bool q.mr, .int .i64 q.ty, .int .u16 q.sq, .int .u32 q.tm, .int .u32 q.ss, .slice C3 cn3 cc3, .bool q.hx, .int .u16 q.pf, .slice E3 en3 ec3, .slice L3 ln3 lc3, .int .i64 q.pad, .int .i64 dl, .bool dk, .bool ds, .int .u16 df, .slice none 0 0] 111)
    have hw3 := al_b w3 (.cells #[.int .i64 1, .bool q.mr, .int .i64 q.ty, .int .u16 q.sq, .int .u32 q.tm, .int .u32 q.ss, .slice C3 cn3 cc3, .bool q.hx, .int .u16 q.pf, .slice E3 en3 ec3, .slice L3 ln3 lc3, .int .i64 q.pad, .int .i64 dl, .bool dk, .bool ds, .int .u16 df, .slice none 0 0] 111)
    generalize w3.alloc (.cells #[.int .i64 1, .bool q.mr, .int .i64 q.ty, .int .u16 q.sq, .int .u32 q.tm, .int .u32 q.ss, .slice C3 cn3 cc3, .bool q.hx, .int .u16 q.pf, .slice E3 en3 ec3, .slice L3 ln3 lc3, .int .i64 q.pad, .int .i64 dl, .bool dk, .bool ds, .int .u16 df, .slice none 0 0] 111) = wy at *
    go_cut [31] from 22 to 30 (fun s31 wx => s31 = .bool false ∧ Below wy.heap.size wy wx)
    case first =>
      go_wp2_with fail
      have hxd := blk_below hx ((Below.refl _ wy).drew)
      have hbd := (Below.refl wy.heap.size wy).drew
      refine region_plan (calmB_sound _) (.fork [0, 2] (.leaf [3, 1, 4, 5, 6, 7, 8, 9]) (.leaf [1, 3, 4, 5, 6, 7, 8, 9])) (by kernel_rfl) (by kernel_rfl) (by kernel_rfl) ?_
      obtain ⟨x0, x1, x2, x3, x4, x5, x6, x7, x8, x9, x10, x11, x12, x13, x14, x15, x16⟩ := seventeen_cells hxd
      generalize wy.drew = wd at *
      refine wpPlan_fork fun PL0 hPL0 => ?_
      simp only [List.filterMap_cons, List.filterMap_nil, List.getElem?_toArray, List.getElem?_cons_succ, List.getElem?_cons_zero]
      change wpList _ _ _ [_, _] _ _
      go_wp2_with ((go_at_call 69; (with_reducible refine (kind_m q C2 cn2 cc2 E2 en2 ec2 L2 ln2 lc2 dl dk ds df wd).mono ?_); rintro e wk ⟨rfl, hbk0⟩; have hbk := below_next hbd hbk0; have hxk := blk_below hxd hbk0; obtain ⟨x0, x1, x2, x3, x4, x5, x6, x7, x8, x9, x10, x11, x12, x13, x14, x15, x16⟩ := seventeen_cells hxk))
      refine hPL0 _ _ ?_ ?_
      · refine wpPlan_leaf fun PL1 hPL1 => ?_
        simp only [List.filterMap_cons, List.filterMap_nil, List.getElem?_toArray, List.getElem?_cons_succ, List.getElem?_cons_zero]
        change wpList _ _ _ [_, _, _, _, _, _, _, _] _ _
        go_wp2_with ((go_at_call 69; (with_reducible refine (kind_m q C2 cn2 cc2 E2 en2 ec2 L2 ln2 lc2 dl dk ds df wd).mono ?_); rintro e wk ⟨rfl, hbk0⟩; have hbk := below_next hbd hbk0; have hxk := blk_below hxd hbk0; obtain ⟨x0, x1, x2, x3, x4, x5, x6, x7, x8, x9, x10, x11, x12, x13, x14, x15, x16⟩ := seventeen_cells hxk))
        go_meet
        exact ⟨rfl, hbk⟩
      · refine wpPlan_leaf fun PL1 hPL1 => ?_
        simp only [List.filterMap_cons, List.filterMap_nil, List.getElem?_toArray, List.getElem?_cons_succ, List.getElem?_cons_zero]
        change wpList _ _ _ [_, _, _, _, _, _, _, _] _ _
        go_wp2_with ((go_at_call 69; (with_reducible refine (kind_m q C2 cn2 cc2 E2 en2 ec2 L2 ln2 lc2 dl dk ds df wd).mono ?_); rintro e wk ⟨rfl, hbk0⟩; have hbk := below_next hbd hbk0; have hxk := blk_below hxd hbk0; obtain ⟨x0, x1, x2, x3, x4, x5, x6, x7, x8, x9, x10, x11, x12, x13, x14, x15, x16⟩ := seventeen_cells hxk))
        go_meet
        exact ⟨rfl, hbk⟩
    case rest =>
      obtain ⟨rfl, hbx⟩ := hcut
      have hxx := blk_below hx hbx
      have hBx := below_next hB hbx
      go_wp2_with (first
        | (go_at_call 70; (with_reducible refine (flat_m q C2 cn2 cc2 E2 en2 ec2 L2 ln2 lc2 dl dk ds df wc ((HR2'.out.below hw3).below hbx) (by have := HR2'.out.hcn; have := HL.out.1; omega) (by have := HR2'.out.hen; have := HL.out.2.1; omega) (by have := HR2'.out.hln; have := HL.out.2.2; omega)).mono ?_); rintro e w5 ⟨C5, cc5, E5, ec5, L5, lc5, rfl, HR5, hb5⟩; have hB5 := below_al (below_al (below_next hBx hb5) (.cells #[.bool q.mr, .int .i64 q.ty, .int .u16 q.sq, .int .u32 q.tm, .int .u32 q.ss, .slice C5 cn2 cc5, .bool q.hx, .int .u16 q.pf, .slice E5 en2 ec5, .slice L5 ln2 lc5, .int .i64 q.pad] 39)) (.cells #[.int .i64 dl, .bool dk, .bool ds, .int .u16 df] 109); have hp5 := al_keep (heap_alloc_new w5 (.cells #[.bool q.mr, .int .i64 q.ty, .int .u16 q.sq, .int .u32 q.tm, .int .u32 q.ss, .slice C5 cn2 cc5, .bool q.hx, .int .u16 q.pf, .slice E5 en2 ec5, .slice L5 ln2 lc5, .int .i64 q.pad] 39)) (.cells #[.int .i64 dl, .bool dk, .bool ds, .int .u16 df] 109); have hd5 := heap_alloc_new (w5.alloc (.cells #[.bool q.mr, .int .i64 q.ty, .int .u16 q.sq, .int .u32 q.tm, .int .u32 q.ss, .slice C5 cn2 cc5, .bool q.hx, .int .u16 q.pf, .slice E5 en2 ec5, .slice L5 ln2 lc5, .int .i64 q.pad] 39)) (.cells #[.int .i64 dl, .bool dk, .bool ds, .int .u16 df] 109); rw [al_size] at hd5; have hx5 := al_keep (al_keep (blk_below hxx hb5) (.cells #[.bool q.mr, .int .i64 q.ty, .int .u16 q.sq, .int .u32 q.tm, .int .u32 q.ss, .slice C5 cn2 cc5, .bool q.hx, .int .u16 q.pf, .slice E5 en2 ec5, .slice L5 ln2 lc5, .int .i64 q.pad] 39)) (.cells #[.int .i64 dl, .bool dk, .bool ds, .int .u16 df] 109); have hA5 := below_al (al_b w5 (.cells #[.bool q.mr, .int .i64 q.ty, .int .u16 q.sq, .int .u32 q.tm, .int .u32 q.ss, .slice C5 cn2 cc5, .bool q.hx, .int .u16 q.pf, .slice E5 en2 ec5, .slice L5 ln2 lc5, .int .i64 q.pad] 39)) (.cells #[.int .i64 dl, .bool dk, .bool ds, .int .u16 df] 109); obtain ⟨p0, p1, p2, p3, p4, p5, p6, p7, p8, p9, p10⟩ := eleven_cells hp5; obtain ⟨x0, x1, x2, x3, x4, x5, x6, x7, x8, x9, x10, x11, x12, x13, x14, x15, x16⟩ := seventeen_cells hx5)
        | (go_at_call 71; (with_reducible refine (samePkt_row q q rfl C5 cn2 cc5 E5 en2 ec5 L5 ln2 lc5 C3 cn3 cc3 E3 en3 ec3 L3 ln3 lc3 _ (HR5.out.below hA5) ((((HR3.out.below hw3).below hbx).below hb5).below hA5)).mono ?_); rintro e w6 ⟨rfl, hb6⟩; have hB6 := below_next hB5 hb6; have hd6 := blk_below hd5 hb6; have hx6 := blk_below hx5 hb6; obtain ⟨d0, d1, d2, d3⟩ := row4_cells hd6; obtain ⟨x0, x1, x2, x3, x4, x5, x6, x7, x8, x9, x10, x11, x12, x13, x14, x15, x16⟩ := seventeen_cells hx6)
        | (go_at_call 36; (with_reducible refine (sameIts_any none 0 0 [] none 0 0 [] _ (its_none _) (its_none _) rfl).mono ?_); rintro e w7 ⟨rfl, hb7⟩; have hB7 := below_next hB6 hb7))
      go_ret
      exact ⟨rfl, hB7⟩
namespace siftAll
open Go.ChangeShapes Go.WideShapes Go.ChangeAt Go.RowKit
open Go.ChangeMaps (open_string shut_string)
set_option linter.unusedVariables false

theorem own : ownKnob Try.prog.godebug = none := by kernel_rfl
theorem laidOut : laidOutB Try.prog = true := by kernel_rfl

set_option maxRecDepth 100000 in
theorem lifted (os : Os) (started : os.Started) (H : Type) (enc : TypeId × Value → H) :
    ReturnsInHanded {} Try.checked os 9 .any (Rows.siftAllSpec.pre6 enc Try.prog Try.f9 Rows.siftAllRow.domain false) (Rows.siftAllSpec.post enc Try.prog Try.f9 false true false false) := by
  refine returnsInHanded_of_change_sized (C := Try.checked) own started (by kernel_rfl) Try.func9
    (ChangeSpec.witness6 (enc := enc) (C := Try.checked) false ⟨#[], #[.slice none 0 0], []⟩ 8 (by kernel_rfl) (by kernel_rfl) (by kernel_rfl) (by kernel_rfl)) ?_
  intro W base args ds gs before hval0 hW hcnd hsz0 _
  have hsz : (DataW.weightsEach Try.prog (Try.f9.params.toList ++ Rows.siftAllSpec.plain.varTypes Try.prog) (ds ++ gs)).all (· ≤ reachBytes) = true := hsz0
  have hval : ∀ (j : Nat) t v, Try.f9.params[j]? = some t → args[j]? = some v → Value.okWide Try.prog W .any base t v := hval0
  have hW' := hW
  obtain ⟨p, q, hA0, hV, rfl, hfz, hnd⟩ := hW
  have hA : DataW.TrodAll enc Try.prog W 0 (fun _ => true) true Try.f9.params.toList args.toList ds p := hA0
  rw [Try.params9] at hA hval hsz
  obtain ⟨v0, vs0, d0, ds0, p0, q0, hargs, rfl, rfl, h0, r0⟩ := trodAll_cons hA
  obtain ⟨rfl, rfl, rfl⟩ := trodAll_nil r0
  obtain rfl : args = #[v0] := by cases args; simp_all
  obtain ⟨rfl, rfl⟩ := trodVars_none hV
  obtain ⟨a0, len0, cap0, rfl⟩ := okWide_slice Try.underlying22 (hval 0 22 v0 rfl rfl)
  have k0 := h0
  have lt0 : ∀ x ∈ p0, x.block < W.heap.size := by obtain ⟨m, hm⟩ := k0; exact DataW.trod_lt m _ _ _ hm
  obtain ⟨l0, n0, nc0, cm0, nl0, rd0, hl0⟩ : ∃ l : List UInt8, l.length = len0 ∧ len0 ≤ cap0 ∧ cap0 ≤ maxLen ∧ (a0 = none → len0 = 0 ∧ cap0 = 0) ∧ Rd W a0 (bys l) ∧ (len0 = 0 ∨ ∃ es sp, d0 = .slice es sp ∧ es.length = len0) := by
    obtain ⟨fuel, hf⟩ := h0
    exact open_byte_slice Try.underlying22 Try.underlying5 (by kernel_rfl) hf
  have hb0 : len0 * 1 ≤ 140737488351232 := reach_slice hsz (j := 0) rfl rfl Try.underlying22 (by kernel_rfl) hl0
  rw [Nat.mul_one] at hb0
  clear hA0 hval0 hsz0
  refine (siftAll_walk a0 len0 cap0 l0 W n0 nc0 cm0 hb0 nl0 rd0).mono fun e W' ⟨he, bel⟩ => ?_
  subst he
  exact ⟨_, rfl, _, _, _, [], _, [], hW', trodAll_mk1 (shut_bool Try.underlying4 _), (trodAll_cons_mk (Below.trod laidOut (by kernel_rfl) (of_decide_eq_true (by kernel_rfl)) k0 bel lt0) trodAll_mk0), rfl, bel.frame _, fun h => by cases h⟩

/-- The statement. -/
theorem proved : Rows.SiftAllSaid :=
  OpenClaim.holds_of_wide 9 Try.f9 rfl rfl rfl rfl rfl rfl rfl ⟨rfl, rfl, rfl, rfl, rfl⟩ rfl rfl rfl rfl rfl (by kernel_rfl) Try.func9 (by kernel_rfl)
    (of_decide_eq_true (by kernel_rfl)) (by unfold Func.isWrapper; rw [if_neg (of_decide_eq_false (by kernel_rfl))]; exact ⟨rfl, rfl⟩)
    (fun os started H enc _ => lifted os started H enc)
#print axioms proved
end siftAll
end Go.Proofs.Ytknlkmencdlpcaa
