/-
May of package text.
-/
import Derived.Test.YtaghecgjmkhpcaaGreatDoorTx5
namespace Go.Proofs.YtaghecgjmkhpcaaGreatDoor
set_option linter.unusedVariables false
set_option linter.unusedSimpArgs false
open Go Go.RowKit

set_option maxRecDepth 20000 in
set_option maxHeartbeats 4000000 in
theorem may_v (k p s y : Int) (nm : List UInt8) (A : Option Addr) (an ac : Nat) (B : Option Addr) (bn bc : Nat) (v : Value) (sm : Bool) (w : World) (hl : nm.length ≤ 281474976710656) (hin : (1 ≤ k ∧ k ≤ 12) → (∀ w', Below w.heap.size w w' → Calls Tryz.prog 14 #[opA k p s y nm A an ac B bn bc] w' fun e w'' => e = .returned v ∧ Below w'.heap.size w' w''))
    (hS : (1 ≤ k ∧ k ≤ 12) → ∀ w', Below w.heap.size w w' → Calls Tryz.prog 13 #[opA k p s y nm A an ac B bn bc, v] w' fun e w'' => e = .returned (.bool sm) ∧ Below w'.heap.size w' w'') :
    Calls Tryz.prog 6 #[opA k p s y nm A an ac B bn bc] w fun e w' => e = .returned (.bool (decide (1 ≤ k ∧ k ≤ 12) && sm && smlB p && smlB s && smlB y && tailO k nm an bn)) ∧ Below w.heap.size w w' := by
  have hb0 : Below w.heap.size w (w.alloc (.cells (opC k p s y nm A an ac B bn bc) 27)) := (Below.refl _ w).alloc (Nat.le_refl _) _
  have hi0 : (w.alloc (.cells (opC k p s y nm A an ac B bn bc) 27)).heap[w.heap.size]? = some (.cells (opC k p s y nm A an ac B bn bc) 27 (0, 0)) := heap_alloc_new w _
  obtain ⟨RES, hRES⟩ : ∃ r, (decide (1 ≤ k ∧ k ≤ 12) && sm && smlB p && smlB s && smlB y && tailO k nm an bn) = r := ⟨_, rfl⟩
  rw [hRES]
  have HR := Lib.hid hRES
  have HL := Lib.hid hl
  clear hRES hl
  obtain ⟨x0, x1, x2, x3, x4, x5, x6⟩ := seven_cells hi0
  by_cases g1 : decide (k < 1) = true
  · have hk : k < 1 := by simpa using g1
    have hz : RES = false := by rw [← HR.out, decide_eq_false (by omega)]; rfl
    subst hz
    clear hk hin hS
    go_enter Tryz.func6, Tryz.ntmps6
    go_upto_region 1 with fail
    generalize w.alloc _ = w1 at *
    go_cut [35] from 3 to 35 (fun v35 wx => v35 = .bool true ∧ Below w.heap.size w wx)
    case rest =>
      obtain ⟨rfl, hbc⟩ := hcut
      go_wp2
      go_ret
      exact ⟨rfl, hbc⟩
    go_wp2_with fail
    refine region_plan (calmB_sound _) (.fork [0, 1, 2, 3, 4, 5, 6, 7, 8, 10] (.leaf [11, 9, 12, 13, 14, 15, 16, 17, 18, 19, 20, 21, 22, 23, 24, 25, 26, 27, 28, 29, 30, 31, 32]) (.leaf [9, 11, 12, 13, 14, 15, 16, 17, 18, 19, 20, 21, 22, 23, 24, 25, 26, 27, 28, 29, 30, 31, 32])) (by kernel_rfl) (by kernel_rfl) (by kernel_rfl) ?_
    have hid := blk_below hi0 (Below.refl _ w1).drew
    have HD := Lib.hid hb0.drew
    generalize w1.drew = wd at *
    obtain ⟨y0, y1, y2, y3, y4, y5, y6⟩ := seven_cells hid
    refine wpPlan_fork fun PL0 hPL0 => ?_
    simp only [List.filterMap_cons, List.filterMap_nil, List.getElem?_toArray, List.getElem?_cons_succ, List.getElem?_cons_zero]
    change wpList _ _ _ [_, _, _, _, _, _, _, _, _, _] _ _
    go_wp2_with (first | (go_at_call 14; (with_reducible refine (HN.out _ HD.out).mono ?_); rintro e w3 ⟨rfl, hb3⟩; have hB3 := below_nextT HD.out hb3; obtain ⟨z0, z1, z2, z3, z4, z5, z6⟩ := seven_cells (blk_below hid hb3)) | (go_at_call 13; (with_reducible refine (HS.out _ hB3).mono ?_); rintro e w4 ⟨rfl, hb4⟩; have hB4 := below_nextT hB3 hb4; have hi4 := blk_below (blk_below hid hb3) hb4; obtain ⟨u0, u1, u2, u3, u4, u5, u6⟩ := seven_cells hi4) | (go_at_call 15; (with_reducible refine (number_any _ _).mono ?_); rintro e w5 ⟨rfl, rfl⟩))
    refine hPL0 _ _ ?_ ?_
    · refine wpPlan_leaf fun PL1 hPL1 => ?_
      simp only [List.filterMap_cons, List.filterMap_nil, List.getElem?_toArray, List.getElem?_cons_succ, List.getElem?_cons_zero]
      change wpList _ _ _ [_, _, _, _, _, _, _, _, _, _, _, _, _, _, _, _, _, _, _, _, _, _, _] _ _
      go_wp2_with (first | (go_at_call 14; (with_reducible refine (HN.out _ HD.out).mono ?_); rintro e w3 ⟨rfl, hb3⟩; have hB3 := below_nextT HD.out hb3; obtain ⟨z0, z1, z2, z3, z4, z5, z6⟩ := seven_cells (blk_below hid hb3)) | (go_at_call 13; (with_reducible refine (HS.out _ hB3).mono ?_); rintro e w4 ⟨rfl, hb4⟩; have hB4 := below_nextT hB3 hb4; have hi4 := blk_below (blk_below hid hb3) hb4; obtain ⟨u0, u1, u2, u3, u4, u5, u6⟩ := seven_cells hi4) | (go_at_call 15; (with_reducible refine (number_any _ _).mono ?_); rintro e w5 ⟨rfl, rfl⟩))
      go_meet
      exact ⟨rfl, HD.out⟩
    · refine wpPlan_leaf fun PL1 hPL1 => ?_
      simp only [List.filterMap_cons, List.filterMap_nil, List.getElem?_toArray, List.getElem?_cons_succ, List.getElem?_cons_zero]
      change wpList _ _ _ [_, _, _, _, _, _, _, _, _, _, _, _, _, _, _, _, _, _, _, _, _, _, _] _ _
      go_wp2_with (first | (go_at_call 14; (with_reducible refine (HN.out _ HD.out).mono ?_); rintro e w3 ⟨rfl, hb3⟩; have hB3 := below_nextT HD.out hb3; obtain ⟨z0, z1, z2, z3, z4, z5, z6⟩ := seven_cells (blk_below hid hb3)) | (go_at_call 13; (with_reducible refine (HS.out _ hB3).mono ?_); rintro e w4 ⟨rfl, hb4⟩; have hB4 := below_nextT hB3 hb4; have hi4 := blk_below (blk_below hid hb3) hb4; obtain ⟨u0, u1, u2, u3, u4, u5, u6⟩ := seven_cells hi4) | (go_at_call 15; (with_reducible refine (number_any _ _).mono ?_); rintro e w5 ⟨rfl, rfl⟩))
      go_meet
      exact ⟨rfl, HD.out⟩
  have g1 : decide (k < 1) = false := by simpa using g1
  by_cases g2 : decide (k > 12) = true
  · have hk : 12 < k := by simpa using g2
    have hz : RES = false := by rw [← HR.out, decide_eq_false (by omega)]; rfl
    subst hz
    clear hk hin hS
    go_enter Tryz.func6, Tryz.ntmps6
    go_upto_region 1 with fail
    generalize w.alloc _ = w1 at *
    go_cut [35] from 3 to 35 (fun v35 wx => v35 = .bool true ∧ Below w.heap.size w wx)
    case rest =>
      obtain ⟨rfl, hbc⟩ := hcut
      go_wp2
      go_ret
      exact ⟨rfl, hbc⟩
    go_wp2_with fail
    refine region_plan (calmB_sound _) (.fork [0, 1, 2, 3, 4, 5, 6, 7, 8, 10] (.leaf [11, 9, 12, 13, 14, 15, 16, 17, 18, 19, 20, 21, 22, 23, 24, 25, 26, 27, 28, 29, 30, 31, 32]) (.leaf [9, 11, 12, 13, 14, 15, 16, 17, 18, 19, 20, 21, 22, 23, 24, 25, 26, 27, 28, 29, 30, 31, 32])) (by kernel_rfl) (by kernel_rfl) (by kernel_rfl) ?_
    have hid := blk_below hi0 (Below.refl _ w1).drew
    have HD := Lib.hid hb0.drew
    generalize w1.drew = wd at *
    obtain ⟨y0, y1, y2, y3, y4, y5, y6⟩ := seven_cells hid
    refine wpPlan_fork fun PL0 hPL0 => ?_
    simp only [List.filterMap_cons, List.filterMap_nil, List.getElem?_toArray, List.getElem?_cons_succ, List.getElem?_cons_zero]
    change wpList _ _ _ [_, _, _, _, _, _, _, _, _, _] _ _
    go_wp2_with (first | (go_at_call 14; (with_reducible refine (HN.out _ HD.out).mono ?_); rintro e w3 ⟨rfl, hb3⟩; have hB3 := below_nextT HD.out hb3; obtain ⟨z0, z1, z2, z3, z4, z5, z6⟩ := seven_cells (blk_below hid hb3)) | (go_at_call 13; (with_reducible refine (HS.out _ hB3).mono ?_); rintro e w4 ⟨rfl, hb4⟩; have hB4 := below_nextT hB3 hb4; have hi4 := blk_below (blk_below hid hb3) hb4; obtain ⟨u0, u1, u2, u3, u4, u5, u6⟩ := seven_cells hi4) | (go_at_call 15; (with_reducible refine (number_any _ _).mono ?_); rintro e w5 ⟨rfl, rfl⟩))
    refine hPL0 _ _ ?_ ?_
    · refine wpPlan_leaf fun PL1 hPL1 => ?_
      simp only [List.filterMap_cons, List.filterMap_nil, List.getElem?_toArray, List.getElem?_cons_succ, List.getElem?_cons_zero]
      change wpList _ _ _ [_, _, _, _, _, _, _, _, _, _, _, _, _, _, _, _, _, _, _, _, _, _, _] _ _
      go_wp2_with (first | (go_at_call 14; (with_reducible refine (HN.out _ HD.out).mono ?_); rintro e w3 ⟨rfl, hb3⟩; have hB3 := below_nextT HD.out hb3; obtain ⟨z0, z1, z2, z3, z4, z5, z6⟩ := seven_cells (blk_below hid hb3)) | (go_at_call 13; (with_reducible refine (HS.out _ hB3).mono ?_); rintro e w4 ⟨rfl, hb4⟩; have hB4 := below_nextT hB3 hb4; have hi4 := blk_below (blk_below hid hb3) hb4; obtain ⟨u0, u1, u2, u3, u4, u5, u6⟩ := seven_cells hi4) | (go_at_call 15; (with_reducible refine (number_any _ _).mono ?_); rintro e w5 ⟨rfl, rfl⟩))
      go_meet
      exact ⟨rfl, HD.out⟩
    · refine wpPlan_leaf fun PL1 hPL1 => ?_
      simp only [List.filterMap_cons, List.filterMap_nil, List.getElem?_toArray, List.getElem?_cons_succ, List.getElem?_cons_zero]
      change wpList _ _ _ [_, _, _, _, _, _, _, _, _, _, _, _, _, _, _, _, _, _, _, _, _, _, _] _ _
      go_wp2_with (first | (go_at_call 14; (with_reducible refine (HN.out _ HD.out).mono ?_); rintro e w3 ⟨rfl, hb3⟩; have hB3 := below_nextT HD.out hb3; obtain ⟨z0, z1, z2, z3, z4, z5, z6⟩ := seven_cells (blk_below hid hb3)) | (go_at_call 13; (with_reducible refine (HS.out _ hB3).mono ?_); rintro e w4 ⟨rfl, hb4⟩; have hB4 := below_nextT hB3 hb4; have hi4 := blk_below (blk_below hid hb3) hb4; obtain ⟨u0, u1, u2, u3, u4, u5, u6⟩ := seven_cells hi4) | (go_at_call 15; (with_reducible refine (number_any _ _).mono ?_); rintro e w5 ⟨rfl, rfl⟩))
      go_meet
      exact ⟨rfl, HD.out⟩
  have g2 : decide (k > 12) = false := by simpa using g2
  have hk : 1 ≤ k ∧ k ≤ 12 := by simp at g1 g2; omega
  have HN := Lib.hid (hin hk)
  have HS := Lib.hid (hS hk)
  have hr2 : (sm && smlB p && smlB s && smlB y && tailO k nm an bn) = RES := by rw [← HR.out, decide_eq_true hk]; rfl
  have HR2 := Lib.hid hr2
  clear hin hS hr2 HR hk
  by_cases s1 : sm = false
  · have hz : RES = false := by rw [← HR2.out, s1]; simp
    subst hz
    clear HR2
    go_enter Tryz.func6, Tryz.ntmps6
    go_upto_region 1 with fail
    generalize w.alloc _ = w1 at *
    go_cut [35] from 3 to 35 (fun v35 wx => v35 = .bool true ∧ Below w.heap.size w wx)
    case rest =>
      obtain ⟨rfl, hbc⟩ := hcut
      go_wp2
      go_ret
      exact ⟨rfl, hbc⟩
    go_wp2_with fail
    refine region_plan (calmB_sound _) (.fork [0, 1, 2, 3, 4, 5, 6, 7, 8, 10] (.leaf [11, 9, 12, 13, 14, 15, 16, 17, 18, 19, 20, 21, 22, 23, 24, 25, 26, 27, 28, 29, 30, 31, 32]) (.leaf [9, 11, 12, 13, 14, 15, 16, 17, 18, 19, 20, 21, 22, 23, 24, 25, 26, 27, 28, 29, 30, 31, 32])) (by kernel_rfl) (by kernel_rfl) (by kernel_rfl) ?_
    have hid := blk_below hi0 (Below.refl _ w1).drew
    have HD := Lib.hid hb0.drew
    generalize w1.drew = wd at *
    obtain ⟨y0, y1, y2, y3, y4, y5, y6⟩ := seven_cells hid
    refine wpPlan_fork fun PL0 hPL0 => ?_
    simp only [List.filterMap_cons, List.filterMap_nil, List.getElem?_toArray, List.getElem?_cons_succ, List.getElem?_cons_zero]
    change wpList _ _ _ [_, _, _, _, _, _, _, _, _, _] _ _
    go_wp2_with (first | (go_at_call 14; (with_reducible refine (HN.out _ HD.out).mono ?_); rintro e w3 ⟨rfl, hb3⟩; have hB3 := below_nextT HD.out hb3; obtain ⟨z0, z1, z2, z3, z4, z5, z6⟩ := seven_cells (blk_below hid hb3)) | (go_at_call 13; (with_reducible refine (HS.out _ hB3).mono ?_); rintro e w4 ⟨rfl, hb4⟩; have hB4 := below_nextT hB3 hb4; have hi4 := blk_below (blk_below hid hb3) hb4; obtain ⟨u0, u1, u2, u3, u4, u5, u6⟩ := seven_cells hi4) | (go_at_call 15; (with_reducible refine (number_any _ _).mono ?_); rintro e w5 ⟨rfl, rfl⟩))
    refine hPL0 _ _ ?_ ?_
    · refine wpPlan_leaf fun PL1 hPL1 => ?_
      simp only [List.filterMap_cons, List.filterMap_nil, List.getElem?_toArray, List.getElem?_cons_succ, List.getElem?_cons_zero]
      change wpList _ _ _ [_, _, _, _, _, _, _, _, _, _, _, _, _, _, _, _, _, _, _, _, _, _, _] _ _
      go_wp2_with (first | (go_at_call 14; (with_reducible refine (HN.out _ HD.out).mono ?_); rintro e w3 ⟨rfl, hb3⟩; have hB3 := below_nextT HD.out hb3; obtain ⟨z0, z1, z2, z3, z4, z5, z6⟩ := seven_cells (blk_below hid hb3)) | (go_at_call 13; (with_reducible refine (HS.out _ hB3).mono ?_); rintro e w4 ⟨rfl, hb4⟩; have hB4 := below_nextT hB3 hb4; have hi4 := blk_below (blk_below hid hb3) hb4; obtain ⟨u0, u1, u2, u3, u4, u5, u6⟩ := seven_cells hi4) | (go_at_call 15; (with_reducible refine (number_any _ _).mono ?_); rintro e w5 ⟨rfl, rfl⟩))
      go_meet
      exact ⟨rfl, hB4⟩
    · refine wpPlan_leaf fun PL1 hPL1 => ?_
      simp only [List.filterMap_cons, List.filterMap_nil, List.getElem?_toArray, List.getElem?_cons_succ, List.getElem?_cons_zero]
      change wpList _ _ _ [_, _, _, _, _, _, _, _, _, _, _, _, _, _, _, _, _, _, _, _, _, _, _] _ _
      go_wp2_with (first | (go_at_call 14; (with_reducible refine (HN.out _ HD.out).mono ?_); rintro e w3 ⟨rfl, hb3⟩; have hB3 := below_nextT HD.out hb3; obtain ⟨z0, z1, z2, z3, z4, z5, z6⟩ := seven_cells (blk_below hid hb3)) | (go_at_call 13; (with_reducible refine (HS.out _ hB3).mono ?_); rintro e w4 ⟨rfl, hb4⟩; have hB4 := below_nextT hB3 hb4; have hi4 := blk_below (blk_below hid hb3) hb4; obtain ⟨u0, u1, u2, u3, u4, u5, u6⟩ := seven_cells hi4) | (go_at_call 15; (with_reducible refine (number_any _ _).mono ?_); rintro e w5 ⟨rfl, rfl⟩))
      go_meet
      exact ⟨rfl, hB4⟩
  have s1 : sm = true := by simpa using s1
  by_cases s2 : smlB p = false
  · have hz : RES = false := by rw [← HR2.out, s1, s2]; simp
    subst hz
    clear HR2
    go_enter Tryz.func6, Tryz.ntmps6
    go_upto_region 1 with fail
    generalize w.alloc _ = w1 at *
    go_cut [35] from 3 to 35 (fun v35 wx => v35 = .bool true ∧ Below w.heap.size w wx)
    case rest =>
      obtain ⟨rfl, hbc⟩ := hcut
      go_wp2
      go_ret
      exact ⟨rfl, hbc⟩
    go_wp2_with fail
    refine region_plan (calmB_sound _) (.fork [0, 1, 2, 3, 4, 5, 6, 7, 8, 10] (.leaf [11, 9, 12, 13, 14, 15, 16, 17, 18, 19, 20, 21, 22, 23, 24, 25, 26, 27, 28, 29, 30, 31, 32]) (.leaf [9, 11, 12, 13, 14, 15, 16, 17, 18, 19, 20, 21, 22, 23, 24, 25, 26, 27, 28, 29, 30, 31, 32])) (by kernel_rfl) (by kernel_rfl) (by kernel_rfl) ?_
    have hid := blk_below hi0 (Below.refl _ w1).drew
    have HD := Lib.hid hb0.drew
    generalize w1.drew = wd at *
    obtain ⟨y0, y1, y2, y3, y4, y5, y6⟩ := seven_cells hid
    refine wpPlan_fork fun PL0 hPL0 => ?_
    simp only [List.filterMap_cons, List.filterMap_nil, List.getElem?_toArray, List.getElem?_cons_succ, List.getElem?_cons_zero]
    change wpList _ _ _ [_, _, _, _, _, _, _, _, _, _] _ _
    go_wp2_with (first | (go_at_call 14; (with_reducible refine (HN.out _ HD.out).mono ?_); rintro e w3 ⟨rfl, hb3⟩; have hB3 := below_nextT HD.out hb3; obtain ⟨z0, z1, z2, z3, z4, z5, z6⟩ := seven_cells (blk_below hid hb3)) | (go_at_call 13; (with_reducible refine (HS.out _ hB3).mono ?_); rintro e w4 ⟨rfl, hb4⟩; have hB4 := below_nextT hB3 hb4; have hi4 := blk_below (blk_below hid hb3) hb4; obtain ⟨u0, u1, u2, u3, u4, u5, u6⟩ := seven_cells hi4) | (go_at_call 15; (with_reducible refine (number_any _ _).mono ?_); rintro e w5 ⟨rfl, rfl⟩))
    refine hPL0 _ _ ?_ ?_
    · refine wpPlan_leaf fun PL1 hPL1 => ?_
      simp only [List.filterMap_cons, List.filterMap_nil, List.getElem?_toArray, List.getElem?_cons_succ, List.getElem?_cons_zero]
      change wpList _ _ _ [_, _, _, _, _, _, _, _, _, _, _, _, _, _, _, _, _, _, _, _, _, _, _] _ _
      go_wp2_with (first | (go_at_call 14; (with_reducible refine (HN.out _ HD.out).mono ?_); rintro e w3 ⟨rfl, hb3⟩; have hB3 := below_nextT HD.out hb3; obtain ⟨z0, z1, z2, z3, z4, z5, z6⟩ := seven_cells (blk_below hid hb3)) | (go_at_call 13; (with_reducible refine (HS.out _ hB3).mono ?_); rintro e w4 ⟨rfl, hb4⟩; have hB4 := below_nextT hB3 hb4; have hi4 := blk_below (blk_below hid hb3) hb4; obtain ⟨u0, u1, u2, u3, u4, u5, u6⟩ := seven_cells hi4) | (go_at_call 15; (with_reducible refine (number_any _ _).mono ?_); rintro e w5 ⟨rfl, rfl⟩))
      go_meet
      exact ⟨rfl, hB4⟩
    · refine wpPlan_leaf fun PL1 hPL1 => ?_
      simp only [List.filterMap_cons, List.filterMap_nil, List.getElem?_toArray, List.getElem?_cons_succ, List.getElem?_cons_zero]
      change wpList _ _ _ [_, _, _, _, _, _, _, _, _, _, _, _, _, _, _, _, _, _, _, _, _, _, _] _ _
      go_wp2_with (first | (go_at_call 14; (with_reducible refine (HN.out _ HD.out).mono ?_); rintro e w3 ⟨rfl, hb3⟩; have hB3 := below_nextT HD.out hb3; obtain ⟨z0, z1, z2, z3, z4, z5, z6⟩ := seven_cells (blk_below hid hb3)) | (go_at_call 13; (with_reducible refine (HS.out _ hB3).mono ?_); rintro e w4 ⟨rfl, hb4⟩; have hB4 := below_nextT hB3 hb4; have hi4 := blk_below (blk_below hid hb3) hb4; obtain ⟨u0, u1, u2, u3, u4, u5, u6⟩ := seven_cells hi4) | (go_at_call 15; (with_reducible refine (number_any _ _).mono ?_); rintro e w5 ⟨rfl, rfl⟩))
      go_meet
      exact ⟨rfl, hB4⟩
  have s2 : smlB p = true := by simpa using s2
  by_cases s3 : smlB s = false
  · have hz : RES = false := by rw [← HR2.out, s1, s2, s3]; simp
    subst hz
    clear HR2
    go_enter Tryz.func6, Tryz.ntmps6
    go_upto_region 1 with fail
    generalize w.alloc _ = w1 at *
    go_cut [35] from 3 to 35 (fun v35 wx => v35 = .bool true ∧ Below w.heap.size w wx)
    case rest =>
      obtain ⟨rfl, hbc⟩ := hcut
      go_wp2
      go_ret
      exact ⟨rfl, hbc⟩
    go_wp2_with fail
    refine region_plan (calmB_sound _) (.fork [0, 1, 2, 3, 4, 5, 6, 7, 8, 10] (.leaf [11, 9, 12, 13, 14, 15, 16, 17, 18, 19, 20, 21, 22, 23, 24, 25, 26, 27, 28, 29, 30, 31, 32]) (.leaf [9, 11, 12, 13, 14, 15, 16, 17, 18, 19, 20, 21, 22, 23, 24, 25, 26, 27, 28, 29, 30, 31, 32])) (by kernel_rfl) (by kernel_rfl) (by kernel_rfl) ?_
    have hid := blk_below hi0 (Below.refl _ w1).drew
    have HD := Lib.hid hb0.drew
    generalize w1.drew = wd at *
    obtain ⟨y0, y1, y2, y3, y4, y5, y6⟩ := seven_cells hid
    refine wpPlan_fork fun PL0 hPL0 => ?_
    simp only [List.filterMap_cons, List.filterMap_nil, List.getElem?_toArray, List.getElem?_cons_succ, List.getElem?_cons_zero]
    change wpList _ _ _ [_, _, _, _, _, _, _, _, _, _] _ _
    go_wp2_with (first | (go_at_call 14; (with_reducible refine (HN.out _ HD.out).mono ?_); rintro e w3 ⟨rfl, hb3⟩; have hB3 := below_nextT HD.out hb3; obtain ⟨z0, z1, z2, z3, z4, z5, z6⟩ := seven_cells (blk_below hid hb3)) | (go_at_call 13; (with_reducible refine (HS.out _ hB3).mono ?_); rintro e w4 ⟨rfl, hb4⟩; have hB4 := below_nextT hB3 hb4; have hi4 := blk_below (blk_below hid hb3) hb4; obtain ⟨u0, u1, u2, u3, u4, u5, u6⟩ := seven_cells hi4) | (go_at_call 15; (with_reducible refine (number_any _ _).mono ?_); rintro e w5 ⟨rfl, rfl⟩))
    refine hPL0 _ _ ?_ ?_
    · refine wpPlan_leaf fun PL1 hPL1 => ?_
      simp only [List.filterMap_cons, List.filterMap_nil, List.getElem?_toArray, List.getElem?_cons_succ, List.getElem?_cons_zero]
      change wpList _ _ _ [_, _, _, _, _, _, _, _, _, _, _, _, _, _, _, _, _, _, _, _, _, _, _] _ _
      go_wp2_with (first | (go_at_call 14; (with_reducible refine (HN.out _ HD.out).mono ?_); rintro e w3 ⟨rfl, hb3⟩; have hB3 := below_nextT HD.out hb3; obtain ⟨z0, z1, z2, z3, z4, z5, z6⟩ := seven_cells (blk_below hid hb3)) | (go_at_call 13; (with_reducible refine (HS.out _ hB3).mono ?_); rintro e w4 ⟨rfl, hb4⟩; have hB4 := below_nextT hB3 hb4; have hi4 := blk_below (blk_below hid hb3) hb4; obtain ⟨u0, u1, u2, u3, u4, u5, u6⟩ := seven_cells hi4) | (go_at_call 15; (with_reducible refine (number_any _ _).mono ?_); rintro e w5 ⟨rfl, rfl⟩))
      go_meet
      exact ⟨rfl, hB4⟩
    · refine wpPlan_leaf fun PL1 hPL1 => ?_
      simp only [List.filterMap_cons, List.filterMap_nil, List.getElem?_toArray, List.getElem?_cons_succ, List.getElem?_cons_zero]
      change wpList _ _ _ [_, _, _, _, _, _, _, _, _, _, _, _, _, _, _, _, _, _, _, _, _, _, _] _ _
      go_wp2_with (first | (go_at_call 14; (with_reducible refine (HN.out _ HD.out).mono ?_); rintro e w3 ⟨rfl, hb3⟩; have hB3 := below_nextT HD.out hb3; obtain ⟨z0, z1, z2, z3, z4, z5, z6⟩ := seven_cells (blk_below hid hb3)) | (go_at_call 13; (with_reducible refine (HS.out _ hB3).mono ?_); rintro e w4 ⟨rfl, hb4⟩; have hB4 := below_nextT hB3 hb4; have hi4 := blk_below (blk_below hid hb3) hb4; obtain ⟨u0, u1, u2, u3, u4, u5, u6⟩ := seven_cells hi4) | (go_at_call 15; (with_reducible refine (number_any _ _).mono ?_); rintro e w5 ⟨rfl, rfl⟩))
      go_meet
      exact ⟨rfl, hB4⟩
  have s3 : smlB s = true := by simpa using s3
  by_cases s4 : smlB y = false
  · have hz : RES = false := by rw [← HR2.out, s1, s2, s3, s4]; simp
    subst hz
    clear HR2
    go_enter Tryz.func6, Tryz.ntmps6
    go_upto_region 1 with fail
    generalize w.alloc _ = w1 at *
    go_cut [35] from 3 to 35 (fun v35 wx => v35 = .bool true ∧ Below w.heap.size w wx)
    case rest =>
      obtain ⟨rfl, hbc⟩ := hcut
      go_wp2
      go_ret
      exact ⟨rfl, hbc⟩
    go_wp2_with fail
    refine region_plan (calmB_sound _) (.fork [0, 1, 2, 3, 4, 5, 6, 7, 8, 10] (.leaf [11, 9, 12, 13, 14, 15, 16, 17, 18, 19, 20, 21, 22, 23, 24, 25, 26, 27, 28, 29, 30, 31, 32]) (.leaf [9, 11, 12, 13, 14, 15, 16, 17, 18, 19, 20, 21, 22, 23, 24, 25, 26, 27, 28, 29, 30, 31, 32])) (by kernel_rfl) (by kernel_rfl) (by kernel_rfl) ?_
    have hid := blk_below hi0 (Below.refl _ w1).drew
    have HD := Lib.hid hb0.drew
    generalize w1.drew = wd at *
    obtain ⟨y0, y1, y2, y3, y4, y5, y6⟩ := seven_cells hid
    refine wpPlan_fork fun PL0 hPL0 => ?_
    simp only [List.filterMap_cons, List.filterMap_nil, List.getElem?_toArray, List.getElem?_cons_succ, List.getElem?_cons_zero]
    change wpList _ _ _ [_, _, _, _, _, _, _, _, _, _] _ _
    go_wp2_with (first | (go_at_call 14; (with_reducible refine (HN.out _ HD.out).mono ?_); rintro e w3 ⟨rfl, hb3⟩; have hB3 := below_nextT HD.out hb3; obtain ⟨z0, z1, z2, z3, z4, z5, z6⟩ := seven_cells (blk_below hid hb3)) | (go_at_call 13; (with_reducible refine (HS.out _ hB3).mono ?_); rintro e w4 ⟨rfl, hb4⟩; have hB4 := below_nextT hB3 hb4; have hi4 := blk_below (blk_below hid hb3) hb4; obtain ⟨u0, u1, u2, u3, u4, u5, u6⟩ := seven_cells hi4) | (go_at_call 15; (with_reducible refine (number_any _ _).mono ?_); rintro e w5 ⟨rfl, rfl⟩))
    refine hPL0 _ _ ?_ ?_
    · refine wpPlan_leaf fun PL1 hPL1 => ?_
      simp only [List.filterMap_cons, List.filterMap_nil, List.getElem?_toArray, List.getElem?_cons_succ, List.getElem?_cons_zero]
      change wpList _ _ _ [_, _, _, _, _, _, _, _, _, _, _, _, _, _, _, _, _, _, _, _, _, _, _] _ _
      go_wp2_with (first | (go_at_call 14; (with_reducible refine (HN.out _ HD.out).mono ?_); rintro e w3 ⟨rfl, hb3⟩; have hB3 := below_nextT HD.out hb3; obtain ⟨z0, z1, z2, z3, z4, z5, z6⟩ := seven_cells (blk_below hid hb3)) | (go_at_call 13; (with_reducible refine (HS.out _ hB3).mono ?_); rintro e w4 ⟨rfl, hb4⟩; have hB4 := below_nextT hB3 hb4; have hi4 := blk_below (blk_below hid hb3) hb4; obtain ⟨u0, u1, u2, u3, u4, u5, u6⟩ := seven_cells hi4) | (go_at_call 15; (with_reducible refine (number_any _ _).mono ?_); rintro e w5 ⟨rfl, rfl⟩))
      go_meet
      exact ⟨rfl, hB4⟩
    · refine wpPlan_leaf fun PL1 hPL1 => ?_
      simp only [List.filterMap_cons, List.filterMap_nil, List.getElem?_toArray, List.getElem?_cons_succ, List.getElem?_cons_zero]
      change wpList _ _ _ [_, _, _, _, _, _, _, _, _, _, _, _, _, _, _, _, _, _, _, _, _, _, _] _ _
      go_wp2_with (first | (go_at_call 14; (with_reducible refine (HN.out _ HD.out).mono ?_); rintro e w3 ⟨rfl, hb3⟩; have hB3 := below_nextT HD.out hb3; obtain ⟨z0, z1, z2, z3, z4, z5, z6⟩ := seven_cells (blk_below hid hb3)) | (go_at_call 13; (with_reducible refine (HS.out _ hB3).mono ?_); rintro e w4 ⟨rfl, hb4⟩; have hB4 := below_nextT hB3 hb4; have hi4 := blk_below (blk_below hid hb3) hb4; obtain ⟨u0, u1, u2, u3, u4, u5, u6⟩ := seven_cells hi4) | (go_at_call 15; (with_reducible refine (number_any _ _).mono ?_); rintro e w5 ⟨rfl, rfl⟩))
      go_meet
      exact ⟨rfl, hB4⟩
  have s4 : smlB y = true := by simpa using s4
  have hr3 : tailO k nm an bn = RES := by rw [← HR2.out, s1, s2, s3, s4]; rfl
  have HR3 := Lib.hid hr3
  clear hr3 HR2
  go_enter Tryz.func6, Tryz.ntmps6
  go_upto_region 1 with fail
  generalize w.alloc _ = w1 at *
  go_cut [35] from 3 to 35 (fun v35 wx => v35 = .bool false ∧ Below w.heap.size w wx ∧ wx.heap[w.heap.size]? = some (.cells (opC k p s y nm A an ac B bn bc) 27 (0, 0)))
  case rest =>
    obtain ⟨rfl, hbc, hic⟩ := hcut
    clear HN HS s1 s2 s3 s4 x0 x1 x2 x3 x4 x5 x6 hb0 hi0
    clear w1
    obtain ⟨x0, x1, x2, x3, x4, x5, x6⟩ := seven_cells hic
    have HB := Lib.hid hbc
    clear hbc hic
    by_cases k1 : (k == 1) = true
    · have hz : decide ((bn : Int) ≤ 512) = RES := by
        rw [← HR3.out, tailO, if_pos (by simpa using k1)]
        exact decide_eq_decide.2 (by omega)
      subst hz
      clear HR3
      go_wp2
      go_ret
      exact ⟨rfl, HB.out⟩
    have k1 : (k == 1) = false := by simpa using k1
    by_cases k2 : (k == 2) = true
    · have hz : labB nm = RES := by
        rw [← HR3.out, tailO, if_neg (by simpa using k1), if_pos (by simpa using k2)]
      have HZ := Lib.hid hz
      clear HR3 hz
      go_wp2_with (go_at_call 16; (with_reducible refine (label_any nm _ HL.out).mono ?_); rintro e w6 ⟨rfl, hb6⟩)
      go_ret
      exact ⟨congrArg (fun b => Ending.returned (Value.bool b)) HZ.out, below_nextT HB.out hb6⟩
    have k2 : (k == 2) = false := by simpa using k2
    by_cases k4 : (k == 4) = true
    · have hz : (decide (1 ≤ an) && decide (an ≤ 3)) = RES := by
        rw [← HR3.out, tailO, if_neg (by simpa using k1), if_neg (by simpa using k2), if_pos (by simpa using k4)]
      have HZ := Lib.hid hz
      clear HR3 hz
      by_cases a1 : decide ((1 : Int) ≤ (an : Int)) = false
      · go_wp2
        go_ret
        exact ⟨congrArg (fun b => Ending.returned (Value.bool b)) (by rw [← HZ.out, decide_eq_false (p := 1 ≤ an) (by simp at a1; omega)]; rfl), HB.out⟩
      have a1 : decide ((1 : Int) ≤ (an : Int)) = true := by simpa using a1
      by_cases a2 : decide ((an : Int) ≤ 3) = false
      · go_wp2
        go_ret
        exact ⟨congrArg (fun b => Ending.returned (Value.bool b)) (by rw [← HZ.out, decide_eq_false (p := an ≤ 3) (by simp at a2; omega), Bool.and_false]), HB.out⟩
      have a2 : decide ((an : Int) ≤ 3) = true := by simpa using a2
      go_wp2
      go_ret
      exact ⟨congrArg (fun b => Ending.returned (Value.bool b)) (by rw [← HZ.out, decide_eq_true (p := an ≤ 3) (by simp at a2; omega), decide_eq_true (p := 1 ≤ an) (by simp at a1; omega)]; rfl), HB.out⟩
    have k4 : (k == 4) = false := by simpa using k4
    have hz : true = RES := by rw [← HR3.out, tailO, if_neg (by simpa using k1), if_neg (by simpa using k2), if_neg (by simpa using k4)]
    have HZ := Lib.hid hz
    clear HR3 hz
    go_wp2
    go_ret
    exact ⟨congrArg (fun b => Ending.returned (Value.bool b)) HZ.out, HB.out⟩
  go_wp2_with fail
  refine region_plan (calmB_sound _) (.fork [0, 1, 2, 3, 4, 5, 6, 7, 8, 10] (.leaf [11, 9, 12, 13, 14, 15, 16, 17, 18, 19, 20, 21, 22, 23, 24, 25, 26, 27, 28, 29, 30, 31, 32]) (.leaf [9, 11, 12, 13, 14, 15, 16, 17, 18, 19, 20, 21, 22, 23, 24, 25, 26, 27, 28, 29, 30, 31, 32])) (by kernel_rfl) (by kernel_rfl) (by kernel_rfl) ?_
  have hid := blk_below hi0 (Below.refl _ w1).drew
  have HD := Lib.hid hb0.drew
  generalize w1.drew = wd at *
  obtain ⟨y0, y1, y2, y3, y4, y5, y6⟩ := seven_cells hid
  refine wpPlan_fork fun PL0 hPL0 => ?_
  simp only [List.filterMap_cons, List.filterMap_nil, List.getElem?_toArray, List.getElem?_cons_succ, List.getElem?_cons_zero]
  change wpList _ _ _ [_, _, _, _, _, _, _, _, _, _] _ _
  go_wp2_with (first | (go_at_call 14; (with_reducible refine (HN.out _ HD.out).mono ?_); rintro e w3 ⟨rfl, hb3⟩; have hB3 := below_nextT HD.out hb3; obtain ⟨z0, z1, z2, z3, z4, z5, z6⟩ := seven_cells (blk_below hid hb3)) | (go_at_call 13; (with_reducible refine (HS.out _ hB3).mono ?_); rintro e w4 ⟨rfl, hb4⟩; have hB4 := below_nextT hB3 hb4; have hi4 := blk_below (blk_below hid hb3) hb4; obtain ⟨u0, u1, u2, u3, u4, u5, u6⟩ := seven_cells hi4) | (go_at_call 15; (with_reducible refine (number_any _ _).mono ?_); rintro e w5 ⟨rfl, rfl⟩))
  refine hPL0 _ _ ?_ ?_
  · refine wpPlan_leaf fun PL1 hPL1 => ?_
    simp only [List.filterMap_cons, List.filterMap_nil, List.getElem?_toArray, List.getElem?_cons_succ, List.getElem?_cons_zero]
    change wpList _ _ _ [_, _, _, _, _, _, _, _, _, _, _, _, _, _, _, _, _, _, _, _, _, _, _] _ _
    go_wp2_with (first | (go_at_call 14; (with_reducible refine (HN.out _ HD.out).mono ?_); rintro e w3 ⟨rfl, hb3⟩; have hB3 := below_nextT HD.out hb3; obtain ⟨z0, z1, z2, z3, z4, z5, z6⟩ := seven_cells (blk_below hid hb3)) | (go_at_call 13; (with_reducible refine (HS.out _ hB3).mono ?_); rintro e w4 ⟨rfl, hb4⟩; have hB4 := below_nextT hB3 hb4; have hi4 := blk_below (blk_below hid hb3) hb4; obtain ⟨u0, u1, u2, u3, u4, u5, u6⟩ := seven_cells hi4) | (go_at_call 15; (with_reducible refine (number_any _ _).mono ?_); rintro e w5 ⟨rfl, rfl⟩))
    go_meet
    exact ⟨rfl, hB4, hi4⟩
  · refine wpPlan_leaf fun PL1 hPL1 => ?_
    simp only [List.filterMap_cons, List.filterMap_nil, List.getElem?_toArray, List.getElem?_cons_succ, List.getElem?_cons_zero]
    change wpList _ _ _ [_, _, _, _, _, _, _, _, _, _, _, _, _, _, _, _, _, _, _, _, _, _, _] _ _
    go_wp2_with (first | (go_at_call 14; (with_reducible refine (HN.out _ HD.out).mono ?_); rintro e w3 ⟨rfl, hb3⟩; have hB3 := below_nextT HD.out hb3; obtain ⟨z0, z1, z2, z3, z4, z5, z6⟩ := seven_cells (blk_below hid hb3)) | (go_at_call 13; (with_reducible refine (HS.out _ hB3).mono ?_); rintro e w4 ⟨rfl, hb4⟩; have hB4 := below_nextT hB3 hb4; have hi4 := blk_below (blk_below hid hb3) hb4; obtain ⟨u0, u1, u2, u3, u4, u5, u6⟩ := seven_cells hi4) | (go_at_call 15; (with_reducible refine (number_any _ _).mono ?_); rintro e w5 ⟨rfl, rfl⟩))
    go_meet
    exact ⟨rfl, hB4, hi4⟩
end Go.Proofs.YtaghecgjmkhpcaaGreatDoor
