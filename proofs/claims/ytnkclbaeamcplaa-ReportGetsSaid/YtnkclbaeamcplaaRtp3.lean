/-
What Size of package rtp tells.
-/
import Derived.Test.YtnkclbaeamcplaaRtp2
namespace Go.Proofs.Ytnkclbaeamcplaa
set_option linter.unusedVariables false
set_option linter.unusedSimpArgs false
open Go Go.RowKit

section
variable (p : Pkt) (C : Option Addr) (cn cc : Nat) (E : Option Addr) (en ec : Nat) (L : Option Addr) (ln lc : Nat) (w : World)
set_option maxRecDepth 20000 in
set_option maxHeartbeats 4000000 in
theorem psize_any (hc : p.cs.length = cn) (he : p.ex.length = en) (hl : p.pl.length = ln) (b2 : en ≤ 140737488351232) (b3 : ln ≤ 140737488351232) :
    Calls Try.prog 28 #[.agg #[.bool p.mr, .int .i64 p.ty, .int .u16 p.sq, .int .u32 p.tm, .int .u32 p.ss, .slice C cn cc, .bool p.hx, .int .u16 p.pf, .slice E en ec, .slice L ln lc, .int .i64 p.pad]] w fun e w' =>
      e = .returned (.int .i64 (sizeP p : Nat)) ∧ Below w.heap.size w w' := by
  have HC := Lib.hid (And.intro hc he)
  cases hm : mayP p
  · have hs : Hid (sizeP p = 0) := by show _ = _; unfold sizeP; rw [hm]; rfl
    go_enter Try.func28, Try.ntmps28
    go_wp2_with (go_at_call 26; (with_reducible refine (pmay_any p C cn cc E en ec L ln lc _ HC.out.1 HC.out.2).mono ?_); rintro e w1 ⟨rfl, hb1⟩; rw [hm])
    go_ret
    exact ⟨by rw [hs.out]; rfl, ((Below.refl w.heap.size w).alloc (Nat.le_refl _) _).trans (hb1.mono (by simp))⟩
  · have hmm := hm
    simp only [mayP, Bool.and_eq_true, decide_eq_true_eq] at hmm
    obtain ⟨_, _, ⟨c15, pad0, pad1⟩, _⟩ := hmm
    have hs : Hid (sizeP p = headP p + ln + p.pad.toNat) := by show _ = _; unfold sizeP; rw [hm, hl]; rfl
    have hhp : headP p ≤ 281474976710656 := by unfold headP; split <;> omega
    have hcn : cn ≤ 15 := by omega
    go_enter Try.func28, Try.ntmps28
    go_wp2_with (go_at_call 26; (with_reducible refine (pmay_any p C cn cc E en ec L ln lc _ HC.out.1 HC.out.2).mono ?_); rintro e w1 ⟨rfl, hb1⟩; rw [hm]; have hb2 := ((Below.refl w.heap.size w).alloc (Nat.le_refl _) _).trans (hb1.mono (by simp)); have hit := blk_below (blk_alloc _ _) hb1; obtain ⟨x0, x1, x2, x3, x4, x5, x6, x7, x8, x9, x10⟩ := eleven_cells hit)
    refine region_plan (calmB_sound _) (.fork [0, 2, 6] (.fork [3, 4] (.leaf [7, 1, 5, 8, 9]) (.check [1] 5 (.leaf [5, 7, 8, 9]))) (.fork [] (.fork [7] (.leaf [3, 4, 1, 5, 8, 9]) (.leaf [1, 3, 4, 5, 8, 9])) (.check [1, 3, 4] 5 (.leaf [5, 7, 8, 9])))) (by kernel_rfl) (by kernel_rfl) (by kernel_rfl) ?_
    have hb3 : Below w.heap.size w w1.drew := hb2.drew
    have hit3 : w1.drew.heap[w.heap.size]? = _ := hit
    clear x0 x1 x2 x3 x4 x5 x6 x7 x8 x9 x10
    generalize w1.drew = w3 at *
    obtain ⟨x0, x1, x2, x3, x4, x5, x6, x7, x8, x9, x10⟩ := eleven_cells hit3
    clear hl hc he hit hb1 hb2
    refine wpPlan_fork fun P1 hP1 => ?_
    simp only [List.filterMap_cons, List.filterMap_nil, List.getElem?_toArray, List.getElem?_cons_succ, List.getElem?_cons_zero]
    change wpList _ _ _ [_, _, _] _ _
    go_wp2
    refine hP1 _ _ ?_ ?_
    · refine wpPlan_fork fun P2 hP2 => ?_
      simp only [List.filterMap_cons, List.filterMap_nil, List.getElem?_toArray, List.getElem?_cons_succ, List.getElem?_cons_zero]
      change wpList _ _ _ [_, _] _ _
      go_wp2
      refine hP2 _ _ ?_ ?_
      · refine wpPlan_leaf fun P3 hP3 => ?_
        simp only [List.filterMap_cons, List.filterMap_nil, List.getElem?_toArray, List.getElem?_cons_succ, List.getElem?_cons_zero]
        change wpList _ _ _ [_, _, _, _, _] _ _
        go_wp2_with (go_at_call 48; (with_reducible refine (head_any p C cn cc E en ec L ln lc _ HC.out.1 HC.out.2 (by omega) (by omega)).mono ?_); rintro e w4 ⟨rfl, hb4⟩; have hb5 := hb3.trans (hb4.mono hb3.size); obtain ⟨y0, y1, y2, y3, y4, y5, y6, y7, y8, y9, y10⟩ := eleven_cells (blk_below hit3 hb4))
        go_ret
        refine ⟨congrArg Ending.returned (congrArg (Value.int .i64) ?_), hb5⟩
        rw [hs.out]
        omega
      · refine wpPlan_check fun P4 hP4 => ?_
        simp only [List.filterMap_cons, List.filterMap_nil, List.getElem?_toArray, List.getElem?_cons_succ, List.getElem?_cons_zero]
        change wpList _ _ _ [_] _ _
        go_wp2_with (go_at_call 48; (with_reducible refine (head_any p C cn cc E en ec L ln lc _ HC.out.1 HC.out.2 (by omega) (by omega)).mono ?_); rintro e w4 ⟨rfl, hb4⟩; have hb5 := hb3.trans (hb4.mono hb3.size); obtain ⟨y0, y1, y2, y3, y4, y5, y6, y7, y8, y9, y10⟩ := eleven_cells (blk_below hit3 hb4))
        refine hP4 _ _ (fun _ => .inl ⟨_, _, _, _, rfl, rfl⟩) ?_
        refine wpPlan_leaf fun P5 hP5 => ?_
        simp only [List.filterMap_cons, List.filterMap_nil, List.getElem?_toArray, List.getElem?_cons_succ, List.getElem?_cons_zero]
        change wpList _ _ _ [_, _, _, _] _ _
        go_wp2
        go_ret
        refine ⟨congrArg Ending.returned (congrArg (Value.int .i64) ?_), hb5⟩
        rw [hs.out]
        omega
    · refine wpPlan_fork fun P6 hP6 => ?_
      simp only [List.filterMap_nil]
      go_wp2
      refine hP6 _ _ ?_ ?_
      · refine wpPlan_fork fun P7 hP7 => ?_
        simp only [List.filterMap_cons, List.filterMap_nil, List.getElem?_toArray, List.getElem?_cons_succ, List.getElem?_cons_zero]
        change wpList _ _ _ [_] _ _
        go_wp2
        refine hP7 _ _ ?_ ?_
        · refine wpPlan_leaf fun P8 hP8 => ?_
          simp only [List.filterMap_cons, List.filterMap_nil, List.getElem?_toArray, List.getElem?_cons_succ, List.getElem?_cons_zero]
          change wpList _ _ _ [_, _, _, _, _, _] _ _
          go_wp2_with (go_at_call 48; (with_reducible refine (head_any p C cn cc E en ec L ln lc _ HC.out.1 HC.out.2 (by omega) (by omega)).mono ?_); rintro e w4 ⟨rfl, hb4⟩; have hb5 := hb3.trans (hb4.mono hb3.size); obtain ⟨y0, y1, y2, y3, y4, y5, y6, y7, y8, y9, y10⟩ := eleven_cells (blk_below hit3 hb4))
          go_ret
          refine ⟨congrArg Ending.returned (congrArg (Value.int .i64) ?_), hb5⟩
          rw [hs.out]
          omega
        · refine wpPlan_leaf fun P9 hP9 => ?_
          simp only [List.filterMap_cons, List.filterMap_nil, List.getElem?_toArray, List.getElem?_cons_succ, List.getElem?_cons_zero]
          change wpList _ _ _ [_, _, _, _, _, _] _ _
          go_wp2_with (go_at_call 48; (with_reducible refine (head_any p C cn cc E en ec L ln lc _ HC.out.1 HC.out.2 (by omega) (by omega)).mono ?_); rintro e w4 ⟨rfl, hb4⟩; have hb5 := hb3.trans (hb4.mono hb3.size); obtain ⟨y0, y1, y2, y3, y4, y5, y6, y7, y8, y9, y10⟩ := eleven_cells (blk_below hit3 hb4))
          go_ret
          refine ⟨congrArg Ending.returned (congrArg (Value.int .i64) ?_), hb5⟩
          rw [hs.out]
          omega
      · refine wpPlan_check fun P10 hP10 => ?_
        simp only [List.filterMap_cons, List.filterMap_nil, List.getElem?_toArray, List.getElem?_cons_succ, List.getElem?_cons_zero]
        change wpList _ _ _ [_, _, _] _ _
        go_wp2_with (go_at_call 48; (with_reducible refine (head_any p C cn cc E en ec L ln lc _ HC.out.1 HC.out.2 (by omega) (by omega)).mono ?_); rintro e w4 ⟨rfl, hb4⟩; have hb5 := hb3.trans (hb4.mono hb3.size); obtain ⟨y0, y1, y2, y3, y4, y5, y6, y7, y8, y9, y10⟩ := eleven_cells (blk_below hit3 hb4))
        refine hP10 _ _ (fun _ => .inl ⟨_, _, _, _, rfl, rfl⟩) ?_
        refine wpPlan_leaf fun P11 hP11 => ?_
        simp only [List.filterMap_cons, List.filterMap_nil, List.getElem?_toArray, List.getElem?_cons_succ, List.getElem?_cons_zero]
        change wpList _ _ _ [_, _, _, _] _ _
        go_wp2
        go_ret
        refine ⟨congrArg Ending.returned (congrArg (Value.int .i64) ?_), hb5⟩
        rw [hs.out]
        omega
end
end Go.Proofs.Ytnkclbaeamcplaa
