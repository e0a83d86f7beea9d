/-
What the functions of package rtp do that tell whether a packet may be, and how long it is.
What May and Size of package rtp tell.
What Size of package rtp tells.
-/
import Derived.Test.YtknlkmencdlpcaaRepN
import Derived.Test.YtknlkmencdlpcaaField2
import Derived.Test.YtknlkmencdlpcaaApp
import Derived.Test.YtknlkmencdlpcaaReg
namespace Go.Proofs.Ytknlkmencdlpcaa
set_option linter.unusedVariables false
set_option linter.unusedSimpArgs false
open Go Go.RowKit

set_option maxHeartbeats 400000 in
theorem fb_any (b : Nat) (w : World) : Calls Try.prog 149 #[.int .u8 b] w fun e w' => e = .returned (.bool (fbB b)) ∧ w = w' := by
  go_enter Try.func149, Try.ntmps149
  go_wp2
  all_goals
    go_ret
    refine ⟨congrArg Ending.returned (congrArg Value.bool ?_), rfl⟩
    rw [Bool.eq_iff_iff]
    simp [fbB]
    try omega
theorem or128 : ∀ k : Nat, k < 256 → bits .or .u8 128 (k : Int) = ((128 + k % 128 : Nat) : Int) := by
  have h : (List.range 256).all (fun k => decide (bits .or .u8 128 (k : Int) = ((128 + k % 128 : Nat) : Int))) = true := by decide +kernel
  intro k hk
  exact of_decide_eq_true (List.all_eq_true.1 h k (List.mem_range.2 hk))
theorem eleven_cells {w : World} {g : Nat} {t : TypeId} {fr : Nat × Nat} {a0 a1 a2 a3 a4 a5 a6 a7 a8 a9 a10 : Value} (h : w.heap[g]? = some (.cells #[a0, a1, a2, a3, a4, a5, a6, a7, a8, a9, a10] t fr)) :
    w.cell? ⟨g, 0, none⟩ = some a0 ∧ w.cell? ⟨g, 1, none⟩ = some a1 ∧ w.cell? ⟨g, 2, none⟩ = some a2 ∧ w.cell? ⟨g, 3, none⟩ = some a3 ∧ w.cell? ⟨g, 4, none⟩ = some a4 ∧
    w.cell? ⟨g, 5, none⟩ = some a5 ∧ w.cell? ⟨g, 6, none⟩ = some a6 ∧ w.cell? ⟨g, 7, none⟩ = some a7 ∧ w.cell? ⟨g, 8, none⟩ = some a8 ∧ w.cell? ⟨g, 9, none⟩ = some a9 ∧ w.cell? ⟨g, 10, none⟩ = some a10 := by
  refine ⟨?_, ?_, ?_, ?_, ?_, ?_, ?_, ?_, ?_, ?_, ?_⟩ <;> (rw [cell_of_row _ _ _ _ _ _ h]; rfl)
section
variable (p : Pkt) (C : Option Addr) (cn cc : Nat) (E : Option Addr) (en ec : Nat) (L : Option Addr) (ln lc : Nat) (w : World)
set_option maxHeartbeats 1000000 in
theorem second_any : Calls Try.prog 118 #[.agg #[.bool p.mr, .int .i64 p.ty, .int .u16 p.sq, .int .u32 p.tm, .int .u32 p.ss, .slice C cn cc, .bool p.hx, .int .u16 p.pf, .slice E en ec, .slice L ln lc, .int .i64 p.pad]] w fun e w' =>
      e = .returned (.int .u8 (secN p : Nat)) ∧ Below w.heap.size w w' := by
  obtain ⟨t, ht⟩ : ∃ t, t = (p.ty % 256).toNat := ⟨_, rfl⟩
  have e1 : IntKind.u8.wrap p.ty = (t : Int) := by rw [IntKind.wrap_u8, ht]; omega
  have e2 := or128 t (by omega)
  have HS : Hid (secN p = if p.mr then 128 + t % 128 else t) := by
    show _ = _
    unfold secN
    rw [ht, show (p.ty % 128).toNat = (p.ty % 256).toNat % 128 by omega]
  clear ht
  cases hm : p.mr
  · have hs : Hid (secN p = t) := by show _ = _; rw [HS.out, hm]; rfl
    clear HS e2
    go_enter Try.func118, Try.ntmps118
    go_wp2
    go_ret
    exact ⟨by rw [hs.out]; rfl, (Below.refl _ _).alloc (Nat.le_refl _) _⟩
  · have hs : secN p = 128 + t % 128 := by rw [HS.out, hm]; rfl
    rw [← hs] at e2
    clear HS hs
    go_enter Try.func118, Try.ntmps118
    go_wp2
    go_ret
    exact ⟨rfl, (Below.refl _ _).alloc (Nat.le_refl _) _⟩
set_option maxHeartbeats 1000000 in
theorem head_any (hc : p.cs.length = cn) (he : p.ex.length = en) (h1 : cn ≤ 281474976710656) (h2 : en ≤ 281474976710656) :
    Calls Try.prog 119 #[.agg #[.bool p.mr, .int .i64 p.ty, .int .u16 p.sq, .int .u32 p.tm, .int .u32 p.ss, .slice C cn cc, .bool p.hx, .int .u16 p.pf, .slice E en ec, .slice L ln lc, .int .i64 p.pad]] w fun e w' =>
      e = .returned (.int .i64 (headP p : Nat)) ∧ Below w.heap.size w w' := by
  have HH : Hid (headP p = 12 + 4 * cn + (if p.hx then 4 + en else 0)) := by show _ = _; unfold headP; rw [hc, he]
  clear hc he
  cases hx : p.hx
  all_goals
    go_enter Try.func119, Try.ntmps119
    go_wp2
    go_ret
    refine ⟨congrArg Ending.returned (congrArg (Value.int .i64) ?_), (Below.refl _ _).alloc (Nat.le_refl _) _⟩
    rw [HH.out, hx]
    simp
    try omega
theorem firstbits : ∀ (k : Nat), k ≤ 15 → ∀ (a b : Bool), (if b then bits .or .u8 (if a then bits .or .u8 (bits .or .i64 128 (k : Int)) 32 else bits .or .i64 128 (k : Int)) 16 else (if a then bits .or .u8 (bits .or .i64 128 (k : Int)) 32 else bits .or .i64 128 (k : Int))) = ((128 + k + (if a then 32 else 0) + (if b then 16 else 0) : Nat) : Int) := by
  have h : (List.range 16).all (fun k => [true, false].all fun a => [true, false].all fun b => decide ((if b then bits .or .u8 (if a then bits .or .u8 (bits .or .i64 128 (k : Int)) 32 else bits .or .i64 128 (k : Int)) 16 else (if a then bits .or .u8 (bits .or .i64 128 (k : Int)) 32 else bits .or .i64 128 (k : Int))) = ((128 + k + (if a then 32 else 0) + (if b then 16 else 0) : Nat) : Int))) = true := by decide +kernel
  intro k hk a b
  have h1 := List.all_eq_true.1 h k (List.mem_range.2 (by omega))
  have h2 := List.all_eq_true.1 h1 a (by cases a <;> simp)
  have h3 := List.all_eq_true.1 h2 b (by cases b <;> simp)
  exact of_decide_eq_true h3
set_option maxRecDepth 20000 in
set_option maxHeartbeats 1000000 in
theorem first_any (hc : p.cs.length = cn) (h15 : cn ≤ 15) :
    Calls Try.prog 117 #[.agg #[.bool p.mr, .int .i64 p.ty, .int .u16 p.sq, .int .u32 p.tm, .int .u32 p.ss, .slice C cn cc, .bool p.hx, .int .u16 p.pf, .slice E en ec, .slice L ln lc, .int .i64 p.pad]] w fun e w' =>
      e = .returned (.int .u8 (firstN p : Nat)) ∧ Below w.heap.size w w' := by
  have HF : Hid (firstN p = 128 + cn + (if 0 < p.pad then 32 else 0) + (if p.hx then 16 else 0)) := by show _ = _; unfold firstN; rw [hc]
  have hb := firstbits cn h15
  have h00 : bits .or .i64 128 (cn : Int) = ((128 + cn : Nat) : Int) := hb false false
  have h10 := hb true false
  have h01 := hb false true
  have h11 := hb true true
  simp only [if_true, if_false, Bool.false_eq_true] at h10 h01 h11
  rw [h00] at h10 h01 h11
  have e0 : ((128 + cn : Nat) : Int) = 128 + (cn : Int) := by omega
  rw [e0] at h00 h10 h01 h11
  have HV := Lib.hid (And.intro h10 (And.intro h01 h11))
  clear hb hc e0 h10 h01 h11
  rcases (show decide ((0 : Int) < p.pad) = true ∨ decide ((0 : Int) < p.pad) = false by cases decide ((0 : Int) < p.pad) <;> simp) with hp | hp <;> rcases hx : p.hx with _ | _
  all_goals
    have HP := Lib.hid hp
    go_enter Try.func117, Try.ntmps117
    go_wp2
    go_ret
    refine ⟨congrArg Ending.returned (congrArg (Value.int .u8) ?_), (Below.refl _ _).alloc (Nat.le_refl _) _⟩
    have hq := HP.out
    simp only [decide_eq_true_eq, decide_eq_false_iff_not] at hq
    rw [HF.out, hx]
    first
      | (rw [if_pos hq]; exact HV.out.2.2)
      | (rw [if_pos hq]; exact HV.out.1)
      | (rw [if_neg hq]; exact HV.out.2.1)
      | (rw [if_neg hq]; simp)
end
end Go.Proofs.Ytknlkmencdlpcaa

namespace Go.Proofs.Ytknlkmencdlpcaa
set_option linter.unusedVariables false
set_option linter.unusedSimpArgs false
open Go Go.RowKit

section
variable (p : Pkt) (C : Option Addr) (cn cc : Nat) (E : Option Addr) (en ec : Nat) (L : Option Addr) (ln lc : Nat) (w : World)
set_option maxRecDepth 20000 in
set_option maxHeartbeats 4000000 in
theorem pmay_any (hc : p.cs.length = cn) (he : p.ex.length = en) :
    Calls Try.prog 152 #[.agg #[.bool p.mr, .int .i64 p.ty, .int .u16 p.sq, .int .u32 p.tm, .int .u32 p.ss, .slice C cn cc, .bool p.hx, .int .u16 p.pf, .slice E en ec, .slice L ln lc, .int .i64 p.pad]] w fun e w' =>
      e = .returned (.bool (mayP p)) ∧ Below w.heap.size w w' := by
  have HM : Hid (mayP p = (decide (0 ≤ p.ty ∧ p.ty ≤ 127) && (!fbB (secN p) && (decide (cn ≤ 15 ∧ 0 ≤ p.pad ∧ p.pad ≤ 255) && decide (en % 4 = 0 ∧ (p.hx = true ∨ (en = 0 ∧ p.pf = 0))))))) := by
    show _ = _
    unfold mayP; subst hc he; simp only [List.length_eq_zero_iff]
  clear hc he
  obtain ⟨mr, ty, sq, tm, ss, cs, hx, pf, ex, pl, pad⟩ := p
  simp only at HM ⊢
  rcases hfb : fbB (secN ⟨mr, ty, sq, tm, ss, cs, hx, pf, ex, pl, pad⟩) with _ | _ <;> cases hx
  all_goals
    have HM' : mayP ⟨mr, ty, sq, tm, ss, cs, _, pf, ex, pl, pad⟩ = _ := HM.out
    rw [hfb] at HM'
    have HMM := Lib.hid HM'
    clear HM HM'
    go_enter Try.func152, Try.ntmps152
    go_wp2_with (first
      | (go_at_call 118; (with_reducible refine (second_any ⟨mr, ty, sq, tm, ss, cs, _, pf, ex, pl, pad⟩ C cn cc E en ec L ln lc _).mono ?_); rintro e w1 ⟨rfl, hb1⟩; obtain ⟨x0, x1, x2, x3, x4, x5, x6, x7, x8, x9, x10⟩ := eleven_cells (blk_below (blk_alloc _ _) hb1); have hb2 := ((Below.refl w.heap.size w).alloc (Nat.le_refl _) _).trans (hb1.mono (by simp)))
      | (go_at_call 149; (with_reducible refine (fb_any _ _).mono ?_); rintro e w2 ⟨rfl, rfl⟩; rw [hfb]))
    all_goals
      go_ret
      refine ⟨congrArg Ending.returned (congrArg Value.bool ?_), (by first | exact hb2 | exact (Below.refl _ _).alloc (Nat.le_refl _) _)⟩
      rw [HMM.out]
      rw [Bool.eq_iff_iff]
      go_tidy
      simp_all
      try omega
end
end Go.Proofs.Ytknlkmencdlpcaa

namespace Go.Proofs.Ytknlkmencdlpcaa
set_option linter.unusedVariables false
set_option linter.unusedSimpArgs false
open Go Go.RowKit

section
variable (p : Pkt) (C : Option Addr) (cn cc : Nat) (E : Option Addr) (en ec : Nat) (L : Option Addr) (ln lc : Nat) (w : World)
set_option maxRecDepth 20000 in
set_option maxHeartbeats 4000000 in
theorem psize_any (hc : p.cs.length = cn) (he : p.ex.length = en) (hl : p.pl.length = ln) (b2 : en ≤ 140737488351232) (b3 : ln ≤ 140737488351232) :
    Calls Try.prog 116 #[.agg #[.bool p.mr, .int .i64 p.ty, .int .u16 p.sq, .int .u32 p.tm, .int .u32 p.ss, .slice C cn cc, .bool p.hx, .int .u16 p.pf, .slice E en ec, .slice L ln lc, .int .i64 p.pad]] w fun e w' =>
      e = .returned (.int .i64 (sizeP p : Nat)) ∧ Below w.heap.size w w' := by
  have HC := Lib.hid (And.intro hc he)
  cases hm : mayP p
  · have hs : Hid (sizeP p = 0) := by show _ = _; unfold sizeP; rw [hm]; rfl
    go_enter Try.func116, Try.ntmps116
    go_wp2_with (go_at_call 152; (with_reducible refine (pmay_any p C cn cc E en ec L ln lc _ HC.out.1 HC.out.2).mono ?_); rintro e w1 ⟨rfl, hb1⟩; rw [hm])
    go_ret
    exact ⟨by rw [hs.out]; rfl, ((Below.refl w.heap.size w).alloc (Nat.le_refl _) _).trans (hb1.mono (by simp))⟩
  · have hmm := hm
    simp only [mayP, Bool.and_eq_true, decide_eq_true_eq] at hmm
    obtain ⟨_, _, ⟨c15, pad0, pad1⟩, _⟩ := hmm
    have hs : Hid (sizeP p = headP p + ln + p.pad.toNat) := by show _ = _; unfold sizeP; rw [hm, hl]; rfl
    have hhp : headP p ≤ 281474976710656 := by unfold headP; split <;> omega
    have hcn : cn ≤ 15 := by omega
    go_enter Try.func116, Try.ntmps116
    go_wp2_with (go_at_call 152; (with_reducible refine (pmay_any p C cn cc E en ec L ln lc _ HC.out.1 HC.out.2).mono ?_); rintro e w1 ⟨rfl, hb1⟩; rw [hm]; have hb2 := ((Below.refl w.heap.size w).alloc (Nat.le_refl _) _).trans (hb1.mono (by simp)); have hit := blk_below (blk_alloc _ _) hb1; obtain ⟨x0, x1, x2, x3, x4, x5, x6, x7, x8, x9, x10⟩ := eleven_cells hit)
    refine region_plan (calmB_sound _) (.fork [0, 2, 6] (.fork [3, 4] (.leaf [7, 1, 5, 8, 9]) (.check [1] 5 (.leaf [5, 7, 8, 9]))) (.fork [] (.fork [7] (.leaf [3, 4, 1, 5, 8, 9]) (.leaf [1, 3, 4, 5, 8, 9])) (.check [1, 3, 4] 5 (.leaf [5, 7, 8, 9])))) (by kernel_rfl) (by kernel_rfl) (by kernel_rfl) ?_
    have hb3 : Below w.heap.size w w1.drew := hb2.drew
    have hit3 : w1.drew.heap[w.heap.size]? = _ := hit
    clear x0 x1 x2 x3 x4 x5 x6 x7 x8 x9 x10
    generalize w1.drew = w3 at *
    obtain ⟨x0, x1, x2, x3, x4, x5, x6, x7, x8, x9, x10⟩ := eleven_cells hit3
    clear hl hc he hit hb1 hb2
    refine wpPlan_fork fun P1 hP1 => ?_
    simp only [List.filterMap_cons, List.filterMap_nil, List.getElem?_toArray, List.getElem?_cons_succ, List.getElem?_cons_zero]
    change wpList _ _ _ [_, _, _] _ _
    go_wp2
    refine hP1 _ _ ?_ ?_
    · refine wpPlan_fork fun P2 hP2 => ?_
      simp only [List.filterMap_cons, List.filterMap_nil, List.getElem?_toArray, List.getElem?_cons_succ, List.getElem?_cons_zero]
      change wpList _ _ _ [_, _] _ _
      go_wp2
      refine hP2 _ _ ?_ ?_
      · refine wpPlan_leaf fun P3 hP3 => ?_
        simp only [List.filterMap_cons, List.filterMap_nil, List.getElem?_toArray, List.getElem?_cons_succ, List.getElem?_cons_zero]
        change wpList _ _ _ [_, _, _, _, _] _ _
        go_wp2_with (go_at_call 119; (with_reducible refine (head_any p C cn cc E en ec L ln lc _ HC.out.1 HC.out.2 (by omega) (by omega)).mono ?_); rintro e w4 ⟨rfl, hb4⟩; have hb5 := hb3.trans (hb4.mono hb3.size); obtain ⟨y0, y1, y2, y3, y4, y5, y6, y7, y8, y9, y10⟩ := eleven_cells (blk_below hit3 hb4))
        go_ret
        refine ⟨congrArg Ending.returned (congrArg (Value.int .i64) ?_), hb5⟩
        rw [hs.out]
        omega
      · refine wpPlan_check fun P4 hP4 => ?_
        simp only [List.filterMap_cons, List.filterMap_nil, List.getElem?_toArray, List.getElem?_cons_succ, List.getElem?_cons_zero]
        change wpList _ _ _ [_] _ _
        go_wp2_with (go_at_call 119; (with_reducible refine (head_any p C cn cc E en ec L ln lc _ HC.out.1 HC.out.2 (by omega) (by omega)).mono ?_); rintro e w4 ⟨rfl, hb4⟩; have hb5 := hb3.trans (hb4.mono hb3.size); obtain ⟨y0, y1, y2, y3, y4, y5, y6, y7, y8, y9, y10⟩ := eleven_cells (blk_below hit3 hb4))
        refine hP4 _ _ (fun _ => .inl ⟨_, _, _, _, rfl, rfl⟩) ?_
        refine wpPlan_leaf fun P5 hP5 => ?_
        simp only [List.filterMap_cons, List.filterMap_nil, List.getElem?_toArray, List.getElem?_cons_succ, List.getElem?_cons_zero]
        change wpList _ _ _ [_, _, _, _] _ _
        go_wp2
        go_ret
        refine ⟨congrArg Ending.returned (congrArg (Value.int .i64) ?_), hb5⟩
        rw [hs.out]
        omega
    · refine wpPlan_fork fun P6 hP6 => ?_
      simp only [List.filterMap_nil]
      go_wp2
      refine hP6 _ _ ?_ ?_
      · refine wpPlan_fork fun P7 hP7 => ?_
        simp only [List.filterMap_cons, List.filterMap_nil, List.getElem?_toArray, List.getElem?_cons_succ, List.getElem?_cons_zero]
        change wpList _ _ _ [_] _ _
        go_wp2
        refine hP7 _ _ ?_ ?_
        · refine wpPlan_leaf fun P8 hP8 => ?_
          simp only [List.filterMap_cons, List.filterMap_nil, List.getElem?_toArray, List.getElem?_cons_succ, List.getElem?_cons_zero]
          change wpList _ _ _ [_, _, _, _, _, _] _ _
          go_wp2_with (go_at_call 119; (with_reducible refine (head_any p C cn cc E en ec L ln lc _ HC.out.1 HC.out.2 (by omega) (by omega)).mono ?_); rintro e w4 ⟨rfl, hb4⟩; have hb5 := hb3.trans (hb4.mono hb3.size); obtain ⟨y0, y1, y2, y3, y4, y5, y6, y7, y8, y9, y10⟩ := eleven_cells (blk_below hit3 hb4))
          go_ret
          refine ⟨congrArg Ending.returned (congrArg (Value.int .i64) ?_), hb5⟩
          rw [hs.out]
          omega
        · refine wpPlan_leaf fun P9 hP9 => ?_
          simp only [List.filterMap_cons, List.filterMap_nil, List.getElem?_toArray, List.getElem?_cons_succ, List.getElem?_cons_zero]
          change wpList _ _ _ [_, _, _, _, _, _] _ _
          go_wp2_with (go_at_call 119; (with_reducible refine (head_any p C cn cc E en ec L ln lc _ HC.out.1 HC.out.2 (by omega) (by omega)).mono ?_); rintro e w4 ⟨rfl, hb4⟩; have hb5 := hb3.trans (hb4.mono hb3.size); obtain ⟨y0, y1, y2, y3, y4, y5, y6, y7, y8, y9, y10⟩ := eleven_cells (blk_below hit3 hb4))
          go_ret
          refine ⟨congrArg Ending.returned (congrArg (Value.int .i64) ?_), hb5⟩
          rw [hs.out]
          omega
      · refine wpPlan_check fun P10 hP10 => ?_
        simp only [List.filterMap_cons, List.filterMap_nil, List.getElem?_toArray, List.getElem?_cons_succ, List.getElem?_cons_zero]
        change wpList _ _ _ [_, _, _] _ _
        go_wp2_with (go_at_call 119; (with_reducible refine (head_any p C cn cc E en ec L ln lc _ HC.out.1 HC.out.2 (by omega) (by omega)).mono ?_); rintro e w4 ⟨rfl, hb4⟩; have hb5 := hb3.trans (hb4.mono hb3.size); obtain ⟨y0, y1, y2, y3, y4, y5, y6, y7, y8, y9, y10⟩ := eleven_cells (blk_below hit3 hb4))
        refine hP10 _ _ (fun _ => .inl ⟨_, _, _, _, rfl, rfl⟩) ?_
        refine wpPlan_leaf fun P11 hP11 => ?_
        simp only [List.filterMap_cons, List.filterMap_nil, List.getElem?_toArray, List.getElem?_cons_succ, List.getElem?_cons_zero]
        change wpList _ _ _ [_, _, _, _] _ _
        go_wp2
        go_ret
        refine ⟨congrArg Ending.returned (congrArg (Value.int .i64) ?_), hb5⟩
        rw [hs.out]
        omega
end
end Go.Proofs.Ytknlkmencdlpcaa
