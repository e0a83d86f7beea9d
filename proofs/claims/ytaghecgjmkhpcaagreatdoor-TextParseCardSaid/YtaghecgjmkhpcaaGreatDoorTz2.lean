/-
The reference's small, sourced, layered, May (package sluicegateref30).
-/
import Derived.Test.YtaghecgjmkhpcaaGreatDoorTz1
import Derived.Test.YtaghecgjmkhpcaaGreatDoorTx9
namespace Go.Proofs.YtaghecgjmkhpcaaGreatDoor
set_option linter.unusedVariables false
set_option linter.unusedSimpArgs false
open Go Go.RowKit

theorem rsmall_any (n : Int) (w : World) : Calls Tryz.prog 17 #[.int .i64 n] w fun e w' => e = .returned (.bool (smlB n)) ∧ w = w' := by
  by_cases c1 : 0 ≤ n
  · go_enter Tryz.func17, Tryz.ntmps17
    go_wp2
    go_ret
    refine ⟨ret_bool ?_, rfl⟩
    rw [Bool.eq_iff_iff]; unfold smlB; simp; omega
  · go_enter Tryz.func17, Tryz.ntmps17
    go_wp2
    go_ret
    refine ⟨ret_bool ?_, rfl⟩
    rw [Bool.eq_iff_iff]; unfold smlB; simp; omega
theorem rsrc_any (n : Int) (w : World) : Calls Tryz.prog 18 #[.int .i64 n] w fun e w' => e = .returned (.bool (srcB n)) ∧ w = w' := by
  go_enter Tryz.func18, Tryz.ntmps18
  go_wp2
  go_ret
  refine ⟨ret_bool ?_, rfl⟩
  rw [Bool.eq_iff_iff]; unfold srcB; simp
theorem rlay_any (n : Int) (w : World) : Calls Tryz.prog 19 #[.int .i64 n] w fun e w' => e = .returned (.bool (layB n)) ∧ w = w' := by
  by_cases c1 : n = 6
  · subst c1
    go_enter Tryz.func19, Tryz.ntmps19
    go_wp2
    go_ret
    exact ⟨rfl, rfl⟩
  · have c2 : (n == 6) = false := by simpa using c1
    have c3 : decide (n = 6) = false := decide_eq_false c1
    go_enter Tryz.func19, Tryz.ntmps19
    go_wp2
    go_ret
    refine ⟨ret_bool ?_, rfl⟩
    rw [Bool.eq_iff_iff]; unfold layB; simp [c1]
theorem may_parts (k p s y : Int) (nm : List UInt8) (ss : List Nat) (bs : List UInt8) : mayO ⟨k, p, s, y, nm, ss, bs⟩ = ((decide (1 ≤ k) && decide (k ≤ 12) && smlB p && smlB s && smlB y) && ((srcB k || s == 0) && (layB k || y == 0)) && ((k == 1 || bs.length == 0) && decide (bs.length ≤ 512)) && ((!(k == 2) || labB nm) && (k == 2 || nm == [])) && (if k = 4 then decide (1 ≤ ss.length) && decide (ss.length ≤ 3) else ss.length == 0)) := by
  unfold mayO sameO tailO
  dsimp only
  have hk : decide (1 ≤ k ∧ k ≤ 12) = (decide (1 ≤ k) && decide (k ≤ 12)) := by rw [Bool.eq_iff_iff]; simp
  have hb : (bs == []) = (bs.length == 0) := by cases bs <;> simp
  have hs : (ss == []) = (ss.length == 0) := by cases ss <;> simp
  rw [hk, hb, hs]
  generalize decide (1 ≤ k) = b1
  generalize decide (k ≤ 12) = b2
  generalize (nm == []) = b3
  generalize labB nm = b4
  generalize bs.length = bn
  generalize ss.length = an
  generalize smlB p = b5
  generalize smlB s = b6
  generalize smlB y = b7
  generalize (s == 0) = b8
  generalize (y == 0) = b9
  generalize srcB k = b10
  generalize layB k = b11
  by_cases k1 : k = 1
  · subst k1
    cases hz : (an == 0) <;> simp <;> revert b1 b2 b3 b4 b5 b6 b7 b8 b9 b10 b11 <;> cases decide (bn ≤ 512) <;> decide
  by_cases k2 : k = 2
  · subst k2
    by_cases hz : bn = 0
    · subst hz
      cases hz : (an == 0) <;> simp <;> revert b1 b2 b3 b4 b5 b6 b7 b8 b9 b10 b11 <;> decide
    · have e : (bn == 0) = false := by simpa using hz
      rw [e]
      simp
  by_cases k4 : k = 4
  · subst k4
    by_cases hz : bn = 0
    · subst hz
      simp
      generalize decide (1 ≤ an) = c1
      generalize decide (an ≤ 3) = c2
      revert b1 b2 b3 b4 b5 b6 b7 b8 b9 b10 b11 c1 c2
      decide
    · have e : (bn == 0) = false := by simpa using hz
      rw [e]
      simp
  · have e1 : (k == 1) = false := by simpa using k1
    have e2 : (k == 2) = false := by simpa using k2
    have e4 : (k == 4) = false := by simpa using k4
    rw [if_neg k1, if_neg k2, if_neg k4, if_neg k4, e1, e2, e4]
    by_cases hz : bn = 0
    · subst hz
      cases hz : (an == 0) <;> simp <;> revert b1 b2 b3 b4 b5 b6 b7 b8 b9 b10 b11 <;> decide
    · have e : (bn == 0) = false := by simpa using hz
      rw [e]
      simp

set_option maxRecDepth 20000 in
set_option maxHeartbeats 4000000 in
theorem rmay_v (k p s y : Int) (nm : List UInt8) (A : Option Addr) (an ac : Nat) (B : Option Addr) (bn bc : Nat) (w : World) (hl : nm.length ≤ 281474976710656) (hT : LaidT w) :
    Calls Tryz.prog 7 #[opA k p s y nm A an ac B bn bc] w fun e w' => e = .returned (.bool ((decide (1 ≤ k) && decide (k ≤ 12) && smlB p && smlB s && smlB y) && ((srcB k || s == 0) && (layB k || y == 0)) && ((k == 1 || bn == 0) && decide (bn ≤ 512)) && ((!(k == 2) || labB nm) && (k == 2 || nm == [])) && (if k = 4 then decide (1 ≤ an) && decide (an ≤ 3) else an == 0))) ∧ Below w.heap.size w w' := by
  have hb0 : Below w.heap.size w (w.alloc (.cells (opC k p s y nm A an ac B bn bc) 27)) := (Below.refl _ w).alloc (Nat.le_refl _) _
  have hi0 : (w.alloc (.cells (opC k p s y nm A an ac B bn bc) 27)).heap[w.heap.size]? = some (.cells (opC k p s y nm A an ac B bn bc) 27 (0, 0)) := heap_alloc_new w _
  obtain ⟨t1, h1⟩ : ∃ b, (decide (1 ≤ k) && decide (k ≤ 12) && smlB p && smlB s && smlB y) = b := ⟨_, rfl⟩
  obtain ⟨t2, h2⟩ : ∃ b, ((srcB k || s == 0) && (layB k || y == 0)) = b := ⟨_, rfl⟩
  obtain ⟨t3, h3⟩ : ∃ b, ((k == 1 || bn == 0) && decide (bn ≤ 512)) = b := ⟨_, rfl⟩
  obtain ⟨t4, h4⟩ : ∃ b, ((!(k == 2) || labB nm) && (k == 2 || nm == [])) = b := ⟨_, rfl⟩
  obtain ⟨t5, h5⟩ : ∃ b, (if k = 4 then decide (1 ≤ an) && decide (an ≤ 3) else an == 0) = b := ⟨_, rfl⟩
  rw [h1, h2, h3, h4, h5]
  have H1 := Lib.hid h1
  have H2 := Lib.hid h2
  have H3 := Lib.hid h3
  have H4 := Lib.hid h4
  have H5 := Lib.hid h5
  have HT := Lib.hid hT
  have HL := Lib.hid hl
  obtain ⟨x0, x1, x2, x3, x4, x5, x6⟩ := seven_cells hi0
  clear h1 h2 h3 h4 h5 hT hl
  go_enter Tryz.func7, Tryz.ntmps7
  go_upto_region 1 with fail
  generalize w.alloc _ = w1 at *
  have HI := Lib.hid hi0
  have HB1 := Lib.hid hb0
  clear hi0 hb0
  go_cut [28] from 3 to 28 (fun v28 wx => v28 = .bool (!t1) ∧ wx = w1)
  case rest =>
    obtain ⟨rfl, rfl⟩ := hcut
    cases t1 with
    | false =>
      go_wp2
      go_ret
      exact ⟨congrArg (fun b => Ending.returned (Value.bool b)) (by simp), HB1.out⟩
    | true =>
      clear H1
      go_upto_region 3 with fail
      go_cut [48] from 29 to 48 (fun v48 wx => v48 = .bool (!t2) ∧ wx = wc)
      case rest =>
        obtain ⟨rfl, rfl⟩ := hcut
        cases t2 with
        | false =>
          go_wp2
          go_ret
          exact ⟨congrArg (fun b => Ending.returned (Value.bool b)) (by simp), HB1.out⟩
        | true =>
          clear H2
          go_upto_region 5 with fail
          go_cut [63] from 49 to 63 (fun v63 wx => v63 = .bool (!t3) ∧ wx = wc)
          case rest =>
            obtain ⟨rfl, rfl⟩ := hcut
            cases t3 with
            | false =>
              go_wp2
              go_ret
              exact ⟨congrArg (fun b => Ending.returned (Value.bool b)) (by simp), HB1.out⟩
            | true =>
              clear H3
              go_upto_region 7 with fail
              go_cut [82] from 64 to 82 (fun v82 wx => v82 = .bool (!t4) ∧ Below w.heap.size w wx ∧ wx.heap[w.heap.size]? = some (.cells (opC k p s y nm A an ac B bn bc) 27 (0, 0)))
              case rest =>
                obtain ⟨rfl, hB, hi⟩ := hcut
                clear x0 x1 x2 x3 x4 x5 x6
                obtain ⟨x0, x1, x2, x3, x4, x5, x6⟩ := seven_cells hi
                have HI2 := Lib.hid hi
                clear hi
                cases t4 with
                | false =>
                  go_wp2
                  go_ret
                  exact ⟨congrArg (fun b => Ending.returned (Value.bool b)) (by simp), hB⟩
                | true =>
                  clear H4
                  skip
                  by_cases ak : k = 4
                  · subst ak
                    by_cases c1 : 1 ≤ an
                    · have c1a : decide ((1 : Int) ≤ (an : Int)) = true := decide_eq_true (by omega)
                      have c1b : decide (1 ≤ an) = true := decide_eq_true c1
                      by_cases c2 : an ≤ 3
                      · have c2a : decide ((an : Int) ≤ 3) = true := decide_eq_true (by omega)
                        have c2b : decide (an ≤ 3) = true := decide_eq_true c2
                        go_wp2
                        go_ret
                        exact ⟨ret_bool (by rw [← H5.out]; simp [c1, c2]), hB⟩
                      · have c2a : decide ((an : Int) ≤ 3) = false := decide_eq_false (by omega)
                        have c2b : decide (an ≤ 3) = false := decide_eq_false c2
                        go_wp2
                        go_ret
                        exact ⟨ret_bool (by rw [← H5.out]; simp [c1, c2]), hB⟩
                    · have c1a : decide ((1 : Int) ≤ (an : Int)) = false := decide_eq_false (by omega)
                      have c1b : decide (1 ≤ an) = false := decide_eq_false c1
                      go_wp2
                      go_ret
                      exact ⟨ret_bool (by rw [← H5.out]; simp; omega), hB⟩
                  · have ak1 : (k == 4) = false := by simpa using ak
                    have ak3 : decide (k = 4) = false := decide_eq_false ak
                    go_wp2
                    all_goals go_ret
                    all_goals exact ⟨ret_bool (by rw [← H5.out, if_neg ak, Bool.eq_iff_iff]; simp), hB⟩
              by_cases ak : k = 2
              · subst ak
                cases hlb : labB nm with
                | false =>
                  have HLB := Lib.hid hlb
                  clear hlb
                  go_wp2_with (go_at_call 20; refine (mayName_any nm _ HL.out (HT.out.below HB1.out)).mono ?_; rintro e w2 ⟨rfl, hb2⟩; rw [HLB.out]; have B2 := below_nextT HB1.out hb2; obtain ⟨z0, z1, z2, z3, z4, z5, z6⟩ := seven_cells (blk_below HI.out hb2))
                  go_meet
                  exact ⟨congrArg Value.bool (by rw [← H4.out, HLB.out]; rfl), B2, blk_below HI.out hb2⟩
                | true =>
                  have HLB := Lib.hid hlb
                  clear hlb
                  go_wp2_with (go_at_call 20; refine (mayName_any nm _ HL.out (HT.out.below HB1.out)).mono ?_; rintro e w2 ⟨rfl, hb2⟩; rw [HLB.out]; have B2 := below_nextT HB1.out hb2; obtain ⟨z0, z1, z2, z3, z4, z5, z6⟩ := seven_cells (blk_below HI.out hb2))
                  go_meet
                  exact ⟨congrArg Value.bool (by rw [← H4.out, HLB.out]; rfl), B2, blk_below HI.out hb2⟩
              · have ak1 : (k == 2) = false := by simpa using ak
                have ak2 : (k != 2) = true := by simpa using ak
                have ak3 : decide (k = 2) = false := decide_eq_false ak
                cases nm with
                | nil =>
                  go_wp2
                  go_meet
                  exact ⟨congrArg Value.bool (by rw [← H4.out, ak1]; rfl), HB1.out, HI.out⟩
                | cons c0 l0 =>
                  go_wp2
                  go_meet
                  exact ⟨congrArg Value.bool (by rw [← H4.out, ak1]; rfl), HB1.out, HI.out⟩
          by_cases ak : k = 1
          · subst ak
            by_cases ab : 512 < bn
            · have ab2 : decide ((512 : Int) < (bn : Int)) = true := decide_eq_true (by omega)
              have ab3 : decide (512 < bn) = true := decide_eq_true ab
              go_wp2
              go_meet
              exact ⟨congrArg Value.bool (by rw [← H3.out, decide_eq_false (show ¬ bn ≤ 512 by omega)]; simp), rfl⟩
            · have ab2 : decide ((512 : Int) < (bn : Int)) = false := decide_eq_false (by omega)
              have ab3 : decide (512 < bn) = false := decide_eq_false ab
              go_wp2
              go_meet
              exact ⟨congrArg Value.bool (by rw [← H3.out, decide_eq_true (show bn ≤ 512 by omega)]; simp), rfl⟩
          · have ak1 : (k == 1) = false := by simpa using ak
            have ak2 : (k != 1) = true := by simpa using ak
            have ak3 : decide (k = 1) = false := decide_eq_false ak
            by_cases az : 0 < bn
            · have az1 : (bn == 0) = false := by simp; omega
              have az2 : decide ((0 : Int) < (bn : Int)) = true := decide_eq_true (by omega)
              have az3 : decide (0 < bn) = true := decide_eq_true az
              go_wp2
              go_meet
              exact ⟨congrArg Value.bool (by rw [← H3.out, ak1, az1]; rfl), rfl⟩
            obtain rfl : bn = 0 := by omega
            go_wp2
            go_meet
            exact ⟨congrArg Value.bool (by rw [← H3.out]; simp), rfl⟩
      cases hsr : srcB k with
      | false =>
        have HSR := Lib.hid hsr
        clear hsr
        by_cases sz : s = 0
        · subst sz
          cases hla : layB k with
          | true =>
            have HLA := Lib.hid hla
            clear hla
            go_wp2_with (first | (go_at_call 18; (with_reducible refine (rsrc_any k _).mono ?_); rintro e w2 ⟨rfl, rfl⟩; rw [HSR.out]) | (go_at_call 19; (with_reducible refine (rlay_any k _).mono ?_); rintro e w2 ⟨rfl, rfl⟩; rw [HLA.out]))
            go_meet
            exact ⟨congrArg Value.bool (by rw [← H2.out, HSR.out, HLA.out]; rfl), rfl⟩
          | false =>
            have HLA := Lib.hid hla
            clear hla
            by_cases ay : y = 0
            · subst ay
              go_wp2_with (first | (go_at_call 18; (with_reducible refine (rsrc_any k _).mono ?_); rintro e w2 ⟨rfl, rfl⟩; rw [HSR.out]) | (go_at_call 19; (with_reducible refine (rlay_any k _).mono ?_); rintro e w2 ⟨rfl, rfl⟩; rw [HLA.out]))
              go_meet
              exact ⟨congrArg Value.bool (by rw [← H2.out, HSR.out, HLA.out]; rfl), rfl⟩
            · have ay1 : (y == 0) = false := by simpa using ay
              have ay2 : (y != 0) = true := by simpa using ay
              have ay3 : decide (y = 0) = false := decide_eq_false ay
              go_wp2_with (first | (go_at_call 18; (with_reducible refine (rsrc_any k _).mono ?_); rintro e w2 ⟨rfl, rfl⟩; rw [HSR.out]) | (go_at_call 19; (with_reducible refine (rlay_any k _).mono ?_); rintro e w2 ⟨rfl, rfl⟩; rw [HLA.out]))
              go_meet
              exact ⟨congrArg Value.bool (by rw [← H2.out, HSR.out, HLA.out, ay1]; first | rfl | (simp)), rfl⟩
        · have as1 : (s == 0) = false := by simpa using sz
          have as2 : (s != 0) = true := by simpa using sz
          have as3 : decide (s = 0) = false := decide_eq_false sz
          go_wp2_with (first | (go_at_call 18; (with_reducible refine (rsrc_any k _).mono ?_); rintro e w2 ⟨rfl, rfl⟩; rw [HSR.out]) | (go_at_call 19; (with_reducible refine (rlay_any k _).mono ?_); rintro e w2 ⟨rfl, rfl⟩; rw [HLA.out]))
          go_meet
          exact ⟨congrArg Value.bool (by rw [← H2.out, HSR.out, as1]; rfl), rfl⟩
      | true =>
        have HSR := Lib.hid hsr
        clear hsr
        cases hla : layB k with
        | true =>
          have HLA := Lib.hid hla
          clear hla
          go_wp2_with (first | (go_at_call 18; (with_reducible refine (rsrc_any k _).mono ?_); rintro e w2 ⟨rfl, rfl⟩; rw [HSR.out]) | (go_at_call 19; (with_reducible refine (rlay_any k _).mono ?_); rintro e w2 ⟨rfl, rfl⟩; rw [HLA.out]))
          go_meet
          exact ⟨congrArg Value.bool (by rw [← H2.out, HSR.out, HLA.out]; rfl), rfl⟩
        | false =>
          have HLA := Lib.hid hla
          clear hla
          by_cases ay : y = 0
          · subst ay
            go_wp2_with (first | (go_at_call 18; (with_reducible refine (rsrc_any k _).mono ?_); rintro e w2 ⟨rfl, rfl⟩; rw [HSR.out]) | (go_at_call 19; (with_reducible refine (rlay_any k _).mono ?_); rintro e w2 ⟨rfl, rfl⟩; rw [HLA.out]))
            go_meet
            exact ⟨congrArg Value.bool (by rw [← H2.out, HSR.out, HLA.out]; rfl), rfl⟩
          · have ay1 : (y == 0) = false := by simpa using ay
            have ay2 : (y != 0) = true := by simpa using ay
            have ay3 : decide (y = 0) = false := decide_eq_false ay
            go_wp2_with (first | (go_at_call 18; (with_reducible refine (rsrc_any k _).mono ?_); rintro e w2 ⟨rfl, rfl⟩; rw [HSR.out]) | (go_at_call 19; (with_reducible refine (rlay_any k _).mono ?_); rintro e w2 ⟨rfl, rfl⟩; rw [HLA.out]))
            go_meet
            exact ⟨congrArg Value.bool (by rw [← H2.out, HSR.out, HLA.out, ay1]; first | rfl | (simp)), rfl⟩
  by_cases a1 : k < 1
  · go_wp2_with (fail)
    go_meet
    exact ⟨congrArg Value.bool (by rw [← H1.out]; rw [decide_eq_false (show ¬ 1 ≤ k by omega)]; rfl), rfl⟩
  by_cases a2 : 12 < k
  · go_wp2_with (fail)
    go_meet
    exact ⟨congrArg Value.bool (by rw [← H1.out]; rw [decide_eq_true (show 1 ≤ k by omega), decide_eq_false (show ¬ k ≤ 12 by omega)]; rfl), rfl⟩
  cases hp : smlB p with
  | false =>
    have HSP := Lib.hid hp
    clear hp
    go_wp2_with (first | (go_at_call 17; (with_reducible refine (rsmall_any p _).mono ?_); rintro e w2 ⟨rfl, rfl⟩; rw [HSP.out]) | (go_at_call 17; (with_reducible refine (rsmall_any s _).mono ?_); rintro e w2 ⟨rfl, rfl⟩; rw [HSS.out]) | (go_at_call 17; (with_reducible refine (rsmall_any y _).mono ?_); rintro e w2 ⟨rfl, rfl⟩; rw [HSY.out]))
    go_meet
    exact ⟨congrArg Value.bool (by rw [← H1.out]; rw [decide_eq_true (show 1 ≤ k by omega), decide_eq_true (show k ≤ 12 by omega), HSP.out]; rfl), rfl⟩
  | true =>
    have HSP := Lib.hid hp
    clear hp
    cases hs : smlB s with
    | false =>
      have HSS := Lib.hid hs
      clear hs
      go_wp2_with (first | (go_at_call 17; (with_reducible refine (rsmall_any p _).mono ?_); rintro e w2 ⟨rfl, rfl⟩; rw [HSP.out]) | (go_at_call 17; (with_reducible refine (rsmall_any s _).mono ?_); rintro e w2 ⟨rfl, rfl⟩; rw [HSS.out]) | (go_at_call 17; (with_reducible refine (rsmall_any y _).mono ?_); rintro e w2 ⟨rfl, rfl⟩; rw [HSY.out]))
      go_meet
      exact ⟨congrArg Value.bool (by rw [← H1.out]; rw [decide_eq_true (show 1 ≤ k by omega), decide_eq_true (show k ≤ 12 by omega), HSP.out, HSS.out]; rfl), rfl⟩
    | true =>
      have HSS := Lib.hid hs
      clear hs
      cases hy : smlB y with
      | false =>
        have HSY := Lib.hid hy
        clear hy
        go_wp2_with (first | (go_at_call 17; (with_reducible refine (rsmall_any p _).mono ?_); rintro e w2 ⟨rfl, rfl⟩; rw [HSP.out]) | (go_at_call 17; (with_reducible refine (rsmall_any s _).mono ?_); rintro e w2 ⟨rfl, rfl⟩; rw [HSS.out]) | (go_at_call 17; (with_reducible refine (rsmall_any y _).mono ?_); rintro e w2 ⟨rfl, rfl⟩; rw [HSY.out]))
        go_meet
        exact ⟨congrArg Value.bool (by rw [← H1.out]; rw [decide_eq_true (show 1 ≤ k by omega), decide_eq_true (show k ≤ 12 by omega), HSP.out, HSS.out, HSY.out]; rfl), rfl⟩
      | true =>
        have HSY := Lib.hid hy
        clear hy
        go_wp2_with (first | (go_at_call 17; (with_reducible refine (rsmall_any p _).mono ?_); rintro e w2 ⟨rfl, rfl⟩; rw [HSP.out]) | (go_at_call 17; (with_reducible refine (rsmall_any s _).mono ?_); rintro e w2 ⟨rfl, rfl⟩; rw [HSS.out]) | (go_at_call 17; (with_reducible refine (rsmall_any y _).mono ?_); rintro e w2 ⟨rfl, rfl⟩; rw [HSY.out]))
        go_meet
        exact ⟨congrArg Value.bool (by rw [← H1.out]; rw [decide_eq_true (show 1 ≤ k by omega), decide_eq_true (show k ≤ 12 by omega), HSP.out, HSS.out, HSY.out]; rfl), rfl⟩
end Go.Proofs.YtaghecgjmkhpcaaGreatDoor
