/-
The reference's Hex (package sluicegateref30).
-/
import Derived.Test.YtaghecgjmkhpcaaGreatDoorTz3
import Derived.Test.YtaghecgjmkhpcaaGreatDoorTzB
namespace Go.Proofs.YtaghecgjmkhpcaaGreatDoor
set_option linter.unusedVariables false
set_option linter.unusedSimpArgs false
open Go Go.RowKit

def hexS : ByteArray := ⟨#[48, 49, 50, 51, 52, 53, 54, 55, 56, 57, 97, 98, 99, 100, 101, 102]⟩
theorem hexS_get (q : Nat) (h : q < 16) (h2 : q < (⟨#[48, 49, 50, 51, 52, 53, 54, 55, 56, 57, 97, 98, 99, 100, 101, 102]⟩ : ByteArray).size) : (⟨#[48, 49, 50, 51, 52, 53, 54, 55, 56, 57, 97, 98, 99, 100, 101, 102]⟩ : ByteArray)[q] = hexD q := by
  have : q = 0 ∨ q = 1 ∨ q = 2 ∨ q = 3 ∨ q = 4 ∨ q = 5 ∨ q = 6 ∨ q = 7 ∨ q = 8 ∨ q = 9 ∨ q = 10 ∨ q = 11 ∨ q = 12 ∨ q = 13 ∨ q = 14 ∨ q = 15 := by omega
  rcases this with rfl | rfl | rfl | rfl | rfl | rfl | rfl | rfl | rfl | rfl | rfl | rfl | rfl | rfl | rfl | rfl <;> rfl
theorem run_mk0 (n : Nat) (hb : n ≤ 281474976710656) (kl kc : IntKind) (w : World) :
    (Instr.makeSlice 25 (.int kl 0) (.int kc (n : Int))).run Tryz.prog w = .ok (.slice (some ⟨w.heap.size, 0, none⟩) 0 n) (w.alloc (.cells (madeCells #[.int .u8 0] n) 5)) := by
  obtain ⟨ht, hzs, hsz, hby, i, hi, hz, hs, hbt⟩ := slU8
  have hb' : (i.bytes : Int) * (n : Int) ≤ 281474976710656 := by rw [hbt]; omega
  have hr := run_make (P := Tryz.prog) w 25 5 i (.int .u8 0) ht hi hz kl kc 0 n (by omega) (by omega) hb' (by omega)
  simp only [Int.toNat_natCast, hs, Nat.mul_one] at hr
  exact hr
theorem hex_take (l : List UInt8) (j : Nat) (h : j < l.length) : hexL (l.take (j + 1)) = hexL (l.take j) ++ [hexD (l[j].toNat / 16), hexD (l[j].toNat % 16)] := by
  rw [List.take_succ_eq_append_getElem h, hexL_append]
  rfl
theorem bys_two (l : List UInt8) (a b : UInt8) : bys l ++ bys [a, b] = bys (l ++ [a, b]) := by simp [bys]
set_option maxRecDepth 20000 in
theorem rhex_any (A : Option Addr) (n c : Nat) (l : List UInt8) (w : World) (h : Row w A n c 1 1 (bys l)) (hn : n ≤ 1000000) :
    Calls Tryz.prog 45 #[.slice A n c] w fun e w' => e = .returned (.string ⟨(hexL l).toArray⟩) ∧ Below w.heap.size w w' := by
  have hl : l.length = n := by have := h.len; rw [bys_length] at this; omega
  have HR := Lib.hid h
  have HL := Lib.hid hl
  have hmk := fun kl kc wx => run_mk0 (2 * n) (by omega) kl kc wx
  have hcast : ((2 * n : Nat) : Int) = 2 * (n : Int) := by omega
  rw [hcast] at hmk
  have hmade := World.ownsRow_made (base := w.heap.size) (e := 5) (size := 1) w (madeCells #[.int .u8 0] (2 * n)) (2 * n) (Nat.le_refl _) (by unfold maxLen; omega) (by rw [size_madeCells, Nat.mul_one])
  have hba : Below w.heap.size w (w.alloc (.cells (madeCells #[.int .u8 0] (2 * n)) 5)) := (Below.refl _ w).alloc (Nat.le_refl _) _
  clear h hl
  go_enter Tryz.func45, Tryz.ntmps45
  go_wp2
  generalize w.alloc _ = w1 at *
  go_loopw [3, 12] (fun v3 ix wr => ∃ (j : Nat) (V : Option Addr) (d : Nat), ix = .int .i64 j ∧ j ≤ n ∧ v3 = .slice V (2 * j) d ∧ wr.ownsRow w.heap.size 5 1 (.slice V (2 * j) d) (2 * j) (bys (hexL (l.take j))) ∧ Below w.heap.size w wr) (fun _ ix _ => n - (intOf ix).toNat)
  case atStart => exact ⟨0, _, 2 * n, rfl, Nat.zero_le _, rfl, hmade, hba⟩
  case round =>
    obtain ⟨j, V, d, rfl, hj, rfl, how, hbr⟩ := hrel
    clear hmade hba
    by_cases hlt : j < n
    · obtain ⟨ad, rfl, hcell⟩ := RdB.at_ (HR.out.below hbr).rd (k := j) (by rw [HL.out]; exact hlt)
      go_upto_region 5 with fail
      have HX := Lib.hid (hex_take l j (by rw [HL.out]; exact hlt))
      obtain ⟨x, hx⟩ : ∃ x, l[j]'(by rw [HL.out]; exact hlt) = x := ⟨_, rfl⟩
      rw [hx] at HX
      rw [hx] at hcell
      have HOW := Lib.hid how
      simp only [hx]
      clear hx how
      refine region_plan (calmB_sound _) (.check [0, 1, 4] 2 (.check [2] 5 (.fork [5] (.leaf [6, 3, 7, 8, 9]) (.leaf [3, 6, 7, 8, 9])))) (by kernel_rfl) (by kernel_rfl) (by kernel_rfl) ?_
      have hbd := hbr.drew
      have hcd : wr.drew.cell? (ad.add j) = some (.int .u8 (x.toNat : Int)) := hcell
      have HOD := Lib.hid (World.ownsRow.drew HOW.out)
      generalize wr.drew = wd at *
      have ha : ∀ h, (⟨#[48, 49, 50, 51, 52, 53, 54, 55, 56, 57, 97, 98, 99, 100, 101, 102]⟩ : ByteArray)[x.toNat / 16 % 256]'h = hexD (x.toNat / 16) := fun h => by
        have hx := UInt8.toNat_lt x
        have e : x.toNat / 16 % 256 = x.toNat / 16 := by omega
        have := hexS_get (x.toNat / 16) (by omega) (by rw [← e]; exact h)
        rw [← this]
        congr 1
      have hb : ∀ h, (⟨#[48, 49, 50, 51, 52, 53, 54, 55, 56, 57, 97, 98, 99, 100, 101, 102]⟩ : ByteArray)[x.toNat % 16]'h = hexD (x.toNat % 16) := fun h => hexS_get (x.toNat % 16) (by omega) h
      obtain ⟨a, ea⟩ : ∃ a, hexD (x.toNat / 16) = a := ⟨_, rfl⟩
      obtain ⟨b, eb⟩ : ∃ b, hexD (x.toNat % 16) = b := ⟨_, rfl⟩
      simp only [ea] at ha
      simp only [eb] at hb
      rw [ea, eb] at HX
      have HA := Lib.hid ha
      have HBX := Lib.hid hb
      have hq1 : (x.toNat : Int) / 16 % 256 < 16 := by have := UInt8.toNat_lt x; omega
      have hq2 : 0 ≤ (x.toNat : Int) / 16 % 256 ∧ (x.toNat : Int) / 16 % 256 < 16 := by have := UInt8.toNat_lt x; omega
      have HLT := Lib.hid ((own_rowT 1 (World.ownsRow_lit (base := 0) (e := 5) (size := 1) wd #[.int .u8 (a.toNat : Int), .int .u8 (b.toNat : Int)] 2 (Nat.zero_le _) (by unfold maxLen; omega) rfl)).rd)
      have hbd2 := hbd.alloc hbd.size (.cells #[.int .u8 (a.toNat : Int), .int .u8 (b.toNat : Int)] 5)
      clear ha hb ea eb
      refine wpPlan_check fun PL0 hPL0 => ?_
      simp only [List.filterMap_cons, List.filterMap_nil, List.getElem?_toArray, List.getElem?_cons_succ, List.getElem?_cons_zero]
      change wpList _ _ _ [_, _, _] _ _
      go_wp2_with ((at_builtin; (rw [HA.out, HBX.out]); (refine wpList_app slU8 rfl _ _ rfl w.heap.size V (2 * j) d (bys (hexL (l.take j))) rfl (HOD.out.alloc _) (some ⟨wd.heap.size, 0, none⟩) 2 2 (bys [a, b]) rfl rfl HLT.out (bys_one _) (by omega) hbd2.size ?_); intro A2 c2 w4 ho4 hg4 hA4; have q1 := own_from HOD.out; have B4 := hbd2.grown hg4 hbd2.size q1; clear q1; rw [bys_two, ← HX.out] at ho4; have HO4 := Lib.hid ho4; clear ho4))
      refine hPL0 _ _ (by first | exact fun _ => .inl ⟨_, _, _, _, rfl, rfl⟩ | exact fun _ => ⟨_, _, rfl⟩) ?_
      refine wpPlan_check fun PL1 hPL1 => ?_
      simp only [List.filterMap_cons, List.filterMap_nil, List.getElem?_toArray, List.getElem?_cons_succ, List.getElem?_cons_zero]
      change wpList _ _ _ [_] _ _
      go_wp2_with ((at_builtin; (rw [HA.out, HBX.out]); (refine wpList_app slU8 rfl _ _ rfl w.heap.size V (2 * j) d (bys (hexL (l.take j))) rfl (HOD.out.alloc _) (some ⟨wd.heap.size, 0, none⟩) 2 2 (bys [a, b]) rfl rfl HLT.out (bys_one _) (by omega) hbd2.size ?_); intro A2 c2 w4 ho4 hg4 hA4; have q1 := own_from HOD.out; have B4 := hbd2.grown hg4 hbd2.size q1; clear q1; rw [bys_two, ← HX.out] at ho4; have HO4 := Lib.hid ho4; clear ho4))
      refine hPL1 _ _ (by first | exact fun _ => .inl ⟨_, _, _, _, rfl, rfl⟩ | exact fun _ => ⟨_, _, rfl⟩) ?_
      refine wpPlan_fork fun PL2 hPL2 => ?_
      simp only [List.filterMap_cons, List.filterMap_nil, List.getElem?_toArray, List.getElem?_cons_succ, List.getElem?_cons_zero]
      change wpList _ _ _ [_] _ _
      go_wp2_with ((at_builtin; (rw [HA.out, HBX.out]); (refine wpList_app slU8 rfl _ _ rfl w.heap.size V (2 * j) d (bys (hexL (l.take j))) rfl (HOD.out.alloc _) (some ⟨wd.heap.size, 0, none⟩) 2 2 (bys [a, b]) rfl rfl HLT.out (bys_one _) (by omega) hbd2.size ?_); intro A2 c2 w4 ho4 hg4 hA4; have q1 := own_from HOD.out; have B4 := hbd2.grown hg4 hbd2.size q1; clear q1; rw [bys_two, ← HX.out] at ho4; have HO4 := Lib.hid ho4; clear ho4))
      refine hPL2 _ _ ?_ ?_
      · refine wpPlan_leaf fun PL3 hPL3 => ?_
        simp only [List.filterMap_cons, List.filterMap_nil, List.getElem?_toArray, List.getElem?_cons_succ, List.getElem?_cons_zero]
        change wpList _ _ _ [_, _, _, _, _] _ _
        go_wp2_with ((at_builtin; (rw [HA.out, HBX.out]); (refine wpList_app slU8 rfl _ _ rfl w.heap.size V (2 * j) d (bys (hexL (l.take j))) rfl (HOD.out.alloc _) (some ⟨wd.heap.size, 0, none⟩) 2 2 (bys [a, b]) rfl rfl HLT.out (bys_one _) (by omega) hbd2.size ?_); intro A2 c2 w4 ho4 hg4 hA4; have q1 := own_from HOD.out; have B4 := hbd2.grown hg4 hbd2.size q1; clear q1; rw [bys_two, ← HX.out] at ho4; have HO4 := Lib.hid ho4; clear ho4))
        exact ⟨⟨j + 1, A2, c2, rfl, by omega, rfl, HO4.out, B4⟩, by simp [intOf]; omega⟩
      · refine wpPlan_leaf fun PL3 hPL3 => ?_
        simp only [List.filterMap_cons, List.filterMap_nil, List.getElem?_toArray, List.getElem?_cons_succ, List.getElem?_cons_zero]
        change wpList _ _ _ [_, _, _, _, _] _ _
        go_wp2_with ((at_builtin; (rw [HA.out, HBX.out]); (refine wpList_app slU8 rfl _ _ rfl w.heap.size V (2 * j) d (bys (hexL (l.take j))) rfl (HOD.out.alloc _) (some ⟨wd.heap.size, 0, none⟩) 2 2 (bys [a, b]) rfl rfl HLT.out (bys_one _) (by omega) hbd2.size ?_); intro A2 c2 w4 ho4 hg4 hA4; have q1 := own_from HOD.out; have B4 := hbd2.grown hg4 hbd2.size q1; clear q1; rw [bys_two, ← HX.out] at ho4; have HO4 := Lib.hid ho4; clear ho4))
        exact ⟨⟨j + 1, A2, c2, rfl, by omega, rfl, HO4.out, B4⟩, by simp [intOf]; omega⟩
    · obtain rfl : j = n := by omega
      have hfin : hexL (l.take j) = hexL l := by rw [List.take_of_length_le (by rw [HL.out]; exact Nat.le_refl _)]
      rw [hfin] at how
      have hcv := cv_own how
      clear how hfin
      go_wp2
      go_ret
      exact ⟨rfl, hbr⟩
end Go.Proofs.YtaghecgjmkhpcaaGreatDoor
