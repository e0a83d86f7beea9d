/-
The reference's Print (package sluicegateref30).
-/
import Derived.Test.YtaghecgjmkhpcaaGreatDoorTz5
namespace Go.Proofs.YtaghecgjmkhpcaaGreatDoor
set_option linter.unusedVariables false
set_option linter.unusedSimpArgs false
open Go Go.RowKit

theorem rline_o (x : Sp) (w : World) (hm : mayO x.o = true) (hr : SpR w x) :
    Calls Tryz.prog 24 #[spV x] w fun e w' => e = .returned (.string ⟨(lineL x.o).toArray⟩) ∧ Below w.heap.size w w' := by
  obtain ⟨⟨k, p, s, y, nm, ss, bs⟩, A, an, ac, B, bn, bc⟩ := x
  have hmc := may_cases hm
  dsimp only at hmc
  obtain ⟨k, rfl⟩ := Int.eq_ofNat_of_zero_le (show 0 ≤ k by omega)
  obtain ⟨p, rfl⟩ := Int.eq_ofNat_of_zero_le hmc.1.1
  obtain ⟨s, rfl⟩ := Int.eq_ofNat_of_zero_le hmc.2.1.1
  obtain ⟨y, rfl⟩ := Int.eq_ofNat_of_zero_le hmc.2.2.1.1
  exact rline_v k p s y nm ss bs A an ac B bn bc w hm hr.ok hr.ra hr.rb
set_option maxRecDepth 20000 in
set_option maxHeartbeats 1000000 in
theorem rprint_any (A : Option Addr) (n c : Nat) (xs : List Sp) (w : World) (h : Ops w A n c xs) (hT : LaidT w) :
    Calls Tryz.prog 9 #[.slice A n c] w fun e w' => e = .returned (.string ⟨(printL (opl xs)).toArray⟩) ∧ Below w.heap.size w w' := by
  have HO := Lib.hid h
  have HT := Lib.hid hT
  have hl := h.len
  have hnc := h.nc
  have hcm := h.cm
  unfold maxLen at hcm
  have HL := Lib.hid hl
  clear h hT hl
  by_cases hn : n ≤ 256
  · have e1 : decide (256 < n) = false := decide_eq_false (by omega)
    obtain ⟨F, hF⟩ : ∃ F : Nat → List UInt8, F = fun j => (opl (xs.take j)).flatMap lineL := ⟨_, rfl⟩
    have F0 : Hid (F 0 = []) := Lib.hid (by rw [hF]; rfl)
    have F1 : Hid (∀ j (h : j < xs.length), F (j + 1) = F j ++ lineL xs[j].o) := Lib.hid (fun j h => by
      rw [hF]
      dsimp only
      rw [opl_take_succ h, List.flatMap_append]
      simp)
    have FL : Hid (∀ j, j ≤ n → (∀ q ∈ opl (xs.take j), mayO q = true) → (F j).length ≤ 1101 * 256) := Lib.hid (fun j hj h => by
      rw [hF]
      have h1 := lines_len _ h
      rw [opl_length, List.length_take] at h1
      dsimp only
      omega)
    have FE : Hid (F n = (opl xs).flatMap lineL) := Lib.hid (by
      rw [hF]
      dsimp only
      rw [List.take_of_length_le (by rw [HL.out]; exact Nat.le_refl _)])
    clear hF
    go_enter Tryz.func9, Tryz.ntmps9
    go_wp2
    go_loopw [3, 11] (fun v3 ix wr => ∃ j : Nat, ix = .int .i64 j ∧ j ≤ n ∧ v3 = .string ⟨(F j).toArray⟩ ∧ Below w.heap.size w wr ∧ Hid (∀ q ∈ opl (xs.take j), mayO q = true)) (fun _ ix _ => n - (intOf ix).toNat)
    case atStart => exact ⟨0, rfl, Nat.zero_le _, by rw [F0.out], Below.refl _ _, Lib.hid (by simp [opl])⟩
    case round =>
      obtain ⟨j, rfl, hjn, rfl, hbr, HMY⟩ := hrel
      by_cases hlt : j < n
      · have hj : j < xs.length := by rw [HL.out]; exact hlt
        obtain ⟨ad, rfl, c0, c1, c2, c3, c4, c5, c6⟩ := rd_sp (HO.out.rd.below hbr) hj
        have hf := F1.out j hj
        have hfl := FL.out j hjn HMY.out
        obtain ⟨x, hx⟩ : ∃ x, xs[j] = x := ⟨_, rfl⟩
        have hxr : SpR w x := by rw [← hx]; exact HO.out.rows _ (List.getElem_mem hj)
        rw [hx] at c0 c1 c2 c3 c4 c5 c6 hf
        have HX := Lib.hid hx
        have HR := Lib.hid hxr
        obtain ⟨G0, hG0⟩ : ∃ G, F j = G := ⟨_, rfl⟩
        obtain ⟨G1, hG1⟩ : ∃ G, F (j + 1) = G := ⟨_, rfl⟩
        rw [hG0, hG1] at hf
        rw [hG0] at hfl
        rw [hG0]
        have HG1 := Lib.hid hG1
        have HFL := Lib.hid hfl
        have HF := Lib.hid hf
        clear hx hxr hG0 hG1 hf hfl
        go_upto_region 7 with fail
        have hi1 : (wr.alloc (.cells #[.int .i64 x.o.k, .int .i64 x.o.p, .int .i64 x.o.s, .int .i64 x.o.y, .string ⟨x.o.nm.toArray⟩, .slice x.A x.an x.ac, .slice x.B x.bn x.bc] 27)).heap[wr.heap.size]? = some (.cells #[.int .i64 x.o.k, .int .i64 x.o.p, .int .i64 x.o.s, .int .i64 x.o.y, .string ⟨x.o.nm.toArray⟩, .slice x.A x.an x.ac, .slice x.B x.bn x.bc] 27 (0, 0)) := heap_alloc_new wr _
        have hb1 : Below wr.heap.size wr (wr.alloc (.cells #[.int .i64 x.o.k, .int .i64 x.o.p, .int .i64 x.o.s, .int .i64 x.o.y, .string ⟨x.o.nm.toArray⟩, .slice x.A x.an x.ac, .slice x.B x.bn x.bc] 27)) := (Below.refl _ wr).alloc (Nat.le_refl _) _
        generalize wr.alloc _ = w1 at *
        have hbw1 := hbr.trans (hb1.mono hbr.size)
        have HR1 := Lib.hid (HR.out.below hbw1)
        have HT1 := Lib.hid (HT.out.below hbw1)
        obtain ⟨x0, x1, x2, x3, x4, x5, x6⟩ := seven_cells hi1
        cases hm : mayO x.o with
        | false =>
          have HMX := Lib.hid hm
          have e0 : printL (opl xs) = [] := by
            unfold printL
            rw [if_neg]
            rintro ⟨_, h2⟩
            have := List.all_eq_true.1 h2 x.o (List.mem_map.2 ⟨x, by rw [← HX.out]; exact List.getElem_mem hj, rfl⟩)
            rw [HMX.out] at this
            cases this
          have E0 := Lib.hid e0
          clear e0 hm
          go_wp2_with (go_at_call 7; (with_reducible refine (rmay_o x _ HR1.out HT1.out).mono ?_); rintro e w3 ⟨rfl, hb3⟩; have hm' := HMX.out; rw [hm'])
          go_ret
          rw [E0.out]
          exact ⟨rfl, hbw1.trans (hb3.mono hbw1.size)⟩
        | true =>
          have HMX := Lib.hid hm
          have hll : (lineL x.o).length ≤ 1101 := by
            have := (join_line_len hm).1
            unfold lineL
            rw [List.length_append, List.length_singleton]
            omega
          obtain ⟨LX, hLX⟩ : ∃ LX, lineL x.o = LX := ⟨_, rfl⟩
          have hf := HF.out
          rw [hLX] at hll hf
          have hfl := HFL.out
          have hadd : ∀ wz : World, (Op.stringOp .add ⟨G0.toArray⟩ ⟨LX.toArray⟩).run Tryz.prog wz = .ok (.string ⟨G1.toArray⟩) wz := fun wz => by
            rw [hf]
            exact run_string_add_lists (P := Tryz.prog) wz G0 LX (by omega) (by omega)
          have HLX := Lib.hid hLX
          clear hm hll hLX hf hfl
          go_wp2_with (first
            | (go_at_call 7; (with_reducible refine (rmay_o x _ HR1.out HT1.out).mono ?_); rintro e w3 ⟨rfl, hb3⟩; have hm' := HMX.out; rw [hm']; have hi3 := blk_below hi1 hb3; obtain ⟨z0, z1, z2, z3, z4, z5, z6⟩ := seven_cells hi3; have HR3 := Lib.hid (HR1.out.below hb3); have hbw3 := hbw1.trans (hb3.mono hbw1.size))
            | (go_at_call 24; (with_reducible refine (rline_o x _ HMX.out HR3.out).mono ?_); rintro e w4 ⟨rfl, hb4⟩; rw [HLX.out]; have hbw4 := hbw3.trans (hb4.mono hbw3.size)))
          refine ⟨⟨j + 1, rfl, by omega, by rw [HG1.out], hbw4, ?_⟩, by simp [intOf]; omega⟩
          refine Lib.hid ?_
          intro q hq
          rw [opl_take_succ (by rw [HL.out]; exact hlt), HX.out] at hq
          rcases List.mem_append.1 hq with hq | hq
          · exact HMY.out q hq
          · rw [List.mem_singleton.1 hq]
            exact HMX.out
      · obtain rfl : j = n := by omega
        have hall : ∀ q ∈ opl xs, mayO q = true := by
          have := HMY.out
          rwa [List.take_of_length_le (by rw [HL.out]; exact Nat.le_refl _)] at this
        have hp : printL (opl xs) = F j := by rw [print_yes (by rw [opl_length, HL.out]; exact hn) hall, FE.out]
        have HP := Lib.hid hp
        clear hall hp
        go_wp2
        go_ret
        rw [HP.out]
        exact ⟨rfl, hbr⟩
  · have e1 : decide (256 < n) = true := decide_eq_true (by omega)
    have e2 : decide ((256 : Int) < (n : Int)) = true := decide_eq_true (by omega)
    have e0 : printL (opl xs) = [] := by
      unfold printL
      rw [if_neg]
      rintro ⟨h2, _⟩
      rw [opl_length, HL.out] at h2
      omega
    rw [e0]
    clear e0
    go_enter Tryz.func9, Tryz.ntmps9
    go_wp2
    go_ret
    exact ⟨rfl, Below.refl _ _⟩
end Go.Proofs.YtaghecgjmkhpcaaGreatDoor
