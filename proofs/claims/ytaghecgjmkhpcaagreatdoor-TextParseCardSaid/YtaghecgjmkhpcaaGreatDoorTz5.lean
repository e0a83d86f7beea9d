/-
The reference's Line (package sluicegateref30).
-/
import Derived.Test.YtaghecgjmkhpcaaGreatDoorTz4
import Derived.Test.YtaghecgjmkhpcaaGreatDoorTxG
namespace Go.Proofs.YtaghecgjmkhpcaaGreatDoor
set_option linter.unusedVariables false
set_option linter.unusedSimpArgs false
open Go Go.RowKit

def sp32 (l : List (List UInt8)) : List UInt8 := l.flatMap fun x => 32 :: x
theorem join_sp (a : List UInt8) (l : List (List UInt8)) : joinL 32 (a :: l) = a ++ sp32 l := by
  induction l generalizing a with
  | nil => simp [joinL, sp32]
  | cons b l ih => rw [joinL, ih b]; simp [sp32]
theorem line_parts (k : Int) (p s y : Nat) (nm : List UInt8) (ss : List Nat) (bs : List UInt8) : lineL ⟨k, p, s, y, nm, ss, bs⟩ =
    wordL k ++ (32 :: decL p) ++ (if srcB k then 32 :: decL s else []) ++ (if layB k then 32 :: decL y else []) ++ (if k = 2 then 32 :: nm else []) ++ sp32 (ss.map fun x => hexL (enc 4 x)) ++ (if bs = [] then [] else 32 :: hexL bs) ++ [10] := by
  unfold lineL wrdsL
  rw [List.cons_append, join_sp]
  simp only [Int.toNat_natCast]
  cases srcB k <;> cases layB k <;> by_cases h2 : k = 2 <;> by_cases h3 : bs = [] <;> simp [sp32, h2, h3]
theorem sp_take (ss : List Nat) (j : Nat) (h : j < ss.length) : sp32 ((ss.take (j + 1)).map fun x => hexL (enc 4 x)) = sp32 ((ss.take j).map fun x => hexL (enc 4 x)) ++ 32 :: hexL (enc 4 ss[j]) := by
  rw [List.take_succ_eq_append_getElem h, List.map_append]
  simp only [sp32, List.flatMap_append, List.map_cons, List.map_nil, List.flatMap_cons, List.flatMap_nil, List.append_nil]
theorem add_o (a b c : List UInt8) (h : a ++ b = c) (hl : c.length ≤ 2000) (wz : World) : (Op.stringOp .add ⟨a.toArray⟩ ⟨b.toArray⟩).run Tryz.prog wz = .ok (.string ⟨c.toArray⟩) wz := by
  subst h
  rw [List.length_append] at hl
  exact run_string_add_lists (P := Tryz.prog) wz a b (by omega) (by omega)
theorem add_sp (b c : List UInt8) (h : 32 :: b = c) (hl : c.length ≤ 2000) (wz : World) : (Op.stringOp .add ⟨#[32]⟩ ⟨b.toArray⟩).run Tryz.prog wz = .ok (.string ⟨c.toArray⟩) wz := add_o [32] b c h hl wz
set_option maxRecDepth 20000 in
set_option maxHeartbeats 4000000 in
theorem rline_v (k p s y : Nat) (nm : List UInt8) (ss : List Nat) (bs : List UInt8) (A : Option Addr) (an ac : Nat) (B : Option Addr) (bn bc : Nat) (w : World) (hm : mayO ⟨k, p, s, y, nm, ss, bs⟩ = true) (hs : ∀ x ∈ ss, x < 4294967296)
    (hA : Row w A an ac 1 4 (u32s ss)) (hB : Row w B bn bc 1 1 (bys bs)) :
    Calls Tryz.prog 24 #[opA k p s y nm A an ac B bn bc] w fun e w' => e = .returned (.string ⟨(lineL ⟨k, p, s, y, nm, ss, bs⟩).toArray⟩) ∧ Below w.heap.size w w' := by
  have hb0 : Below w.heap.size w (w.alloc (.cells (opC k p s y nm A an ac B bn bc) 27)) := (Below.refl _ w).alloc (Nat.le_refl _) _
  have hi0 : (w.alloc (.cells (opC k p s y nm A an ac B bn bc) 27)).heap[w.heap.size]? = some (.cells (opC k p s y nm A an ac B bn bc) 27 (0, 0)) := heap_alloc_new w _
  have hlen := join_line_len hm
  have hmc := may_cases hm
  have hk : 1 ≤ k ∧ k ≤ 12 := by dsimp only at hmc; omega
  have hp : p ≤ 999 ∧ s ≤ 999 ∧ y ≤ 999 := by dsimp only at hmc; omega
  have hll : (lineL ⟨k, p, s, y, nm, ss, bs⟩).length ≤ 1101 := by
    unfold lineL
    rw [List.length_append, List.length_singleton]
    omega
  have la := row_len4 hA
  have lb := row_len1 hB
  have hbn : bn ≤ 512 := by
    rw [← lb]
    dsimp only at hmc
    rcases hmc.2.2.2 with h | h | h | h | h | h
    · exact h.2.2.2.2.2
    · rw [h.2.2.2.2.1]; simp
    · rw [h.2.2.2.2.2]; simp
    · rw [h.2.2.2.1]; simp
    · rw [h.2.2.2]; simp
    · rw [h.2.2.2.2]; simp
  have hcm := hA.cm
  have hnc := hA.nc
  unfold maxLen at hcm
  clear hlen hmc
  rw [line_parts] at hll ⊢
  obtain ⟨W0, hW0⟩ : ∃ x, wordL (k : Int) = x := ⟨_, rfl⟩
  obtain ⟨D1, hD1⟩ : ∃ x, decL p = x := ⟨_, rfl⟩
  obtain ⟨D2, hD2⟩ : ∃ x, decL s = x := ⟨_, rfl⟩
  obtain ⟨D3, hD3⟩ : ∃ x, decL y = x := ⟨_, rfl⟩
  obtain ⟨X1, hX1⟩ : ∃ x, hexL bs = x := ⟨_, rfl⟩
  rw [hW0, hD1, hD2, hD3, hX1] at hll ⊢
  have HW0 := Lib.hid hW0
  have HD1 := Lib.hid (fun wz => hD1 ▸ rdec_any p wz hp.1)
  have HD2 := Lib.hid (fun wz => hD2 ▸ rdec_any s wz hp.2.1)
  have HD3 := Lib.hid (fun wz => hD3 ▸ rdec_any y wz hp.2.2)
  have HX1 := Lib.hid (fun wz h => hX1 ▸ rhex_any B bn bc bs wz h (by omega))
  have HK := Lib.hid hk.2
  have hk13 : k < 13 := by omega
  have HA := Lib.hid hA
  have HB := Lib.hid hB
  have HS := Lib.hid hs
  have HLA := Lib.hid la
  obtain ⟨W1, hW1⟩ : ∃ x, W0 ++ [32] = x := ⟨_, rfl⟩
  obtain ⟨S1, hS1⟩ : ∃ x, W1 ++ D1 = x := ⟨_, rfl⟩
  have hS1' : W0 ++ 32 :: D1 = S1 := by rw [← hS1, ← hW1]; simp
  rw [hS1'] at hll ⊢
  obtain ⟨S2, hS2⟩ : ∃ x, S1 ++ (if srcB k then 32 :: D2 else []) = x := ⟨_, rfl⟩
  rw [hS2] at hll ⊢
  obtain ⟨S3, hS3⟩ : ∃ x, S2 ++ (if layB k then 32 :: D3 else []) = x := ⟨_, rfl⟩
  rw [hS3] at hll ⊢
  obtain ⟨S4, hS4⟩ : ∃ x, S3 ++ (if (k : Int) = 2 then 32 :: nm else []) = x := ⟨_, rfl⟩
  rw [hS4] at hll ⊢
  have l1 : S1.length ≤ S2.length := by rw [← hS2, List.length_append]; omega
  have l2 : S2.length ≤ S3.length := by rw [← hS3, List.length_append]; omega
  have l3 : S3.length ≤ S4.length := by rw [← hS4, List.length_append]; omega
  have l4 : S4.length ≤ 1101 := by simp only [List.length_append] at hll; omega
  obtain ⟨RES, hRES⟩ : ∃ x, S4 ++ sp32 (ss.map fun x => hexL (enc 4 x)) ++ (if bs = [] then [] else 32 :: X1) ++ [10] = x := ⟨_, rfl⟩
  rw [hRES] at hll ⊢
  have HRES := Lib.hid hRES
  have l0 : W1.length ≤ S1.length := by rw [← hS1, List.length_append]; omega
  have a1 := fun wz => add_o W0 [32] W1 hW1 (by omega) wz
  have a2 := fun wz => add_o W1 D1 S1 hS1 (by omega) wz
  have a1' : ∀ wz : World, (Op.stringOp .add ⟨W0.toArray⟩ ⟨#[32]⟩).run Tryz.prog wz = .ok (.string ⟨W1.toArray⟩) wz := a1
  have HS2 := Lib.hid hS2
  have HS3 := Lib.hid hS3
  have HS4 := Lib.hid hS4
  have L4 := Lib.hid l4
  have L3 := Lib.hid (Nat.le_trans l3 l4)
  have L2 := Lib.hid (Nat.le_trans l2 (Nat.le_trans l3 l4))
  have HLL := Lib.hid hll
  have HB0 := Lib.hid hb0
  have HP := Lib.hid hp
  clear hRES hA hB hm hs la hW0 hD1 hD2 hD3 hX1 hW1 hS1 hS1' hS2 hS3 hS4 l0 l1 l2 l3 l4 a1 hll hk hp
  obtain ⟨x0, x1, x2, x3, x4, x5, x6⟩ := seven_cells hi0
  go_enter Tryz.func24, Tryz.ntmps24
  go_upto_region 1 with fail
  generalize w.alloc _ = w1 at *
  have HI0 := Lib.hid hi0
  clear hi0 hb0
  go_cut [3] from 6 to 15 (fun v3 wx => v3 = .string ⟨S1.toArray⟩ ∧ Below w1.heap.size w1 wx)
  case rest =>
    obtain ⟨rfl, hb1⟩ := hcut
    have HB1 := Lib.hid hb1
    clear hb1 x0 x1 x2 x3 x4 x5 x6 a1' a2
    obtain ⟨x0, x1, x2, x3, x4, x5, x6⟩ := seven_cells (blk_below HI0.out HB1.out)
    rename_i K hK
    refine hK _ _ ?_
    refine wp_seq_k fun K2 hK2 => ?_
    go_cut [3] from 16 to 24 (fun v3 wx => v3 = .string ⟨S2.toArray⟩ ∧ Below w1.heap.size w1 wx)
    case rest =>
      obtain ⟨rfl, hb2⟩ := hcut
      have HB2 := Lib.hid hb2
      clear hb2 x0 x1 x2 x3 x4 x5 x6 HB1
      obtain ⟨x0, x1, x2, x3, x4, x5, x6⟩ := seven_cells (blk_below HI0.out HB2.out)
      refine hK2 _ _ ?_
      refine wp_seq_k fun K4 hK4 => ?_
      go_cut [3] from 25 to 33 (fun v3 wx => v3 = .string ⟨S3.toArray⟩ ∧ Below w1.heap.size w1 wx)
      case rest =>
        obtain ⟨rfl, hb3⟩ := hcut
        have HB3 := Lib.hid hb3
        clear hb3 x0 x1 x2 x3 x4 x5 x6 HB2
        obtain ⟨x0, x1, x2, x3, x4, x5, x6⟩ := seven_cells (blk_below HI0.out HB3.out)
        refine hK4 _ _ ?_
        refine wp_seq_k fun K6 hK6 => ?_
        go_cut [3] from 34 to 41 (fun v3 wx => v3 = .string ⟨S4.toArray⟩ ∧ Below w1.heap.size w1 wx)
        case rest =>
          obtain ⟨rfl, hb4⟩ := hcut
          have HB4 := Lib.hid hb4
          clear hb4 x0 x1 x2 x3 x4 x5 x6 HB3
          obtain ⟨x0, x1, x2, x3, x4, x5, x6⟩ := seven_cells (blk_below HI0.out HB4.out)
          refine hK6 _ _ ?_
          obtain ⟨F, hF⟩ : ∃ F : Nat → List UInt8, F = fun j => S4 ++ sp32 ((ss.take j).map fun x => hexL (enc 4 x)) := ⟨_, rfl⟩
          have F0 : Hid (F 0 = S4) := Lib.hid (by rw [hF]; simp [sp32])
          have F1 : Hid (∀ j (h : j < ss.length), F j ++ 32 :: hexL (enc 4 ss[j]) = F (j + 1)) := Lib.hid (fun j h => by
            rw [hF]
            dsimp only
            rw [sp_take ss j h, List.append_assoc])
          have FE : Hid (S4 ++ sp32 (ss.map fun x => hexL (enc 4 x)) = F an) := Lib.hid (by
            rw [hF]
            dsimp only
            rw [List.take_of_length_le (by rw [HLA.out]; exact Nat.le_refl _)])
          have hr := HRES.out
          rw [FE.out] at hr
          have hll := HLL.out
          rw [← hr] at hll
          have FL : Hid (∀ j, j ≤ an → (F j).length ≤ 1101) := Lib.hid (fun j hj => by
            have key : ∀ d, d + j ≤ an → (F j).length ≤ (F (d + j)).length := by
              intro d
              induction d with
              | zero => intro _; rw [Nat.zero_add]; exact Nat.le_refl _
              | succ d ih =>
                intro hd
                have h1 := ih (by omega)
                have h2 := F1.out (d + j) (by rw [HLA.out]; omega)
                rw [show d + 1 + j = d + j + 1 by omega, ← h2, List.length_append]
                omega
            have := key (an - j) (by omega)
            rw [show an - j + j = an by omega] at this
            simp only [List.length_append] at hll
            omega)
          have HLL2 := Lib.hid HLL.out
          have HR2 := Lib.hid hr
          clear hF hll hr HRES
          go_upto_region 9 with fail
          clear x0 x1 x2 x3 x4 x5 x6
          go_loopw [3, 45] (fun v3 ix wr => ∃ j : Nat, ix = .int .i64 j ∧ j ≤ an ∧ v3 = .string ⟨(F j).toArray⟩ ∧ Hid (Below w1.heap.size w1 wr)) (fun _ ix _ => an - (intOf ix).toNat)
          case atStart => exact ⟨0, rfl, Nat.zero_le _, by rw [F0.out], HB4⟩
          case round =>
            obtain ⟨j, rfl, hj, rfl, HBR⟩ := hrel
            by_cases hlt : j < an
            · obtain ⟨ad, rfl, hc⟩ := rd_u32T ((HA.out.below HB0.out).below HBR.out).rd (k := j) (by rw [HLA.out]; exact hlt)
              have hx := HS.out _ (List.getElem_mem (l := ss) (n := j) (by rw [HLA.out]; exact hlt))
              have hf := F1.out j (by rw [HLA.out]; exact hlt)
              have hfl := FL.out (j + 1) hlt
              obtain ⟨x, ex⟩ : ∃ x, ss[j]'(by rw [HLA.out]; exact hlt) = x := ⟨_, rfl⟩
              simp only [ex] at hc hx hf
              have hby : ∀ wz, Calls Tryz.prog 46 #[.int .i64 4, .int .u64 (x : Int)] wz fun e w' => ∃ A c, e = .returned (.slice A 4 c) ∧ w'.ownsRow wz.heap.size 5 1 (.slice A 4 c) 4 (bys (enc 4 x)) ∧ Below wz.heap.size wz w' := fun wz => rbytes_any 4 x wz (by omega) (by omega)
              have HBY := Lib.hid hby
              have HHX := Lib.hid (fun A c wz h => rhex_any A 4 c (enc 4 x) wz h (by omega))
              obtain ⟨H, hH⟩ : ∃ H, hexL (enc 4 x) = H := ⟨_, rfl⟩
              rw [hH] at hf HHX
              obtain ⟨T, hT⟩ : ∃ T, 32 :: H = T := ⟨_, rfl⟩
              rw [hT] at hf
              obtain ⟨G0, hG0⟩ : ∃ G, F j = G := ⟨_, rfl⟩
              obtain ⟨G1, hG1⟩ : ∃ G, F (j + 1) = G := ⟨_, rfl⟩
              rw [hG0, hG1] at hf
              rw [hG1] at hfl
              rw [hG0]
              have tl : T.length ≤ G1.length := by rw [← hf, List.length_append]; omega
              have b1 := fun wz => add_sp H T hT (by omega) wz
              have b2 := fun wz => add_o G0 T G1 hf (by omega) wz
              have HG1 := Lib.hid hG1
              clear ex hH hT hf tl hfl hG0 hG1 hby
              go_wp2_with (first
                | (go_at_call 46; (with_reducible refine (HBY.out _).mono ?_); rintro e w5 ⟨A5, c5, rfl, ho5, hb5⟩; have HO5 := Lib.hid (own_rowT 1 ho5); have HB5 := Lib.hid (HBR.out.trans (hb5.mono HBR.out.size)); clear ho5)
                | (go_at_call 45; (with_reducible refine (HHX.out A5 c5 _ HO5.out).mono ?_); rintro e w6 ⟨rfl, hb6⟩; have HB6 := Lib.hid (HB5.out.trans (hb6.mono HB5.out.size))))
              exact ⟨⟨j + 1, rfl, hlt, by rw [HG1.out], HB6⟩, by simp [intOf]; omega⟩
            · obtain rfl : j = an := by omega
              clear hlt
              obtain ⟨x0, x1, x2, x3, x4, x5, x6⟩ := seven_cells (blk_below HI0.out HBR.out)
              have hll := HLL2.out
              have hr := HR2.out
              obtain ⟨G0, hG0⟩ : ∃ G, F j = G := ⟨_, rfl⟩
              rw [hG0] at hr ⊢
              clear hG0 HLL2 HR2 FL FE F0 F1
              by_cases hb0 : bn = 0
              · have hbs : bs = [] := List.eq_nil_of_length_eq_zero (by omega)
                rw [if_pos hbs, List.append_nil] at hr
                have b3 : ∀ wz : World, (Op.stringOp .add ⟨G0.toArray⟩ ⟨#[10]⟩).run Tryz.prog wz = .ok (.string ⟨RES.toArray⟩) wz := fun wz => add_o G0 [10] RES hr (by omega) wz
                subst hb0
                clear hbs hr hll lb
                go_wp2
                go_ret
                exact ⟨rfl, HB0.out.trans (HBR.out.mono HB0.out.size)⟩
              · have hbs : ¬ bs = [] := fun h => hb0 (by rw [← lb, h]; rfl)
                rw [if_neg hbs] at hr
                obtain ⟨T, hT⟩ : ∃ T, 32 :: X1 = T := ⟨_, rfl⟩
                rw [hT] at hr
                obtain ⟨G1, hG1⟩ : ∃ G, G0 ++ T = G := ⟨_, rfl⟩
                rw [hG1] at hr
                have g1 : G1.length ≤ RES.length := by rw [← hr, List.length_append]; omega
                have g2 : T.length ≤ G1.length := by rw [← hG1, List.length_append]; omega
                have b1 := fun wz => add_sp X1 T hT (by omega) wz
                have b2 := fun wz => add_o G0 T G1 hG1 (by omega) wz
                have b3 : ∀ wz : World, (Op.stringOp .add ⟨G1.toArray⟩ ⟨#[10]⟩).run Tryz.prog wz = .ok (.string ⟨RES.toArray⟩) wz := fun wz => add_o G1 [10] RES hr (by omega) wz
                have hbp : 0 < bn := by omega
                clear hbs hr hll lb hT hG1 g1 g2 hb0
                go_wp2_with (go_at_call 45; (with_reducible refine (HX1.out _ ((HB.out.below HB0.out).below HBR.out)).mono ?_); rintro e w6 ⟨rfl, hb6⟩; have HB6 := Lib.hid (HBR.out.trans (hb6.mono HBR.out.size)))
                go_ret
                exact ⟨rfl, HB0.out.trans (HB6.out.mono HB0.out.size)⟩
        by_cases k2 : k = 2
        · subst k2
          have hS := HS4.out
          rw [if_pos (show ((2 : Nat) : Int) = 2 from rfl)] at hS
          obtain ⟨T, hT⟩ : ∃ T, 32 :: nm = T := ⟨_, rfl⟩
          rw [hT] at hS
          have hl := L4.out
          have tl : T.length ≤ S4.length := by rw [← hS, List.length_append]; omega
          have b1 := fun wz => add_sp nm T hT (by omega) wz
          have b2 := fun wz => add_o S3 T S4 hS (by omega) wz
          clear hS hT hl tl
          go_wp2
          go_meet
          exact ⟨rfl, HB3.out⟩
        · have hS := HS4.out
          rw [if_neg (by omega), List.append_nil] at hS
          have HS := Lib.hid hS
          have e1 : ((k : Int) == 2) = false := by simp; omega
          have e2 : decide ((k : Int) = 2) = false := decide_eq_false (by omega)
          clear hS
          go_wp2
          go_meet
          exact ⟨by rw [HS.out], HB3.out⟩
      cases hly : layB (k : Int) with
      | true =>
        have HLY := Lib.hid hly
        have hS := HS3.out
        rw [hly, if_pos rfl] at hS
        obtain ⟨T, hT⟩ : ∃ T, 32 :: D3 = T := ⟨_, rfl⟩
        rw [hT] at hS
        have hl := L3.out
        have tl : T.length ≤ S3.length := by rw [← hS, List.length_append]; omega
        have b1 := fun wz => add_sp D3 T hT (by omega) wz
        have b2 := fun wz => add_o S2 T S3 hS (by omega) wz
        clear hS hT hl tl hly
        go_wp2_with (first | (go_at_call 19; refine (rlay_any k _).mono ?_; rintro e w2 ⟨rfl, rfl⟩; rw [HLY.out]) | (go_at_call 44; (with_reducible refine (HD3.out _).mono ?_); rintro e wb ⟨rfl, rfl⟩))
        go_meet
        exact ⟨rfl, HB2.out⟩
      | false =>
        have HLY := Lib.hid hly
        have hS := HS3.out
        rw [hly, if_neg (by decide), List.append_nil] at hS
        have HS := Lib.hid hS
        clear hS hly
        go_wp2_with (go_at_call 19; refine (rlay_any k _).mono ?_; rintro e w2 ⟨rfl, rfl⟩; rw [HLY.out])
        go_meet
        exact ⟨by rw [HS.out], HB2.out⟩
    cases hsr : srcB (k : Int) with
    | true =>
      have HSR := Lib.hid hsr
      have hS := HS2.out
      rw [hsr, if_pos rfl] at hS
      obtain ⟨T, hT⟩ : ∃ T, 32 :: D2 = T := ⟨_, rfl⟩
      rw [hT] at hS
      have hl := L2.out
      have tl : T.length ≤ S2.length := by rw [← hS, List.length_append]; omega
      have b1 := fun wz => add_sp D2 T hT (by omega) wz
      have b2 := fun wz => add_o S1 T S2 hS (by omega) wz
      clear hS hT hl tl hsr
      go_wp2_with (first | (go_at_call 18; refine (rsrc_any k _).mono ?_; rintro e w2 ⟨rfl, rfl⟩; rw [HSR.out]) | (go_at_call 44; (with_reducible refine (HD2.out _).mono ?_); rintro e wb ⟨rfl, rfl⟩))
      go_meet
      exact ⟨rfl, HB1.out⟩
    | false =>
      have HSR := Lib.hid hsr
      have hS := HS2.out
      rw [hsr, if_neg (by decide), List.append_nil] at hS
      have HS := Lib.hid hS
      clear hS hsr
      go_wp2_with (go_at_call 18; refine (rsrc_any k _).mono ?_; rintro e w2 ⟨rfl, rfl⟩; rw [HSR.out])
      go_meet
      exact ⟨by rw [HS.out], HB1.out⟩
  refine region_plan (calmB_sound _) (.fork [1, 6] (.fork [2] (.fork [7, 0, 3] (.leaf [8, 4, 5, 9, 10]) (.check [4] 5 (.leaf [5, 8, 9, 10]))) (.fork [0, 3] (.fork [7] (.leaf [8, 4, 5, 9, 10]) (.check [4] 5 (.leaf [5, 8, 9, 10]))) (.check [4] 5 (.leaf [5, 7, 8, 9, 10])))) (.fork [] (.fork [7] (.fork [2, 0, 3] (.leaf [8, 4, 5, 9, 10]) (.check [4] 5 (.leaf [5, 8, 9, 10]))) (.fork [0] (.leaf [8, 2, 3, 4, 5, 9, 10]) (.fork [2, 3] (.leaf [8, 4, 5, 9, 10]) (.check [4] 5 (.leaf [5, 8, 9, 10]))))) (.fork [0] (.fork [7] (.leaf [8, 2, 3, 4, 5, 9, 10]) (.fork [2, 3] (.leaf [8, 4, 5, 9, 10]) (.check [4] 5 (.leaf [5, 8, 9, 10])))) (.fork [2, 3] (.fork [7] (.leaf [8, 4, 5, 9, 10]) (.check [4] 5 (.leaf [5, 8, 9, 10]))) (.check [4] 5 (.leaf [5, 7, 8, 9, 10])))))) (by kernel_rfl) (by kernel_rfl) (by kernel_rfl) ?_
  have hbd := Lib.hid ((Below.refl w1.heap.size w1).drew)
  have hid := Lib.hid (blk_below HI0.out hbd.out)
  clear x0 x1 x2 x3 x4 x5 x6
  obtain ⟨x0, x1, x2, x3, x4, x5, x6⟩ := seven_cells hid.out
  generalize w1.drew = wd at *
  refine wpPlan_fork fun PL0 hPL0 => ?_
  simp only [List.filterMap_cons, List.filterMap_nil, List.getElem?_toArray, List.getElem?_cons_succ, List.getElem?_cons_zero]
  change wpList _ _ _ [_, _] _ _
  go_wp2_with ((first
        | (go_at_call 43; (with_reducible refine (rwords_o _).mono ?_); rintro e wa ⟨g, rfl, hga, hba⟩; have hBa := hbd.out.trans (hba.mono hbd.out.size); obtain ⟨z0, z1, z2, z3, z4, z5, z6⟩ := seven_cells (blk_below hid.out hba); have hca := words_cell hga HK.out; rw [HW0.out] at hca)
        | (go_at_call 44; (with_reducible refine (HD1.out _).mono ?_); rintro e wb ⟨rfl, rfl⟩)))
  refine hPL0 _ _ ?_ ?_
  · refine wpPlan_fork fun PL1 hPL1 => ?_
    simp only [List.filterMap_cons, List.filterMap_nil, List.getElem?_toArray, List.getElem?_cons_succ, List.getElem?_cons_zero]
    change wpList _ _ _ [_] _ _
    go_wp2_with ((first
        | (go_at_call 43; (with_reducible refine (rwords_o _).mono ?_); rintro e wa ⟨g, rfl, hga, hba⟩; have hBa := hbd.out.trans (hba.mono hbd.out.size); obtain ⟨z0, z1, z2, z3, z4, z5, z6⟩ := seven_cells (blk_below hid.out hba); have hca := words_cell hga HK.out; rw [HW0.out] at hca)
        | (go_at_call 44; (with_reducible refine (HD1.out _).mono ?_); rintro e wb ⟨rfl, rfl⟩)))
    refine hPL1 _ _ ?_ ?_
    · refine wpPlan_fork fun PL2 hPL2 => ?_
      simp only [List.filterMap_cons, List.filterMap_nil, List.getElem?_toArray, List.getElem?_cons_succ, List.getElem?_cons_zero]
      change wpList _ _ _ [_, _, _] _ _
      go_wp2_with ((first
        | (go_at_call 43; (with_reducible refine (rwords_o _).mono ?_); rintro e wa ⟨g, rfl, hga, hba⟩; have hBa := hbd.out.trans (hba.mono hbd.out.size); obtain ⟨z0, z1, z2, z3, z4, z5, z6⟩ := seven_cells (blk_below hid.out hba); have hca := words_cell hga HK.out; rw [HW0.out] at hca)
        | (go_at_call 44; (with_reducible refine (HD1.out _).mono ?_); rintro e wb ⟨rfl, rfl⟩)))
      refine hPL2 _ _ ?_ ?_
      · refine wpPlan_leaf fun PL3 hPL3 => ?_
        simp only [List.filterMap_cons, List.filterMap_nil, List.getElem?_toArray, List.getElem?_cons_succ, List.getElem?_cons_zero]
        change wpList _ _ _ [_, _, _, _, _] _ _
        go_wp2_with ((first
        | (go_at_call 43; (with_reducible refine (rwords_o _).mono ?_); rintro e wa ⟨g, rfl, hga, hba⟩; have hBa := hbd.out.trans (hba.mono hbd.out.size); obtain ⟨z0, z1, z2, z3, z4, z5, z6⟩ := seven_cells (blk_below hid.out hba); have hca := words_cell hga HK.out; rw [HW0.out] at hca)
        | (go_at_call 44; (with_reducible refine (HD1.out _).mono ?_); rintro e wb ⟨rfl, rfl⟩)))
        go_meet
        exact ⟨rfl, hBa⟩
      · refine wpPlan_check fun PL3 hPL3 => ?_
        simp only [List.filterMap_cons, List.filterMap_nil, List.getElem?_toArray, List.getElem?_cons_succ, List.getElem?_cons_zero]
        change wpList _ _ _ [_] _ _
        go_wp2_with ((first
        | (go_at_call 43; (with_reducible refine (rwords_o _).mono ?_); rintro e wa ⟨g, rfl, hga, hba⟩; have hBa := hbd.out.trans (hba.mono hbd.out.size); obtain ⟨z0, z1, z2, z3, z4, z5, z6⟩ := seven_cells (blk_below hid.out hba); have hca := words_cell hga HK.out; rw [HW0.out] at hca)
        | (go_at_call 44; (with_reducible refine (HD1.out _).mono ?_); rintro e wb ⟨rfl, rfl⟩)))
        refine hPL3 _ _ (by first | exact fun _ => .inl ⟨_, _, _, _, rfl, rfl⟩ | exact fun _ => ⟨_, _, rfl⟩ | exact fun _ => .inr ⟨_, _, rfl, rfl⟩ | exact .inr ⟨_, _, rfl, rfl⟩ | exact fun _ => .inr (.inl ⟨_, _, rfl, rfl⟩) | exact .inr (.inl ⟨_, _, rfl, rfl⟩)) ?_
        refine wpPlan_leaf fun PL4 hPL4 => ?_
        simp only [List.filterMap_cons, List.filterMap_nil, List.getElem?_toArray, List.getElem?_cons_succ, List.getElem?_cons_zero]
        change wpList _ _ _ [_, _, _, _] _ _
        go_wp2_with ((first
        | (go_at_call 43; (with_reducible refine (rwords_o _).mono ?_); rintro e wa ⟨g, rfl, hga, hba⟩; have hBa := hbd.out.trans (hba.mono hbd.out.size); obtain ⟨z0, z1, z2, z3, z4, z5, z6⟩ := seven_cells (blk_below hid.out hba); have hca := words_cell hga HK.out; rw [HW0.out] at hca)
        | (go_at_call 44; (with_reducible refine (HD1.out _).mono ?_); rintro e wb ⟨rfl, rfl⟩)))
        go_meet
        exact ⟨rfl, hBa⟩
    · refine wpPlan_fork fun PL2 hPL2 => ?_
      simp only [List.filterMap_cons, List.filterMap_nil, List.getElem?_toArray, List.getElem?_cons_succ, List.getElem?_cons_zero]
      change wpList _ _ _ [_, _] _ _
      go_wp2_with ((first
        | (go_at_call 43; (with_reducible refine (rwords_o _).mono ?_); rintro e wa ⟨g, rfl, hga, hba⟩; have hBa := hbd.out.trans (hba.mono hbd.out.size); obtain ⟨z0, z1, z2, z3, z4, z5, z6⟩ := seven_cells (blk_below hid.out hba); have hca := words_cell hga HK.out; rw [HW0.out] at hca)
        | (go_at_call 44; (with_reducible refine (HD1.out _).mono ?_); rintro e wb ⟨rfl, rfl⟩)))
      refine hPL2 _ _ ?_ ?_
      · refine wpPlan_fork fun PL3 hPL3 => ?_
        simp only [List.filterMap_cons, List.filterMap_nil, List.getElem?_toArray, List.getElem?_cons_succ, List.getElem?_cons_zero]
        change wpList _ _ _ [_] _ _
        go_wp2_with ((first
        | (go_at_call 43; (with_reducible refine (rwords_o _).mono ?_); rintro e wa ⟨g, rfl, hga, hba⟩; have hBa := hbd.out.trans (hba.mono hbd.out.size); obtain ⟨z0, z1, z2, z3, z4, z5, z6⟩ := seven_cells (blk_below hid.out hba); have hca := words_cell hga HK.out; rw [HW0.out] at hca)
        | (go_at_call 44; (with_reducible refine (HD1.out _).mono ?_); rintro e wb ⟨rfl, rfl⟩)))
        refine hPL3 _ _ ?_ ?_
        · refine wpPlan_leaf fun PL4 hPL4 => ?_
          simp only [List.filterMap_cons, List.filterMap_nil, List.getElem?_toArray, List.getElem?_cons_succ, List.getElem?_cons_zero]
          change wpList _ _ _ [_, _, _, _, _] _ _
          go_wp2_with ((first
        | (go_at_call 43; (with_reducible refine (rwords_o _).mono ?_); rintro e wa ⟨g, rfl, hga, hba⟩; have hBa := hbd.out.trans (hba.mono hbd.out.size); obtain ⟨z0, z1, z2, z3, z4, z5, z6⟩ := seven_cells (blk_below hid.out hba); have hca := words_cell hga HK.out; rw [HW0.out] at hca)
        | (go_at_call 44; (with_reducible refine (HD1.out _).mono ?_); rintro e wb ⟨rfl, rfl⟩)))
          go_meet
          exact ⟨rfl, hBa⟩
        · refine wpPlan_check fun PL4 hPL4 => ?_
          simp only [List.filterMap_cons, List.filterMap_nil, List.getElem?_toArray, List.getElem?_cons_succ, List.getElem?_cons_zero]
          change wpList _ _ _ [_] _ _
          go_wp2_with ((first
        | (go_at_call 43; (with_reducible refine (rwords_o _).mono ?_); rintro e wa ⟨g, rfl, hga, hba⟩; have hBa := hbd.out.trans (hba.mono hbd.out.size); obtain ⟨z0, z1, z2, z3, z4, z5, z6⟩ := seven_cells (blk_below hid.out hba); have hca := words_cell hga HK.out; rw [HW0.out] at hca)
        | (go_at_call 44; (with_reducible refine (HD1.out _).mono ?_); rintro e wb ⟨rfl, rfl⟩)))
          refine hPL4 _ _ (by first | exact fun _ => .inl ⟨_, _, _, _, rfl, rfl⟩ | exact fun _ => ⟨_, _, rfl⟩ | exact fun _ => .inr ⟨_, _, rfl, rfl⟩ | exact .inr ⟨_, _, rfl, rfl⟩ | exact fun _ => .inr (.inl ⟨_, _, rfl, rfl⟩) | exact .inr (.inl ⟨_, _, rfl, rfl⟩)) ?_
          refine wpPlan_leaf fun PL5 hPL5 => ?_
          simp only [List.filterMap_cons, List.filterMap_nil, List.getElem?_toArray, List.getElem?_cons_succ, List.getElem?_cons_zero]
          change wpList _ _ _ [_, _, _, _] _ _
          go_wp2_with ((first
        | (go_at_call 43; (with_reducible refine (rwords_o _).mono ?_); rintro e wa ⟨g, rfl, hga, hba⟩; have hBa := hbd.out.trans (hba.mono hbd.out.size); obtain ⟨z0, z1, z2, z3, z4, z5, z6⟩ := seven_cells (blk_below hid.out hba); have hca := words_cell hga HK.out; rw [HW0.out] at hca)
        | (go_at_call 44; (with_reducible refine (HD1.out _).mono ?_); rintro e wb ⟨rfl, rfl⟩)))
          go_meet
          exact ⟨rfl, hBa⟩
      · refine wpPlan_check fun PL3 hPL3 => ?_
        simp only [List.filterMap_cons, List.filterMap_nil, List.getElem?_toArray, List.getElem?_cons_succ, List.getElem?_cons_zero]
        change wpList _ _ _ [_] _ _
        go_wp2_with ((first
        | (go_at_call 43; (with_reducible refine (rwords_o _).mono ?_); rintro e wa ⟨g, rfl, hga, hba⟩; have hBa := hbd.out.trans (hba.mono hbd.out.size); obtain ⟨z0, z1, z2, z3, z4, z5, z6⟩ := seven_cells (blk_below hid.out hba); have hca := words_cell hga HK.out; rw [HW0.out] at hca)
        | (go_at_call 44; (with_reducible refine (HD1.out _).mono ?_); rintro e wb ⟨rfl, rfl⟩)))
        refine hPL3 _ _ (by first | exact fun _ => .inl ⟨_, _, _, _, rfl, rfl⟩ | exact fun _ => ⟨_, _, rfl⟩ | exact fun _ => .inr ⟨_, _, rfl, rfl⟩ | exact .inr ⟨_, _, rfl, rfl⟩ | exact fun _ => .inr (.inl ⟨_, _, rfl, rfl⟩) | exact .inr (.inl ⟨_, _, rfl, rfl⟩)) ?_
        refine wpPlan_leaf fun PL4 hPL4 => ?_
        simp only [List.filterMap_cons, List.filterMap_nil, List.getElem?_toArray, List.getElem?_cons_succ, List.getElem?_cons_zero]
        change wpList _ _ _ [_, _, _, _, _] _ _
        go_wp2_with ((first
        | (go_at_call 43; (with_reducible refine (rwords_o _).mono ?_); rintro e wa ⟨g, rfl, hga, hba⟩; have hBa := hbd.out.trans (hba.mono hbd.out.size); obtain ⟨z0, z1, z2, z3, z4, z5, z6⟩ := seven_cells (blk_below hid.out hba); have hca := words_cell hga HK.out; rw [HW0.out] at hca)
        | (go_at_call 44; (with_reducible refine (HD1.out _).mono ?_); rintro e wb ⟨rfl, rfl⟩)))
        go_meet
        exact ⟨rfl, hBa⟩
  · refine wpPlan_fork fun PL1 hPL1 => ?_
    simp only [List.filterMap_cons, List.filterMap_nil, List.getElem?_toArray, List.getElem?_cons_succ, List.getElem?_cons_zero]
    go_wp2_with ((first
        | (go_at_call 43; (with_reducible refine (rwords_o _).mono ?_); rintro e wa ⟨g, rfl, hga, hba⟩; have hBa := hbd.out.trans (hba.mono hbd.out.size); obtain ⟨z0, z1, z2, z3, z4, z5, z6⟩ := seven_cells (blk_below hid.out hba); have hca := words_cell hga HK.out; rw [HW0.out] at hca)
        | (go_at_call 44; (with_reducible refine (HD1.out _).mono ?_); rintro e wb ⟨rfl, rfl⟩)))
    refine hPL1 _ _ ?_ ?_
    · refine wpPlan_fork fun PL2 hPL2 => ?_
      simp only [List.filterMap_cons, List.filterMap_nil, List.getElem?_toArray, List.getElem?_cons_succ, List.getElem?_cons_zero]
      change wpList _ _ _ [_] _ _
      go_wp2_with ((first
        | (go_at_call 43; (with_reducible refine (rwords_o _).mono ?_); rintro e wa ⟨g, rfl, hga, hba⟩; have hBa := hbd.out.trans (hba.mono hbd.out.size); obtain ⟨z0, z1, z2, z3, z4, z5, z6⟩ := seven_cells (blk_below hid.out hba); have hca := words_cell hga HK.out; rw [HW0.out] at hca)
        | (go_at_call 44; (with_reducible refine (HD1.out _).mono ?_); rintro e wb ⟨rfl, rfl⟩)))
      refine hPL2 _ _ ?_ ?_
      · refine wpPlan_fork fun PL3 hPL3 => ?_
        simp only [List.filterMap_cons, List.filterMap_nil, List.getElem?_toArray, List.getElem?_cons_succ, List.getElem?_cons_zero]
        change wpList _ _ _ [_, _, _] _ _
        go_wp2_with ((first
        | (go_at_call 43; (with_reducible refine (rwords_o _).mono ?_); rintro e wa ⟨g, rfl, hga, hba⟩; have hBa := hbd.out.trans (hba.mono hbd.out.size); obtain ⟨z0, z1, z2, z3, z4, z5, z6⟩ := seven_cells (blk_below hid.out hba); have hca := words_cell hga HK.out; rw [HW0.out] at hca)
        | (go_at_call 44; (with_reducible refine (HD1.out _).mono ?_); rintro e wb ⟨rfl, rfl⟩)))
        refine hPL3 _ _ ?_ ?_
        · refine wpPlan_leaf fun PL4 hPL4 => ?_
          simp only [List.filterMap_cons, List.filterMap_nil, List.getElem?_toArray, List.getElem?_cons_succ, List.getElem?_cons_zero]
          change wpList _ _ _ [_, _, _, _, _] _ _
          go_wp2_with ((first
        | (go_at_call 43; (with_reducible refine (rwords_o _).mono ?_); rintro e wa ⟨g, rfl, hga, hba⟩; have hBa := hbd.out.trans (hba.mono hbd.out.size); obtain ⟨z0, z1, z2, z3, z4, z5, z6⟩ := seven_cells (blk_below hid.out hba); have hca := words_cell hga HK.out; rw [HW0.out] at hca)
        | (go_at_call 44; (with_reducible refine (HD1.out _).mono ?_); rintro e wb ⟨rfl, rfl⟩)))
          go_meet
          exact ⟨rfl, hBa⟩
        · refine wpPlan_check fun PL4 hPL4 => ?_
          simp only [List.filterMap_cons, List.filterMap_nil, List.getElem?_toArray, List.getElem?_cons_succ, List.getElem?_cons_zero]
          change wpList _ _ _ [_] _ _
          go_wp2_with ((first
        | (go_at_call 43; (with_reducible refine (rwords_o _).mono ?_); rintro e wa ⟨g, rfl, hga, hba⟩; have hBa := hbd.out.trans (hba.mono hbd.out.size); obtain ⟨z0, z1, z2, z3, z4, z5, z6⟩ := seven_cells (blk_below hid.out hba); have hca := words_cell hga HK.out; rw [HW0.out] at hca)
        | (go_at_call 44; (with_reducible refine (HD1.out _).mono ?_); rintro e wb ⟨rfl, rfl⟩)))
          refine hPL4 _ _ (by first | exact fun _ => .inl ⟨_, _, _, _, rfl, rfl⟩ | exact fun _ => ⟨_, _, rfl⟩ | exact fun _ => .inr ⟨_, _, rfl, rfl⟩ | exact .inr ⟨_, _, rfl, rfl⟩ | exact fun _ => .inr (.inl ⟨_, _, rfl, rfl⟩) | exact .inr (.inl ⟨_, _, rfl, rfl⟩)) ?_
          refine wpPlan_leaf fun PL5 hPL5 => ?_
          simp only [List.filterMap_cons, List.filterMap_nil, List.getElem?_toArray, List.getElem?_cons_succ, List.getElem?_cons_zero]
          change wpList _ _ _ [_, _, _, _] _ _
          go_wp2_with ((first
        | (go_at_call 43; (with_reducible refine (rwords_o _).mono ?_); rintro e wa ⟨g, rfl, hga, hba⟩; have hBa := hbd.out.trans (hba.mono hbd.out.size); obtain ⟨z0, z1, z2, z3, z4, z5, z6⟩ := seven_cells (blk_below hid.out hba); have hca := words_cell hga HK.out; rw [HW0.out] at hca)
        | (go_at_call 44; (with_reducible refine (HD1.out _).mono ?_); rintro e wb ⟨rfl, rfl⟩)))
          go_meet
          exact ⟨rfl, hBa⟩
      · refine wpPlan_fork fun PL3 hPL3 => ?_
        simp only [List.filterMap_cons, List.filterMap_nil, List.getElem?_toArray, List.getElem?_cons_succ, List.getElem?_cons_zero]
        change wpList _ _ _ [_] _ _
        go_wp2_with ((first
        | (go_at_call 43; (with_reducible refine (rwords_o _).mono ?_); rintro e wa ⟨g, rfl, hga, hba⟩; have hBa := hbd.out.trans (hba.mono hbd.out.size); obtain ⟨z0, z1, z2, z3, z4, z5, z6⟩ := seven_cells (blk_below hid.out hba); have hca := words_cell hga HK.out; rw [HW0.out] at hca)
        | (go_at_call 44; (with_reducible refine (HD1.out _).mono ?_); rintro e wb ⟨rfl, rfl⟩)))
        refine hPL3 _ _ ?_ ?_
        · refine wpPlan_leaf fun PL4 hPL4 => ?_
          simp only [List.filterMap_cons, List.filterMap_nil, List.getElem?_toArray, List.getElem?_cons_succ, List.getElem?_cons_zero]
          change wpList _ _ _ [_, _, _, _, _, _, _] _ _
          go_wp2_with ((first
        | (go_at_call 43; (with_reducible refine (rwords_o _).mono ?_); rintro e wa ⟨g, rfl, hga, hba⟩; have hBa := hbd.out.trans (hba.mono hbd.out.size); obtain ⟨z0, z1, z2, z3, z4, z5, z6⟩ := seven_cells (blk_below hid.out hba); have hca := words_cell hga HK.out; rw [HW0.out] at hca)
        | (go_at_call 44; (with_reducible refine (HD1.out _).mono ?_); rintro e wb ⟨rfl, rfl⟩)))
          go_meet
          exact ⟨rfl, hBa⟩
        · refine wpPlan_fork fun PL4 hPL4 => ?_
          simp only [List.filterMap_cons, List.filterMap_nil, List.getElem?_toArray, List.getElem?_cons_succ, List.getElem?_cons_zero]
          change wpList _ _ _ [_, _] _ _
          go_wp2_with ((first
        | (go_at_call 43; (with_reducible refine (rwords_o _).mono ?_); rintro e wa ⟨g, rfl, hga, hba⟩; have hBa := hbd.out.trans (hba.mono hbd.out.size); obtain ⟨z0, z1, z2, z3, z4, z5, z6⟩ := seven_cells (blk_below hid.out hba); have hca := words_cell hga HK.out; rw [HW0.out] at hca)
        | (go_at_call 44; (with_reducible refine (HD1.out _).mono ?_); rintro e wb ⟨rfl, rfl⟩)))
          refine hPL4 _ _ ?_ ?_
          · refine wpPlan_leaf fun PL5 hPL5 => ?_
            simp only [List.filterMap_cons, List.filterMap_nil, List.getElem?_toArray, List.getElem?_cons_succ, List.getElem?_cons_zero]
            change wpList _ _ _ [_, _, _, _, _] _ _
            go_wp2_with ((first
        | (go_at_call 43; (with_reducible refine (rwords_o _).mono ?_); rintro e wa ⟨g, rfl, hga, hba⟩; have hBa := hbd.out.trans (hba.mono hbd.out.size); obtain ⟨z0, z1, z2, z3, z4, z5, z6⟩ := seven_cells (blk_below hid.out hba); have hca := words_cell hga HK.out; rw [HW0.out] at hca)
        | (go_at_call 44; (with_reducible refine (HD1.out _).mono ?_); rintro e wb ⟨rfl, rfl⟩)))
            go_meet
            exact ⟨rfl, hBa⟩
          · refine wpPlan_check fun PL5 hPL5 => ?_
            simp only [List.filterMap_cons, List.filterMap_nil, List.getElem?_toArray, List.getElem?_cons_succ, List.getElem?_cons_zero]
            change wpList _ _ _ [_] _ _
            go_wp2_with ((first
        | (go_at_call 43; (with_reducible refine (rwords_o _).mono ?_); rintro e wa ⟨g, rfl, hga, hba⟩; have hBa := hbd.out.trans (hba.mono hbd.out.size); obtain ⟨z0, z1, z2, z3, z4, z5, z6⟩ := seven_cells (blk_below hid.out hba); have hca := words_cell hga HK.out; rw [HW0.out] at hca)
        | (go_at_call 44; (with_reducible refine (HD1.out _).mono ?_); rintro e wb ⟨rfl, rfl⟩)))
            refine hPL5 _ _ (by first | exact fun _ => .inl ⟨_, _, _, _, rfl, rfl⟩ | exact fun _ => ⟨_, _, rfl⟩ | exact fun _ => .inr ⟨_, _, rfl, rfl⟩ | exact .inr ⟨_, _, rfl, rfl⟩ | exact fun _ => .inr (.inl ⟨_, _, rfl, rfl⟩) | exact .inr (.inl ⟨_, _, rfl, rfl⟩)) ?_
            refine wpPlan_leaf fun PL6 hPL6 => ?_
            simp only [List.filterMap_cons, List.filterMap_nil, List.getElem?_toArray, List.getElem?_cons_succ, List.getElem?_cons_zero]
            change wpList _ _ _ [_, _, _, _] _ _
            go_wp2_with ((first
        | (go_at_call 43; (with_reducible refine (rwords_o _).mono ?_); rintro e wa ⟨g, rfl, hga, hba⟩; have hBa := hbd.out.trans (hba.mono hbd.out.size); obtain ⟨z0, z1, z2, z3, z4, z5, z6⟩ := seven_cells (blk_below hid.out hba); have hca := words_cell hga HK.out; rw [HW0.out] at hca)
        | (go_at_call 44; (with_reducible refine (HD1.out _).mono ?_); rintro e wb ⟨rfl, rfl⟩)))
            go_meet
            exact ⟨rfl, hBa⟩
    · refine wpPlan_fork fun PL2 hPL2 => ?_
      simp only [List.filterMap_cons, List.filterMap_nil, List.getElem?_toArray, List.getElem?_cons_succ, List.getElem?_cons_zero]
      change wpList _ _ _ [_] _ _
      go_wp2_with ((first
        | (go_at_call 43; (with_reducible refine (rwords_o _).mono ?_); rintro e wa ⟨g, rfl, hga, hba⟩; have hBa := hbd.out.trans (hba.mono hbd.out.size); obtain ⟨z0, z1, z2, z3, z4, z5, z6⟩ := seven_cells (blk_below hid.out hba); have hca := words_cell hga HK.out; rw [HW0.out] at hca)
        | (go_at_call 44; (with_reducible refine (HD1.out _).mono ?_); rintro e wb ⟨rfl, rfl⟩)))
      refine hPL2 _ _ ?_ ?_
      · refine wpPlan_fork fun PL3 hPL3 => ?_
        simp only [List.filterMap_cons, List.filterMap_nil, List.getElem?_toArray, List.getElem?_cons_succ, List.getElem?_cons_zero]
        change wpList _ _ _ [_] _ _
        go_wp2_with ((first
        | (go_at_call 43; (with_reducible refine (rwords_o _).mono ?_); rintro e wa ⟨g, rfl, hga, hba⟩; have hBa := hbd.out.trans (hba.mono hbd.out.size); obtain ⟨z0, z1, z2, z3, z4, z5, z6⟩ := seven_cells (blk_below hid.out hba); have hca := words_cell hga HK.out; rw [HW0.out] at hca)
        | (go_at_call 44; (with_reducible refine (HD1.out _).mono ?_); rintro e wb ⟨rfl, rfl⟩)))
        refine hPL3 _ _ ?_ ?_
        · refine wpPlan_leaf fun PL4 hPL4 => ?_
          simp only [List.filterMap_cons, List.filterMap_nil, List.getElem?_toArray, List.getElem?_cons_succ, List.getElem?_cons_zero]
          change wpList _ _ _ [_, _, _, _, _, _, _] _ _
          go_wp2_with ((first
        | (go_at_call 43; (with_reducible refine (rwords_o _).mono ?_); rintro e wa ⟨g, rfl, hga, hba⟩; have hBa := hbd.out.trans (hba.mono hbd.out.size); obtain ⟨z0, z1, z2, z3, z4, z5, z6⟩ := seven_cells (blk_below hid.out hba); have hca := words_cell hga HK.out; rw [HW0.out] at hca)
        | (go_at_call 44; (with_reducible refine (HD1.out _).mono ?_); rintro e wb ⟨rfl, rfl⟩)))
          go_meet
          exact ⟨rfl, hBa⟩
        · refine wpPlan_fork fun PL4 hPL4 => ?_
          simp only [List.filterMap_cons, List.filterMap_nil, List.getElem?_toArray, List.getElem?_cons_succ, List.getElem?_cons_zero]
          change wpList _ _ _ [_, _] _ _
          go_wp2_with ((first
        | (go_at_call 43; (with_reducible refine (rwords_o _).mono ?_); rintro e wa ⟨g, rfl, hga, hba⟩; have hBa := hbd.out.trans (hba.mono hbd.out.size); obtain ⟨z0, z1, z2, z3, z4, z5, z6⟩ := seven_cells (blk_below hid.out hba); have hca := words_cell hga HK.out; rw [HW0.out] at hca)
        | (go_at_call 44; (with_reducible refine (HD1.out _).mono ?_); rintro e wb ⟨rfl, rfl⟩)))
          refine hPL4 _ _ ?_ ?_
          · refine wpPlan_leaf fun PL5 hPL5 => ?_
            simp only [List.filterMap_cons, List.filterMap_nil, List.getElem?_toArray, List.getElem?_cons_succ, List.getElem?_cons_zero]
            change wpList _ _ _ [_, _, _, _, _] _ _
            go_wp2_with ((first
        | (go_at_call 43; (with_reducible refine (rwords_o _).mono ?_); rintro e wa ⟨g, rfl, hga, hba⟩; have hBa := hbd.out.trans (hba.mono hbd.out.size); obtain ⟨z0, z1, z2, z3, z4, z5, z6⟩ := seven_cells (blk_below hid.out hba); have hca := words_cell hga HK.out; rw [HW0.out] at hca)
        | (go_at_call 44; (with_reducible refine (HD1.out _).mono ?_); rintro e wb ⟨rfl, rfl⟩)))
            go_meet
            exact ⟨rfl, hBa⟩
          · refine wpPlan_check fun PL5 hPL5 => ?_
            simp only [List.filterMap_cons, List.filterMap_nil, List.getElem?_toArray, List.getElem?_cons_succ, List.getElem?_cons_zero]
            change wpList _ _ _ [_] _ _
            go_wp2_with ((first
        | (go_at_call 43; (with_reducible refine (rwords_o _).mono ?_); rintro e wa ⟨g, rfl, hga, hba⟩; have hBa := hbd.out.trans (hba.mono hbd.out.size); obtain ⟨z0, z1, z2, z3, z4, z5, z6⟩ := seven_cells (blk_below hid.out hba); have hca := words_cell hga HK.out; rw [HW0.out] at hca)
        | (go_at_call 44; (with_reducible refine (HD1.out _).mono ?_); rintro e wb ⟨rfl, rfl⟩)))
            refine hPL5 _ _ (by first | exact fun _ => .inl ⟨_, _, _, _, rfl, rfl⟩ | exact fun _ => ⟨_, _, rfl⟩ | exact fun _ => .inr ⟨_, _, rfl, rfl⟩ | exact .inr ⟨_, _, rfl, rfl⟩ | exact fun _ => .inr (.inl ⟨_, _, rfl, rfl⟩) | exact .inr (.inl ⟨_, _, rfl, rfl⟩)) ?_
            refine wpPlan_leaf fun PL6 hPL6 => ?_
            simp only [List.filterMap_cons, List.filterMap_nil, List.getElem?_toArray, List.getElem?_cons_succ, List.getElem?_cons_zero]
            change wpList _ _ _ [_, _, _, _] _ _
            go_wp2_with ((first
        | (go_at_call 43; (with_reducible refine (rwords_o _).mono ?_); rintro e wa ⟨g, rfl, hga, hba⟩; have hBa := hbd.out.trans (hba.mono hbd.out.size); obtain ⟨z0, z1, z2, z3, z4, z5, z6⟩ := seven_cells (blk_below hid.out hba); have hca := words_cell hga HK.out; rw [HW0.out] at hca)
        | (go_at_call 44; (with_reducible refine (HD1.out _).mono ?_); rintro e wb ⟨rfl, rfl⟩)))
            go_meet
            exact ⟨rfl, hBa⟩
      · refine wpPlan_fork fun PL3 hPL3 => ?_
        simp only [List.filterMap_cons, List.filterMap_nil, List.getElem?_toArray, List.getElem?_cons_succ, List.getElem?_cons_zero]
        change wpList _ _ _ [_, _] _ _
        go_wp2_with ((first
        | (go_at_call 43; (with_reducible refine (rwords_o _).mono ?_); rintro e wa ⟨g, rfl, hga, hba⟩; have hBa := hbd.out.trans (hba.mono hbd.out.size); obtain ⟨z0, z1, z2, z3, z4, z5, z6⟩ := seven_cells (blk_below hid.out hba); have hca := words_cell hga HK.out; rw [HW0.out] at hca)
        | (go_at_call 44; (with_reducible refine (HD1.out _).mono ?_); rintro e wb ⟨rfl, rfl⟩)))
        refine hPL3 _ _ ?_ ?_
        · refine wpPlan_fork fun PL4 hPL4 => ?_
          simp only [List.filterMap_cons, List.filterMap_nil, List.getElem?_toArray, List.getElem?_cons_succ, List.getElem?_cons_zero]
          change wpList _ _ _ [_] _ _
          go_wp2_with ((first
        | (go_at_call 43; (with_reducible refine (rwords_o _).mono ?_); rintro e wa ⟨g, rfl, hga, hba⟩; have hBa := hbd.out.trans (hba.mono hbd.out.size); obtain ⟨z0, z1, z2, z3, z4, z5, z6⟩ := seven_cells (blk_below hid.out hba); have hca := words_cell hga HK.out; rw [HW0.out] at hca)
        | (go_at_call 44; (with_reducible refine (HD1.out _).mono ?_); rintro e wb ⟨rfl, rfl⟩)))
          refine hPL4 _ _ ?_ ?_
          · refine wpPlan_leaf fun PL5 hPL5 => ?_
            simp only [List.filterMap_cons, List.filterMap_nil, List.getElem?_toArray, List.getElem?_cons_succ, List.getElem?_cons_zero]
            change wpList _ _ _ [_, _, _, _, _] _ _
            go_wp2_with ((first
        | (go_at_call 43; (with_reducible refine (rwords_o _).mono ?_); rintro e wa ⟨g, rfl, hga, hba⟩; have hBa := hbd.out.trans (hba.mono hbd.out.size); obtain ⟨z0, z1, z2, z3, z4, z5, z6⟩ := seven_cells (blk_below hid.out hba); have hca := words_cell hga HK.out; rw [HW0.out] at hca)
        | (go_at_call 44; (with_reducible refine (HD1.out _).mono ?_); rintro e wb ⟨rfl, rfl⟩)))
            go_meet
            exact ⟨rfl, hBa⟩
          · refine wpPlan_check fun PL5 hPL5 => ?_
            simp only [List.filterMap_cons, List.filterMap_nil, List.getElem?_toArray, List.getElem?_cons_succ, List.getElem?_cons_zero]
            change wpList _ _ _ [_] _ _
            go_wp2_with ((first
        | (go_at_call 43; (with_reducible refine (rwords_o _).mono ?_); rintro e wa ⟨g, rfl, hga, hba⟩; have hBa := hbd.out.trans (hba.mono hbd.out.size); obtain ⟨z0, z1, z2, z3, z4, z5, z6⟩ := seven_cells (blk_below hid.out hba); have hca := words_cell hga HK.out; rw [HW0.out] at hca)
        | (go_at_call 44; (with_reducible refine (HD1.out _).mono ?_); rintro e wb ⟨rfl, rfl⟩)))
            refine hPL5 _ _ (by first | exact fun _ => .inl ⟨_, _, _, _, rfl, rfl⟩ | exact fun _ => ⟨_, _, rfl⟩ | exact fun _ => .inr ⟨_, _, rfl, rfl⟩ | exact .inr ⟨_, _, rfl, rfl⟩ | exact fun _ => .inr (.inl ⟨_, _, rfl, rfl⟩) | exact .inr (.inl ⟨_, _, rfl, rfl⟩)) ?_
            refine wpPlan_leaf fun PL6 hPL6 => ?_
            simp only [List.filterMap_cons, List.filterMap_nil, List.getElem?_toArray, List.getElem?_cons_succ, List.getElem?_cons_zero]
            change wpList _ _ _ [_, _, _, _] _ _
            go_wp2_with ((first
        | (go_at_call 43; (with_reducible refine (rwords_o _).mono ?_); rintro e wa ⟨g, rfl, hga, hba⟩; have hBa := hbd.out.trans (hba.mono hbd.out.size); obtain ⟨z0, z1, z2, z3, z4, z5, z6⟩ := seven_cells (blk_below hid.out hba); have hca := words_cell hga HK.out; rw [HW0.out] at hca)
        | (go_at_call 44; (with_reducible refine (HD1.out _).mono ?_); rintro e wb ⟨rfl, rfl⟩)))
            go_meet
            exact ⟨rfl, hBa⟩
        · refine wpPlan_check fun PL4 hPL4 => ?_
          simp only [List.filterMap_cons, List.filterMap_nil, List.getElem?_toArray, List.getElem?_cons_succ, List.getElem?_cons_zero]
          change wpList _ _ _ [_] _ _
          go_wp2_with ((first
        | (go_at_call 43; (with_reducible refine (rwords_o _).mono ?_); rintro e wa ⟨g, rfl, hga, hba⟩; have hBa := hbd.out.trans (hba.mono hbd.out.size); obtain ⟨z0, z1, z2, z3, z4, z5, z6⟩ := seven_cells (blk_below hid.out hba); have hca := words_cell hga HK.out; rw [HW0.out] at hca)
        | (go_at_call 44; (with_reducible refine (HD1.out _).mono ?_); rintro e wb ⟨rfl, rfl⟩)))
          refine hPL4 _ _ (by first | exact fun _ => .inl ⟨_, _, _, _, rfl, rfl⟩ | exact fun _ => ⟨_, _, rfl⟩ | exact fun _ => .inr ⟨_, _, rfl, rfl⟩ | exact .inr ⟨_, _, rfl, rfl⟩ | exact fun _ => .inr (.inl ⟨_, _, rfl, rfl⟩) | exact .inr (.inl ⟨_, _, rfl, rfl⟩)) ?_
          refine wpPlan_leaf fun PL5 hPL5 => ?_
          simp only [List.filterMap_cons, List.filterMap_nil, List.getElem?_toArray, List.getElem?_cons_succ, List.getElem?_cons_zero]
          change wpList _ _ _ [_, _, _, _, _] _ _
          go_wp2_with ((first
        | (go_at_call 43; (with_reducible refine (rwords_o _).mono ?_); rintro e wa ⟨g, rfl, hga, hba⟩; have hBa := hbd.out.trans (hba.mono hbd.out.size); obtain ⟨z0, z1, z2, z3, z4, z5, z6⟩ := seven_cells (blk_below hid.out hba); have hca := words_cell hga HK.out; rw [HW0.out] at hca)
        | (go_at_call 44; (with_reducible refine (HD1.out _).mono ?_); rintro e wb ⟨rfl, rfl⟩)))
          go_meet
          exact ⟨rfl, hBa⟩
end Go.Proofs.YtaghecgjmkhpcaaGreatDoor
