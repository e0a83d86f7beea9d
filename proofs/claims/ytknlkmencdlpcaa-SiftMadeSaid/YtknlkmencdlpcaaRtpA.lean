/-
What Get of package rtp reads: a packet.
-/
import Derived.Test.YtknlkmencdlpcaaRtp9
import Derived.Deep.CutBlock
import Derived.Test.YtknlkmencdlpcaaReg
namespace Go.Proofs.Ytknlkmencdlpcaa
set_option linter.unusedVariables false
set_option linter.unusedSimpArgs false
open Go Go.RowKit

set_option maxRecDepth 20000 in
set_option maxHeartbeats 8000000 in
theorem pget_yes (A : Option Addr) (n c : Nat) (l : List UInt8) (w : World) (h : Bts w A n c l) (he : lookE l = 0) :
    Calls Try.prog 72 #[.slice A n c] w fun e w' => ∃ C cc E ec L lc, e = .returned (.tuple #[.agg #[.bool (decide (128 ≤ byteN l 1)), .int .i64 (byteN l 1 % 128 : Nat), .int .u16 (getN l 2 2), .int .u32 (getN l 4 4), .int .u32 (getN l 8 4), .slice C (nCs l) cc, .bool (exB l), .int .u16 (pfG l), .slice E (exG l).length ec, .slice L (plG l).length lc, .int .i64 (n - lookT l : Nat)], .int .i64 0]) ∧
      w'.ownsRow w.heap.size 24 1 (.slice C (nCs l) cc) (nCs l) (u32s (csL l (nCs l))) ∧ w'.ownsRow w.heap.size 5 1 (.slice E (exG l).length ec) (exG l).length (bys (exG l)) ∧ w'.ownsRow w.heap.size 5 1 (.slice L (plG l).length lc) (plG l).length (bys (plG l)) ∧ Below w.heap.size w w' := by
  have HB := Lib.hid h
  have hn := h.len
  have hnc := h.nc
  have hcm := h.cm
  unfold maxLen at hcm
  obtain ⟨l512, l12, _, _, hfl, k, hpk, hkl, hT⟩ := look_ok he
  rw [hn] at l512 l12 hfl hkl hT
  have hX : lookX l = extA l := by unfold lookX; rw [if_pos he]
  have hF : lookF l = frmA l := by unfold lookF; rw [if_pos he]
  have heI : ((lookE l : Nat) : Int) = 0 := by omega
  have hTf : frmA l ≤ lookT l := by omega
  have hTn : lookT l ≤ n := by omega
  have hxf := ext_le_frm l
  have hax := at_le_ext l
  have ha12 : 12 ≤ atP l ∧ atP l ≤ 72 := by have := nCs_lt l; unfold atP; omega
  obtain ⟨ad, rfl, hc0⟩ := bts_byte h (k := 0) (by omega)
  obtain ⟨ad', hA, hc1⟩ := bts_byte h (k := 1) (by omega)
  injection hA with hA; subst hA
  rw [add_zero'] at hc0
  have HC0 := Lib.hid hc0
  have HC1 := Lib.hid hc1
  have hy0 := byteN_lt l 0
  have hy1 := byteN_lt l 1
  have HV := Lib.hid (And.intro hX (And.intro hF hT))
  obtain ⟨_, _, _, b128, b127, _⟩ := rtpbits _ hy1
  obtain ⟨mr, hmr⟩ : ∃ mr, mr = decide (128 ≤ byteN l 1) := ⟨_, rfl⟩
  obtain ⟨ty, hty⟩ : ∃ ty, ty = byteN l 1 % 128 := ⟨_, rfl⟩
  obtain ⟨pd, hpd⟩ : ∃ pd, pd = n - lookT l := ⟨_, rfl⟩
  rw [← hmr] at b128 ⊢
  rw [← hty] at b127 ⊢
  rw [← hpd]
  have hpdI : (n : Int) - ((lookT l : Nat) : Int) = (pd : Int) := by omega
  have hty2 : ty < 128 := by omega
  have HD := Lib.hid (And.intro hmr (And.intro hty hpd))
  clear hmr hty hpd
  have n0 : 0 < n := by omega
  have n1 : 1 < n := by omega
  have n1' : (1 : Int) < n := by omega
  clear h hc0 hc1 hX hF hT hpk hkl he
  go_enter Try.func72, Try.ntmps72
  go_wp2_with (go_at_call 114; (with_reducible refine (look_any (some ad) n c l _ (HB.out.below ((Below.refl _ _).alloc (Nat.le_refl _) _))).mono ?_); rintro e w1 ⟨rfl, hb1⟩; rw [heI, HV.out.1, HV.out.2.1]; have hb2 := ((Below.refl w.heap.size w).alloc (Nat.le_refl _) _).trans (hb1.mono (by simp)); have hit := blk_below (blk_alloc _ _) hb1; have hit2 := fun o => blk_below hit ((Below.refl w1.heap.size w1).alloc (Nat.le_refl _) o))
  have hit2 := fun o => blk_below hit ((Below.refl w1.heap.size w1).alloc (Nat.le_refl _) o)
  have hb3 := fun o => hb2.alloc hb2.size o
  have hs3 := fun o => heap_alloc_new w1 o
  have hg4 : w.heap.size < w1.heap.size := blk_in hit
  have hF0 : Pre4 w (w1.alloc (.cells #[.int .i64 (extA l : Nat), .int .i64 (frmA l : Nat), .int .i64 (lookT l : Nat)] 164)) w1.heap.size #[.int .i64 (extA l : Nat), .int .i64 (frmA l : Nat), .int .i64 (lookT l : Nat)] := ⟨hit2 _, hs3 _, hb3 _, hg4⟩
  have HF0 := Lib.hid hF0
  clear hF0 hit2 hb3 hs3 hit hb2 hb1
  generalize w1.alloc (.cells #[.int .i64 (extA l : Nat), .int .i64 (frmA l : Nat), .int .i64 (lookT l : Nat)] 164) = w2 at *
  go_cut [6] from 17 to 32 (fun s6 wx => ∃ g6, s6 = .pointer (some ⟨g6, 0, none⟩) ∧ Hid (GP w wx w1.heap.size g6 #[.int .i64 (extA l : Nat), .int .i64 (frmA l : Nat), .int .i64 (lookT l : Nat)] #[.bool mr, .int .i64 ty, .int .u16 0, .int .u32 0, .int .u32 0, .slice none 0 0, .bool false, .int .u16 0, .slice none 0 0, .slice none 0 0, .int .i64 pd] none 0 0 []))
  case first =>
    refine region_planA (calmB_sound _) (.fork [0, 1, 5, 6, 10, 11, 12] (.check [7] 8 (.check [8] 9 (.fork [9] (.check [13] 14 (.check [14, 2] 3 (.check [3] 4 (.fork [4] (.leaf [16, 15, 17]) (.leaf [15, 16, 17]))))) (.fork [] (.fork [16] (.check [13] 14 (.leaf [14, 2, 3, 4, 15, 17])) (.check [2] 3 (.check [3] 4 (.leaf [4, 13, 14, 15, 17])))) (.check [2] 3 (.check [3] 4 (.check [4, 13] 14 (.fork [14] (.leaf [16, 15, 17]) (.leaf [15, 16, 17]))))))))) (.fork [] (.check [13] 14 (.fork [14] (.check [7] 8 (.check [8] 9 (.check [9, 2] 3 (.check [3] 4 (.fork [4] (.leaf [16, 15, 17]) (.leaf [15, 16, 17])))))) (.fork [] (.fork [16] (.check [7] 8 (.check [8] 9 (.leaf [9, 2, 3, 4, 15, 17]))) (.check [2] 3 (.check [3] 4 (.leaf [4, 7, 8, 9, 15, 17])))) (.check [2] 3 (.check [3] 4 (.check [4, 7] 8 (.check [8] 9 (.fork [9] (.leaf [16, 15, 17]) (.leaf [15, 16, 17]))))))))) (.fork [] (.fork [16] (.check [7] 8 (.check [8] 9 (.fork [9] (.check [13] 14 (.leaf [14, 2, 3, 4, 15, 17])) (.check [2] 3 (.check [3] 4 (.leaf [4, 13, 14, 15, 17])))))) (.fork [] (.check [13] 14 (.fork [14] (.check [7] 8 (.check [8] 9 (.leaf [9, 2, 3, 4, 15, 17]))) (.check [2] 3 (.check [3] 4 (.leaf [4, 7, 8, 9, 15, 17]))))) (.check [2] 3 (.check [3] 4 (.fork [4] (.check [13] 14 (.leaf [14, 7, 8, 9, 15, 17])) (.check [7] 8 (.check [8] 9 (.leaf [9, 13, 14, 15, 17])))))))) (.check [2] 3 (.check [3] 4 (.fork [4] (.check [13] 14 (.check [14, 7] 8 (.check [8] 9 (.fork [9] (.leaf [16, 15, 17]) (.leaf [15, 16, 17]))))) (.fork [] (.fork [16] (.check [13] 14 (.leaf [14, 7, 8, 9, 15, 17])) (.check [7] 8 (.check [8] 9 (.leaf [9, 13, 14, 15, 17])))) (.check [7] 8 (.check [8] 9 (.check [9, 13] 14 (.fork [14] (.leaf [16, 15, 17]) (.leaf [15, 16, 17])))))))))))) (by kernel_rfl) (by kernel_rfl) (by kernel_rfl) ?_
    have HF := Lib.hid (HF0.out.below ((Below.refl _ _).drew))
    generalize w2.drew = w3 at *
    have d1 : w3.cell? ⟨ad.block, ad.off + 1, none⟩ = some (.int .u8 (byteN l 1)) := below_cell HF.out.b HC1.out
    have d1' : ∀ o, (w3.alloc o).cell? ⟨ad.block, ad.off + 1, none⟩ = some (.int .u8 (byteN l 1)) := fun o => below_cell (HF.out.b.alloc HF.out.b.size o) HC1.out
    have hsh := HF.out.sh
    have d2 : w3.cell? ⟨w1.heap.size, 2, none⟩ = some (.int .i64 (lookT l : Nat)) := by rw [cell_of_row _ _ _ _ _ _ hsh]; rfl
    have d2' : ∀ o, (w3.alloc o).cell? ⟨w1.heap.size, 2, none⟩ = some (.int .i64 (lookT l : Nat)) := fun o => by rw [cell_of_row _ _ _ _ _ _ (blk_below hsh ((Below.refl _ _).alloc (Nat.le_refl _) o))]; rfl
    clear hsh
    refine wpPlan_fork fun P1 hP1 => ?_
    simp only [List.filterMap_cons, List.filterMap_nil, List.getElem?_toArray, List.getElem?_cons_succ, List.getElem?_cons_zero]
    change wpList _ _ _ [_, _, _, _, _, _, _] _ _
    go_wp2
    refine hP1 _ _ ?_ ?_
    · refine wpPlan_check fun P2 hP2 => ?_
      simp only [List.filterMap_cons, List.filterMap_nil, List.getElem?_toArray, List.getElem?_cons_succ, List.getElem?_cons_zero]
      change wpList _ _ _ [_] _ _
      go_wp2
      refine hP2 _ _ (by first | exact fun _ => .inl ⟨_, _, _, _, rfl, rfl⟩ | exact fun _ => ⟨_, _, rfl⟩) ?_
      refine wpPlan_check fun P3 hP3 => ?_
      simp only [List.filterMap_cons, List.filterMap_nil, List.getElem?_toArray, List.getElem?_cons_succ, List.getElem?_cons_zero]
      change wpList _ _ _ [_] _ _
      go_wp2
      refine hP3 _ _ (by first | exact fun _ => .inl ⟨_, _, _, _, rfl, rfl⟩ | exact fun _ => ⟨_, _, rfl⟩) ?_
      refine wpPlan_fork fun P4 hP4 => ?_
      simp only [List.filterMap_cons, List.filterMap_nil, List.getElem?_toArray, List.getElem?_cons_succ, List.getElem?_cons_zero]
      change wpList _ _ _ [_] _ _
      go_wp2
      refine hP4 _ _ ?_ ?_
      · refine wpPlan_check fun P5 hP5 => ?_
        simp only [List.filterMap_cons, List.filterMap_nil, List.getElem?_toArray, List.getElem?_cons_succ, List.getElem?_cons_zero]
        change wpList _ _ _ [_] _ _
        go_wp2
        refine hP5 _ _ (by first | exact fun _ => .inl ⟨_, _, _, _, rfl, rfl⟩ | exact fun _ => ⟨_, _, rfl⟩) ?_
        refine wpPlan_check fun P6 hP6 => ?_
        simp only [List.filterMap_cons, List.filterMap_nil, List.getElem?_toArray, List.getElem?_cons_succ, List.getElem?_cons_zero]
        change wpList _ _ _ [_, _] _ _
        go_wp2
        refine hP6 _ _ (by first | exact fun _ => .inl ⟨_, _, _, _, rfl, rfl⟩ | exact fun _ => ⟨_, _, rfl⟩) ?_
        refine wpPlan_check fun P7 hP7 => ?_
        simp only [List.filterMap_cons, List.filterMap_nil, List.getElem?_toArray, List.getElem?_cons_succ, List.getElem?_cons_zero]
        change wpList _ _ _ [_] _ _
        go_wp2
        refine hP7 _ _ (by first | exact fun _ => .inl ⟨_, _, _, _, rfl, rfl⟩ | exact fun _ => ⟨_, _, rfl⟩) ?_
        refine wpPlan_fork fun P8 hP8 => ?_
        simp only [List.filterMap_cons, List.filterMap_nil, List.getElem?_toArray, List.getElem?_cons_succ, List.getElem?_cons_zero]
        change wpList _ _ _ [_] _ _
        go_wp2
        refine hP8 _ _ ?_ ?_
        · refine wpPlan_leaf fun P9 hP9 => ?_
          simp only [List.filterMap_cons, List.filterMap_nil, List.getElem?_toArray, List.getElem?_cons_succ, List.getElem?_cons_zero]
          change wpList _ _ _ [_, _, _] _ _
          go_wp2_with (refine wpList_store_blk rfl 39 (.tmp 6) (.tmp 32) rfl w3.heap.size _ #[.bool mr, .int .i64 ty, .int .u16 0, .int .u32 0, .int .u32 0, .slice none 0 0, .bool false, .int .u16 0, .slice none 0 0, .slice none 0 0, .int .i64 pd] _ rfl rfl (heap_alloc_new w3 _) rfl (by kernel_rfl) (by simp [Value.oneCell']) ?_; intro w5 hi5 hg5)
          go_meet
          exact ⟨_, rfl, Lib.hid (HF.out.get hi5 hg5)⟩
        · refine wpPlan_leaf fun P10 hP10 => ?_
          simp only [List.filterMap_cons, List.filterMap_nil, List.getElem?_toArray, List.getElem?_cons_succ, List.getElem?_cons_zero]
          change wpList _ _ _ [_, _, _] _ _
          go_wp2_with (refine wpList_store_blk rfl 39 (.tmp 6) (.tmp 32) rfl w3.heap.size _ #[.bool mr, .int .i64 ty, .int .u16 0, .int .u32 0, .int .u32 0, .slice none 0 0, .bool false, .int .u16 0, .slice none 0 0, .slice none 0 0, .int .i64 pd] _ rfl rfl (heap_alloc_new w3 _) rfl (by kernel_rfl) (by simp [Value.oneCell']) ?_; intro w5 hi5 hg5)
          go_meet
          exact ⟨_, rfl, Lib.hid (HF.out.get hi5 hg5)⟩
      · refine wpPlan_fork fun P11 hP11 => ?_
        simp only [List.filterMap_nil]
        go_wp2
        refine hP11 _ _ ?_ ?_
        · refine wpPlan_fork fun P12 hP12 => ?_
          simp only [List.filterMap_cons, List.filterMap_nil, List.getElem?_toArray, List.getElem?_cons_succ, List.getElem?_cons_zero]
          change wpList _ _ _ [_] _ _
          go_wp2
          refine hP12 _ _ ?_ ?_
          · refine wpPlan_check fun P13 hP13 => ?_
            simp only [List.filterMap_cons, List.filterMap_nil, List.getElem?_toArray, List.getElem?_cons_succ, List.getElem?_cons_zero]
            change wpList _ _ _ [_] _ _
            go_wp2
            refine hP13 _ _ (by first | exact fun _ => .inl ⟨_, _, _, _, rfl, rfl⟩ | exact fun _ => ⟨_, _, rfl⟩) ?_
            refine wpPlan_leaf fun P14 hP14 => ?_
            simp only [List.filterMap_cons, List.filterMap_nil, List.getElem?_toArray, List.getElem?_cons_succ, List.getElem?_cons_zero]
            change wpList _ _ _ [_, _, _, _, _, _] _ _
            go_wp2_with (refine wpList_store_blk rfl 39 (.tmp 6) (.tmp 32) rfl w3.heap.size _ #[.bool mr, .int .i64 ty, .int .u16 0, .int .u32 0, .int .u32 0, .slice none 0 0, .bool false, .int .u16 0, .slice none 0 0, .slice none 0 0, .int .i64 pd] _ rfl rfl (heap_alloc_new w3 _) rfl (by kernel_rfl) (by simp [Value.oneCell']) ?_; intro w5 hi5 hg5)
            go_meet
            exact ⟨_, rfl, Lib.hid (HF.out.get hi5 hg5)⟩
          · refine wpPlan_check fun P15 hP15 => ?_
            simp only [List.filterMap_cons, List.filterMap_nil, List.getElem?_toArray, List.getElem?_cons_succ, List.getElem?_cons_zero]
            change wpList _ _ _ [_] _ _
            go_wp2
            refine hP15 _ _ (by first | exact fun _ => .inl ⟨_, _, _, _, rfl, rfl⟩ | exact fun _ => ⟨_, _, rfl⟩) ?_
            refine wpPlan_check fun P16 hP16 => ?_
            simp only [List.filterMap_cons, List.filterMap_nil, List.getElem?_toArray, List.getElem?_cons_succ, List.getElem?_cons_zero]
            change wpList _ _ _ [_] _ _
            go_wp2
            refine hP16 _ _ (by first | exact fun _ => .inl ⟨_, _, _, _, rfl, rfl⟩ | exact fun _ => ⟨_, _, rfl⟩) ?_
            refine wpPlan_leaf fun P17 hP17 => ?_
            simp only [List.filterMap_cons, List.filterMap_nil, List.getElem?_toArray, List.getElem?_cons_succ, List.getElem?_cons_zero]
            change wpList _ _ _ [_, _, _, _, _] _ _
            go_wp2_with (refine wpList_store_blk rfl 39 (.tmp 6) (.tmp 32) rfl w3.heap.size _ #[.bool mr, .int .i64 ty, .int .u16 0, .int .u32 0, .int .u32 0, .slice none 0 0, .bool false, .int .u16 0, .slice none 0 0, .slice none 0 0, .int .i64 pd] _ rfl rfl (heap_alloc_new w3 _) rfl (by kernel_rfl) (by simp [Value.oneCell']) ?_; intro w5 hi5 hg5)
            go_meet
            exact ⟨_, rfl, Lib.hid (HF.out.get hi5 hg5)⟩
        · refine wpPlan_check fun P18 hP18 => ?_
          simp only [List.filterMap_cons, List.filterMap_nil, List.getElem?_toArray, List.getElem?_cons_succ, List.getElem?_cons_zero]
          change wpList _ _ _ [_] _ _
          go_wp2
          refine hP18 _ _ (by first | exact fun _ => .inl ⟨_, _, _, _, rfl, rfl⟩ | exact fun _ => ⟨_, _, rfl⟩) ?_
          refine wpPlan_check fun P19 hP19 => ?_
          simp only [List.filterMap_cons, List.filterMap_nil, List.getElem?_toArray, List.getElem?_cons_succ, List.getElem?_cons_zero]
          change wpList _ _ _ [_] _ _
          go_wp2
          refine hP19 _ _ (by first | exact fun _ => .inl ⟨_, _, _, _, rfl, rfl⟩ | exact fun _ => ⟨_, _, rfl⟩) ?_
          refine wpPlan_check fun P20 hP20 => ?_
          simp only [List.filterMap_cons, List.filterMap_nil, List.getElem?_toArray, List.getElem?_cons_succ, List.getElem?_cons_zero]
          change wpList _ _ _ [_, _] _ _
          go_wp2
          refine hP20 _ _ (by first | exact fun _ => .inl ⟨_, _, _, _, rfl, rfl⟩ | exact fun _ => ⟨_, _, rfl⟩) ?_
          refine wpPlan_fork fun P21 hP21 => ?_
          simp only [List.filterMap_cons, List.filterMap_nil, List.getElem?_toArray, List.getElem?_cons_succ, List.getElem?_cons_zero]
          change wpList _ _ _ [_] _ _
          go_wp2
          refine hP21 _ _ ?_ ?_
          · refine wpPlan_leaf fun P22 hP22 => ?_
            simp only [List.filterMap_cons, List.filterMap_nil, List.getElem?_toArray, List.getElem?_cons_succ, List.getElem?_cons_zero]
            change wpList _ _ _ [_, _, _] _ _
            go_wp2_with (refine wpList_store_blk rfl 39 (.tmp 6) (.tmp 32) rfl w3.heap.size _ #[.bool mr, .int .i64 ty, .int .u16 0, .int .u32 0, .int .u32 0, .slice none 0 0, .bool false, .int .u16 0, .slice none 0 0, .slice none 0 0, .int .i64 pd] _ rfl rfl (heap_alloc_new w3 _) rfl (by kernel_rfl) (by simp [Value.oneCell']) ?_; intro w5 hi5 hg5)
            go_meet
            exact ⟨_, rfl, Lib.hid (HF.out.get hi5 hg5)⟩
          · refine wpPlan_leaf fun P23 hP23 => ?_
            simp only [List.filterMap_cons, List.filterMap_nil, List.getElem?_toArray, List.getElem?_cons_succ, List.getElem?_cons_zero]
            change wpList _ _ _ [_, _, _] _ _
            go_wp2_with (refine wpList_store_blk rfl 39 (.tmp 6) (.tmp 32) rfl w3.heap.size _ #[.bool mr, .int .i64 ty, .int .u16 0, .int .u32 0, .int .u32 0, .slice none 0 0, .bool false, .int .u16 0, .slice none 0 0, .slice none 0 0, .int .i64 pd] _ rfl rfl (heap_alloc_new w3 _) rfl (by kernel_rfl) (by simp [Value.oneCell']) ?_; intro w5 hi5 hg5)
            go_meet
            exact ⟨_, rfl, Lib.hid (HF.out.get hi5 hg5)⟩
    · refine wpPlan_fork fun P24 hP24 => ?_
      simp only [List.filterMap_nil]
      go_wp2
      refine hP24 _ _ ?_ ?_
      · refine wpPlan_check fun P25 hP25 => ?_
        simp only [List.filterMap_cons, List.filterMap_nil, List.getElem?_toArray, List.getElem?_cons_succ, List.getElem?_cons_zero]
        change wpList _ _ _ [_] _ _
        go_wp2
        refine hP25 _ _ (by first | exact fun _ => .inl ⟨_, _, _, _, rfl, rfl⟩ | exact fun _ => ⟨_, _, rfl⟩) ?_
        refine wpPlan_fork fun P26 hP26 => ?_
        simp only [List.filterMap_cons, List.filterMap_nil, List.getElem?_toArray, List.getElem?_cons_succ, List.getElem?_cons_zero]
        change wpList _ _ _ [_] _ _
        go_wp2
        refine hP26 _ _ ?_ ?_
        · refine wpPlan_check fun P27 hP27 => ?_
          simp only [List.filterMap_cons, List.filterMap_nil, List.getElem?_toArray, List.getElem?_cons_succ, List.getElem?_cons_zero]
          change wpList _ _ _ [_] _ _
          go_wp2
          refine hP27 _ _ (by first | exact fun _ => .inl ⟨_, _, _, _, rfl, rfl⟩ | exact fun _ => ⟨_, _, rfl⟩) ?_
          refine wpPlan_check fun P28 hP28 => ?_
          simp only [List.filterMap_cons, List.filterMap_nil, List.getElem?_toArray, List.getElem?_cons_succ, List.getElem?_cons_zero]
          change wpList _ _ _ [_] _ _
          go_wp2
          refine hP28 _ _ (by first | exact fun _ => .inl ⟨_, _, _, _, rfl, rfl⟩ | exact fun _ => ⟨_, _, rfl⟩) ?_
          refine wpPlan_check fun P29 hP29 => ?_
          simp only [List.filterMap_cons, List.filterMap_nil, List.getElem?_toArray, List.getElem?_cons_succ, List.getElem?_cons_zero]
          change wpList _ _ _ [_, _] _ _
          go_wp2
          refine hP29 _ _ (by first | exact fun _ => .inl ⟨_, _, _, _, rfl, rfl⟩ | exact fun _ => ⟨_, _, rfl⟩) ?_
          refine wpPlan_check fun P30 hP30 => ?_
          simp only [List.filterMap_cons, List.filterMap_nil, List.getElem?_toArray, List.getElem?_cons_succ, List.getElem?_cons_zero]
          change wpList _ _ _ [_] _ _
          go_wp2
          refine hP30 _ _ (by first | exact fun _ => .inl ⟨_, _, _, _, rfl, rfl⟩ | exact fun _ => ⟨_, _, rfl⟩) ?_
          refine wpPlan_fork fun P31 hP31 => ?_
          simp only [List.filterMap_cons, List.filterMap_nil, List.getElem?_toArray, List.getElem?_cons_succ, List.getElem?_cons_zero]
          change wpList _ _ _ [_] _ _
          go_wp2
          refine hP31 _ _ ?_ ?_
          · refine wpPlan_leaf fun P32 hP32 => ?_
            simp only [List.filterMap_cons, List.filterMap_nil, List.getElem?_toArray, List.getElem?_cons_succ, List.getElem?_cons_zero]
            change wpList _ _ _ [_, _, _] _ _
            go_wp2_with (refine wpList_store_blk rfl 39 (.tmp 6) (.tmp 32) rfl w3.heap.size _ #[.bool mr, .int .i64 ty, .int .u16 0, .int .u32 0, .int .u32 0, .slice none 0 0, .bool false, .int .u16 0, .slice none 0 0, .slice none 0 0, .int .i64 pd] _ rfl rfl (heap_alloc_new w3 _) rfl (by kernel_rfl) (by simp [Value.oneCell']) ?_; intro w5 hi5 hg5)
            go_meet
            exact ⟨_, rfl, Lib.hid (HF.out.get hi5 hg5)⟩
          · refine wpPlan_leaf fun P33 hP33 => ?_
            simp only [List.filterMap_cons, List.filterMap_nil, List.getElem?_toArray, List.getElem?_cons_succ, List.getElem?_cons_zero]
            change wpList _ _ _ [_, _, _] _ _
            go_wp2_with (refine wpList_store_blk rfl 39 (.tmp 6) (.tmp 32) rfl w3.heap.size _ #[.bool mr, .int .i64 ty, .int .u16 0, .int .u32 0, .int .u32 0, .slice none 0 0, .bool false, .int .u16 0, .slice none 0 0, .slice none 0 0, .int .i64 pd] _ rfl rfl (heap_alloc_new w3 _) rfl (by kernel_rfl) (by simp [Value.oneCell']) ?_; intro w5 hi5 hg5)
            go_meet
            exact ⟨_, rfl, Lib.hid (HF.out.get hi5 hg5)⟩
        · refine wpPlan_fork fun P34 hP34 => ?_
          simp only [List.filterMap_nil]
          go_wp2
          refine hP34 _ _ ?_ ?_
          · refine wpPlan_fork fun P35 hP35 => ?_
            simp only [List.filterMap_cons, List.filterMap_nil, List.getElem?_toArray, List.getElem?_cons_succ, List.getElem?_cons_zero]
            change wpList _ _ _ [_] _ _
            go_wp2
            refine hP35 _ _ ?_ ?_
            · refine wpPlan_check fun P36 hP36 => ?_
              simp only [List.filterMap_cons, List.filterMap_nil, List.getElem?_toArray, List.getElem?_cons_succ, List.getElem?_cons_zero]
              change wpList _ _ _ [_] _ _
              go_wp2
              refine hP36 _ _ (by first | exact fun _ => .inl ⟨_, _, _, _, rfl, rfl⟩ | exact fun _ => ⟨_, _, rfl⟩) ?_
              refine wpPlan_check fun P37 hP37 => ?_
              simp only [List.filterMap_cons, List.filterMap_nil, List.getElem?_toArray, List.getElem?_cons_succ, List.getElem?_cons_zero]
              change wpList _ _ _ [_] _ _
              go_wp2
              refine hP37 _ _ (by first | exact fun _ => .inl ⟨_, _, _, _, rfl, rfl⟩ | exact fun _ => ⟨_, _, rfl⟩) ?_
              refine wpPlan_leaf fun P38 hP38 => ?_
              simp only [List.filterMap_cons, List.filterMap_nil, List.getElem?_toArray, List.getElem?_cons_succ, List.getElem?_cons_zero]
              change wpList _ _ _ [_, _, _, _, _, _] _ _
              go_wp2_with (refine wpList_store_blk rfl 39 (.tmp 6) (.tmp 32) rfl w3.heap.size _ #[.bool mr, .int .i64 ty, .int .u16 0, .int .u32 0, .int .u32 0, .slice none 0 0, .bool false, .int .u16 0, .slice none 0 0, .slice none 0 0, .int .i64 pd] _ rfl rfl (heap_alloc_new w3 _) rfl (by kernel_rfl) (by simp [Value.oneCell']) ?_; intro w5 hi5 hg5)
              go_meet
              exact ⟨_, rfl, Lib.hid (HF.out.get hi5 hg5)⟩
            · refine wpPlan_check fun P39 hP39 => ?_
              simp only [List.filterMap_cons, List.filterMap_nil, List.getElem?_toArray, List.getElem?_cons_succ, List.getElem?_cons_zero]
              change wpList _ _ _ [_] _ _
              go_wp2
              refine hP39 _ _ (by first | exact fun _ => .inl ⟨_, _, _, _, rfl, rfl⟩ | exact fun _ => ⟨_, _, rfl⟩) ?_
              refine wpPlan_check fun P40 hP40 => ?_
              simp only [List.filterMap_cons, List.filterMap_nil, List.getElem?_toArray, List.getElem?_cons_succ, List.getElem?_cons_zero]
              change wpList _ _ _ [_] _ _
              go_wp2
              refine hP40 _ _ (by first | exact fun _ => .inl ⟨_, _, _, _, rfl, rfl⟩ | exact fun _ => ⟨_, _, rfl⟩) ?_
              refine wpPlan_leaf fun P41 hP41 => ?_
              simp only [List.filterMap_cons, List.filterMap_nil, List.getElem?_toArray, List.getElem?_cons_succ, List.getElem?_cons_zero]
              change wpList _ _ _ [_, _, _, _, _, _] _ _
              go_wp2_with (refine wpList_store_blk rfl 39 (.tmp 6) (.tmp 32) rfl w3.heap.size _ #[.bool mr, .int .i64 ty, .int .u16 0, .int .u32 0, .int .u32 0, .slice none 0 0, .bool false, .int .u16 0, .slice none 0 0, .slice none 0 0, .int .i64 pd] _ rfl rfl (heap_alloc_new w3 _) rfl (by kernel_rfl) (by simp [Value.oneCell']) ?_; intro w5 hi5 hg5)
              go_meet
              exact ⟨_, rfl, Lib.hid (HF.out.get hi5 hg5)⟩
          · refine wpPlan_check fun P42 hP42 => ?_
            simp only [List.filterMap_cons, List.filterMap_nil, List.getElem?_toArray, List.getElem?_cons_succ, List.getElem?_cons_zero]
            change wpList _ _ _ [_] _ _
            go_wp2
            refine hP42 _ _ (by first | exact fun _ => .inl ⟨_, _, _, _, rfl, rfl⟩ | exact fun _ => ⟨_, _, rfl⟩) ?_
            refine wpPlan_check fun P43 hP43 => ?_
            simp only [List.filterMap_cons, List.filterMap_nil, List.getElem?_toArray, List.getElem?_cons_succ, List.getElem?_cons_zero]
            change wpList _ _ _ [_] _ _
            go_wp2
            refine hP43 _ _ (by first | exact fun _ => .inl ⟨_, _, _, _, rfl, rfl⟩ | exact fun _ => ⟨_, _, rfl⟩) ?_
            refine wpPlan_check fun P44 hP44 => ?_
            simp only [List.filterMap_cons, List.filterMap_nil, List.getElem?_toArray, List.getElem?_cons_succ, List.getElem?_cons_zero]
            change wpList _ _ _ [_, _] _ _
            go_wp2
            refine hP44 _ _ (by first | exact fun _ => .inl ⟨_, _, _, _, rfl, rfl⟩ | exact fun _ => ⟨_, _, rfl⟩) ?_
            refine wpPlan_check fun P45 hP45 => ?_
            simp only [List.filterMap_cons, List.filterMap_nil, List.getElem?_toArray, List.getElem?_cons_succ, List.getElem?_cons_zero]
            change wpList _ _ _ [_] _ _
            go_wp2
            refine hP45 _ _ (by first | exact fun _ => .inl ⟨_, _, _, _, rfl, rfl⟩ | exact fun _ => ⟨_, _, rfl⟩) ?_
            refine wpPlan_fork fun P46 hP46 => ?_
            simp only [List.filterMap_cons, List.filterMap_nil, List.getElem?_toArray, List.getElem?_cons_succ, List.getElem?_cons_zero]
            change wpList _ _ _ [_] _ _
            go_wp2
            refine hP46 _ _ ?_ ?_
            · refine wpPlan_leaf fun P47 hP47 => ?_
              simp only [List.filterMap_cons, List.filterMap_nil, List.getElem?_toArray, List.getElem?_cons_succ, List.getElem?_cons_zero]
              change wpList _ _ _ [_, _, _] _ _
              go_wp2_with (refine wpList_store_blk rfl 39 (.tmp 6) (.tmp 32) rfl w3.heap.size _ #[.bool mr, .int .i64 ty, .int .u16 0, .int .u32 0, .int .u32 0, .slice none 0 0, .bool false, .int .u16 0, .slice none 0 0, .slice none 0 0, .int .i64 pd] _ rfl rfl (heap_alloc_new w3 _) rfl (by kernel_rfl) (by simp [Value.oneCell']) ?_; intro w5 hi5 hg5)
              go_meet
              exact ⟨_, rfl, Lib.hid (HF.out.get hi5 hg5)⟩
            · refine wpPlan_leaf fun P48 hP48 => ?_
              simp only [List.filterMap_cons, List.filterMap_nil, List.getElem?_toArray, List.getElem?_cons_succ, List.getElem?_cons_zero]
              change wpList _ _ _ [_, _, _] _ _
              go_wp2_with (refine wpList_store_blk rfl 39 (.tmp 6) (.tmp 32) rfl w3.heap.size _ #[.bool mr, .int .i64 ty, .int .u16 0, .int .u32 0, .int .u32 0, .slice none 0 0, .bool false, .int .u16 0, .slice none 0 0, .slice none 0 0, .int .i64 pd] _ rfl rfl (heap_alloc_new w3 _) rfl (by kernel_rfl) (by simp [Value.oneCell']) ?_; intro w5 hi5 hg5)
              go_meet
              exact ⟨_, rfl, Lib.hid (HF.out.get hi5 hg5)⟩
      · refine wpPlan_fork fun P49 hP49 => ?_
        simp only [List.filterMap_nil]
        go_wp2
        refine hP49 _ _ ?_ ?_
        · refine wpPlan_fork fun P50 hP50 => ?_
          simp only [List.filterMap_cons, List.filterMap_nil, List.getElem?_toArray, List.getElem?_cons_succ, List.getElem?_cons_zero]
          change wpList _ _ _ [_] _ _
          go_wp2
          refine hP50 _ _ ?_ ?_
          · refine wpPlan_check fun P51 hP51 => ?_
            simp only [List.filterMap_cons, List.filterMap_nil, List.getElem?_toArray, List.getElem?_cons_succ, List.getElem?_cons_zero]
            change wpList _ _ _ [_] _ _
            go_wp2
            refine hP51 _ _ (by first | exact fun _ => .inl ⟨_, _, _, _, rfl, rfl⟩ | exact fun _ => ⟨_, _, rfl⟩) ?_
            refine wpPlan_check fun P52 hP52 => ?_
            simp only [List.filterMap_cons, List.filterMap_nil, List.getElem?_toArray, List.getElem?_cons_succ, List.getElem?_cons_zero]
            change wpList _ _ _ [_] _ _
            go_wp2
            refine hP52 _ _ (by first | exact fun _ => .inl ⟨_, _, _, _, rfl, rfl⟩ | exact fun _ => ⟨_, _, rfl⟩) ?_
            refine wpPlan_fork fun P53 hP53 => ?_
            simp only [List.filterMap_cons, List.filterMap_nil, List.getElem?_toArray, List.getElem?_cons_succ, List.getElem?_cons_zero]
            change wpList _ _ _ [_] _ _
            go_wp2
            refine hP53 _ _ ?_ ?_
            · refine wpPlan_check fun P54 hP54 => ?_
              simp only [List.filterMap_cons, List.filterMap_nil, List.getElem?_toArray, List.getElem?_cons_succ, List.getElem?_cons_zero]
              change wpList _ _ _ [_] _ _
              go_wp2
              refine hP54 _ _ (by first | exact fun _ => .inl ⟨_, _, _, _, rfl, rfl⟩ | exact fun _ => ⟨_, _, rfl⟩) ?_
              refine wpPlan_leaf fun P55 hP55 => ?_
              simp only [List.filterMap_cons, List.filterMap_nil, List.getElem?_toArray, List.getElem?_cons_succ, List.getElem?_cons_zero]
              change wpList _ _ _ [_, _, _, _, _, _] _ _
              go_wp2_with (refine wpList_store_blk rfl 39 (.tmp 6) (.tmp 32) rfl w3.heap.size _ #[.bool mr, .int .i64 ty, .int .u16 0, .int .u32 0, .int .u32 0, .slice none 0 0, .bool false, .int .u16 0, .slice none 0 0, .slice none 0 0, .int .i64 pd] _ rfl rfl (heap_alloc_new w3 _) rfl (by kernel_rfl) (by simp [Value.oneCell']) ?_; intro w5 hi5 hg5)
              go_meet
              exact ⟨_, rfl, Lib.hid (HF.out.get hi5 hg5)⟩
            · refine wpPlan_check fun P56 hP56 => ?_
              simp only [List.filterMap_cons, List.filterMap_nil, List.getElem?_toArray, List.getElem?_cons_succ, List.getElem?_cons_zero]
              change wpList _ _ _ [_] _ _
              go_wp2
              refine hP56 _ _ (by first | exact fun _ => .inl ⟨_, _, _, _, rfl, rfl⟩ | exact fun _ => ⟨_, _, rfl⟩) ?_
              refine wpPlan_check fun P57 hP57 => ?_
              simp only [List.filterMap_cons, List.filterMap_nil, List.getElem?_toArray, List.getElem?_cons_succ, List.getElem?_cons_zero]
              change wpList _ _ _ [_] _ _
              go_wp2
              refine hP57 _ _ (by first | exact fun _ => .inl ⟨_, _, _, _, rfl, rfl⟩ | exact fun _ => ⟨_, _, rfl⟩) ?_
              refine wpPlan_leaf fun P58 hP58 => ?_
              simp only [List.filterMap_cons, List.filterMap_nil, List.getElem?_toArray, List.getElem?_cons_succ, List.getElem?_cons_zero]
              change wpList _ _ _ [_, _, _, _, _] _ _
              go_wp2_with (refine wpList_store_blk rfl 39 (.tmp 6) (.tmp 32) rfl w3.heap.size _ #[.bool mr, .int .i64 ty, .int .u16 0, .int .u32 0, .int .u32 0, .slice none 0 0, .bool false, .int .u16 0, .slice none 0 0, .slice none 0 0, .int .i64 pd] _ rfl rfl (heap_alloc_new w3 _) rfl (by kernel_rfl) (by simp [Value.oneCell']) ?_; intro w5 hi5 hg5)
              go_meet
              exact ⟨_, rfl, Lib.hid (HF.out.get hi5 hg5)⟩
          · refine wpPlan_fork fun P59 hP59 => ?_
            simp only [List.filterMap_nil]
            go_wp2
            refine hP59 _ _ ?_ ?_
            · refine wpPlan_check fun P60 hP60 => ?_
              simp only [List.filterMap_cons, List.filterMap_nil, List.getElem?_toArray, List.getElem?_cons_succ, List.getElem?_cons_zero]
              change wpList _ _ _ [_] _ _
              go_wp2
              refine hP60 _ _ (by first | exact fun _ => .inl ⟨_, _, _, _, rfl, rfl⟩ | exact fun _ => ⟨_, _, rfl⟩) ?_
              refine wpPlan_fork fun P61 hP61 => ?_
              simp only [List.filterMap_cons, List.filterMap_nil, List.getElem?_toArray, List.getElem?_cons_succ, List.getElem?_cons_zero]
              change wpList _ _ _ [_] _ _
              go_wp2
              refine hP61 _ _ ?_ ?_
              · refine wpPlan_check fun P62 hP62 => ?_
                simp only [List.filterMap_cons, List.filterMap_nil, List.getElem?_toArray, List.getElem?_cons_succ, List.getElem?_cons_zero]
                change wpList _ _ _ [_] _ _
                go_wp2
                refine hP62 _ _ (by first | exact fun _ => .inl ⟨_, _, _, _, rfl, rfl⟩ | exact fun _ => ⟨_, _, rfl⟩) ?_
                refine wpPlan_check fun P63 hP63 => ?_
                simp only [List.filterMap_cons, List.filterMap_nil, List.getElem?_toArray, List.getElem?_cons_succ, List.getElem?_cons_zero]
                change wpList _ _ _ [_] _ _
                go_wp2
                refine hP63 _ _ (by first | exact fun _ => .inl ⟨_, _, _, _, rfl, rfl⟩ | exact fun _ => ⟨_, _, rfl⟩) ?_
                refine wpPlan_leaf fun P64 hP64 => ?_
                simp only [List.filterMap_cons, List.filterMap_nil, List.getElem?_toArray, List.getElem?_cons_succ, List.getElem?_cons_zero]
                change wpList _ _ _ [_, _, _, _, _, _] _ _
                go_wp2_with (refine wpList_store_blk rfl 39 (.tmp 6) (.tmp 32) rfl w3.heap.size _ #[.bool mr, .int .i64 ty, .int .u16 0, .int .u32 0, .int .u32 0, .slice none 0 0, .bool false, .int .u16 0, .slice none 0 0, .slice none 0 0, .int .i64 pd] _ rfl rfl (heap_alloc_new w3 _) rfl (by kernel_rfl) (by simp [Value.oneCell']) ?_; intro w5 hi5 hg5)
                go_meet
                exact ⟨_, rfl, Lib.hid (HF.out.get hi5 hg5)⟩
              · refine wpPlan_check fun P65 hP65 => ?_
                simp only [List.filterMap_cons, List.filterMap_nil, List.getElem?_toArray, List.getElem?_cons_succ, List.getElem?_cons_zero]
                change wpList _ _ _ [_] _ _
                go_wp2
                refine hP65 _ _ (by first | exact fun _ => .inl ⟨_, _, _, _, rfl, rfl⟩ | exact fun _ => ⟨_, _, rfl⟩) ?_
                refine wpPlan_check fun P66 hP66 => ?_
                simp only [List.filterMap_cons, List.filterMap_nil, List.getElem?_toArray, List.getElem?_cons_succ, List.getElem?_cons_zero]
                change wpList _ _ _ [_] _ _
                go_wp2
                refine hP66 _ _ (by first | exact fun _ => .inl ⟨_, _, _, _, rfl, rfl⟩ | exact fun _ => ⟨_, _, rfl⟩) ?_
                refine wpPlan_leaf fun P67 hP67 => ?_
                simp only [List.filterMap_cons, List.filterMap_nil, List.getElem?_toArray, List.getElem?_cons_succ, List.getElem?_cons_zero]
                change wpList _ _ _ [_, _, _, _, _, _] _ _
                go_wp2_with (refine wpList_store_blk rfl 39 (.tmp 6) (.tmp 32) rfl w3.heap.size _ #[.bool mr, .int .i64 ty, .int .u16 0, .int .u32 0, .int .u32 0, .slice none 0 0, .bool false, .int .u16 0, .slice none 0 0, .slice none 0 0, .int .i64 pd] _ rfl rfl (heap_alloc_new w3 _) rfl (by kernel_rfl) (by simp [Value.oneCell']) ?_; intro w5 hi5 hg5)
                go_meet
                exact ⟨_, rfl, Lib.hid (HF.out.get hi5 hg5)⟩
            · refine wpPlan_check fun P68 hP68 => ?_
              simp only [List.filterMap_cons, List.filterMap_nil, List.getElem?_toArray, List.getElem?_cons_succ, List.getElem?_cons_zero]
              change wpList _ _ _ [_] _ _
              go_wp2
              refine hP68 _ _ (by first | exact fun _ => .inl ⟨_, _, _, _, rfl, rfl⟩ | exact fun _ => ⟨_, _, rfl⟩) ?_
              refine wpPlan_check fun P69 hP69 => ?_
              simp only [List.filterMap_cons, List.filterMap_nil, List.getElem?_toArray, List.getElem?_cons_succ, List.getElem?_cons_zero]
              change wpList _ _ _ [_] _ _
              go_wp2
              refine hP69 _ _ (by first | exact fun _ => .inl ⟨_, _, _, _, rfl, rfl⟩ | exact fun _ => ⟨_, _, rfl⟩) ?_
              refine wpPlan_fork fun P70 hP70 => ?_
              simp only [List.filterMap_cons, List.filterMap_nil, List.getElem?_toArray, List.getElem?_cons_succ, List.getElem?_cons_zero]
              change wpList _ _ _ [_] _ _
              go_wp2
              refine hP70 _ _ ?_ ?_
              · refine wpPlan_check fun P71 hP71 => ?_
                simp only [List.filterMap_cons, List.filterMap_nil, List.getElem?_toArray, List.getElem?_cons_succ, List.getElem?_cons_zero]
                change wpList _ _ _ [_] _ _
                go_wp2
                refine hP71 _ _ (by first | exact fun _ => .inl ⟨_, _, _, _, rfl, rfl⟩ | exact fun _ => ⟨_, _, rfl⟩) ?_
                refine wpPlan_leaf fun P72 hP72 => ?_
                simp only [List.filterMap_cons, List.filterMap_nil, List.getElem?_toArray, List.getElem?_cons_succ, List.getElem?_cons_zero]
                change wpList _ _ _ [_, _, _, _, _, _] _ _
                go_wp2_with (refine wpList_store_blk rfl 39 (.tmp 6) (.tmp 32) rfl w3.heap.size _ #[.bool mr, .int .i64 ty, .int .u16 0, .int .u32 0, .int .u32 0, .slice none 0 0, .bool false, .int .u16 0, .slice none 0 0, .slice none 0 0, .int .i64 pd] _ rfl rfl (heap_alloc_new w3 _) rfl (by kernel_rfl) (by simp [Value.oneCell']) ?_; intro w5 hi5 hg5)
                go_meet
                exact ⟨_, rfl, Lib.hid (HF.out.get hi5 hg5)⟩
              · refine wpPlan_check fun P73 hP73 => ?_
                simp only [List.filterMap_cons, List.filterMap_nil, List.getElem?_toArray, List.getElem?_cons_succ, List.getElem?_cons_zero]
                change wpList _ _ _ [_] _ _
                go_wp2
                refine hP73 _ _ (by first | exact fun _ => .inl ⟨_, _, _, _, rfl, rfl⟩ | exact fun _ => ⟨_, _, rfl⟩) ?_
                refine wpPlan_check fun P74 hP74 => ?_
                simp only [List.filterMap_cons, List.filterMap_nil, List.getElem?_toArray, List.getElem?_cons_succ, List.getElem?_cons_zero]
                change wpList _ _ _ [_] _ _
                go_wp2
                refine hP74 _ _ (by first | exact fun _ => .inl ⟨_, _, _, _, rfl, rfl⟩ | exact fun _ => ⟨_, _, rfl⟩) ?_
                refine wpPlan_leaf fun P75 hP75 => ?_
                simp only [List.filterMap_cons, List.filterMap_nil, List.getElem?_toArray, List.getElem?_cons_succ, List.getElem?_cons_zero]
                change wpList _ _ _ [_, _, _, _, _] _ _
                go_wp2_with (refine wpList_store_blk rfl 39 (.tmp 6) (.tmp 32) rfl w3.heap.size _ #[.bool mr, .int .i64 ty, .int .u16 0, .int .u32 0, .int .u32 0, .slice none 0 0, .bool false, .int .u16 0, .slice none 0 0, .slice none 0 0, .int .i64 pd] _ rfl rfl (heap_alloc_new w3 _) rfl (by kernel_rfl) (by simp [Value.oneCell']) ?_; intro w5 hi5 hg5)
                go_meet
                exact ⟨_, rfl, Lib.hid (HF.out.get hi5 hg5)⟩
        · refine wpPlan_check fun P76 hP76 => ?_
          simp only [List.filterMap_cons, List.filterMap_nil, List.getElem?_toArray, List.getElem?_cons_succ, List.getElem?_cons_zero]
          change wpList _ _ _ [_] _ _
          go_wp2
          refine hP76 _ _ (by first | exact fun _ => .inl ⟨_, _, _, _, rfl, rfl⟩ | exact fun _ => ⟨_, _, rfl⟩) ?_
          refine wpPlan_check fun P77 hP77 => ?_
          simp only [List.filterMap_cons, List.filterMap_nil, List.getElem?_toArray, List.getElem?_cons_succ, List.getElem?_cons_zero]
          change wpList _ _ _ [_] _ _
          go_wp2
          refine hP77 _ _ (by first | exact fun _ => .inl ⟨_, _, _, _, rfl, rfl⟩ | exact fun _ => ⟨_, _, rfl⟩) ?_
          refine wpPlan_fork fun P78 hP78 => ?_
          simp only [List.filterMap_cons, List.filterMap_nil, List.getElem?_toArray, List.getElem?_cons_succ, List.getElem?_cons_zero]
          change wpList _ _ _ [_] _ _
          go_wp2
          refine hP78 _ _ ?_ ?_
          · refine wpPlan_check fun P79 hP79 => ?_
            simp only [List.filterMap_cons, List.filterMap_nil, List.getElem?_toArray, List.getElem?_cons_succ, List.getElem?_cons_zero]
            change wpList _ _ _ [_] _ _
            go_wp2
            refine hP79 _ _ (by first | exact fun _ => .inl ⟨_, _, _, _, rfl, rfl⟩ | exact fun _ => ⟨_, _, rfl⟩) ?_
            refine wpPlan_check fun P80 hP80 => ?_
            simp only [List.filterMap_cons, List.filterMap_nil, List.getElem?_toArray, List.getElem?_cons_succ, List.getElem?_cons_zero]
            change wpList _ _ _ [_, _] _ _
            go_wp2
            refine hP80 _ _ (by first | exact fun _ => .inl ⟨_, _, _, _, rfl, rfl⟩ | exact fun _ => ⟨_, _, rfl⟩) ?_
            refine wpPlan_check fun P81 hP81 => ?_
            simp only [List.filterMap_cons, List.filterMap_nil, List.getElem?_toArray, List.getElem?_cons_succ, List.getElem?_cons_zero]
            change wpList _ _ _ [_] _ _
            go_wp2
            refine hP81 _ _ (by first | exact fun _ => .inl ⟨_, _, _, _, rfl, rfl⟩ | exact fun _ => ⟨_, _, rfl⟩) ?_
            refine wpPlan_fork fun P82 hP82 => ?_
            simp only [List.filterMap_cons, List.filterMap_nil, List.getElem?_toArray, List.getElem?_cons_succ, List.getElem?_cons_zero]
            change wpList _ _ _ [_] _ _
            go_wp2
            refine hP82 _ _ ?_ ?_
            · refine wpPlan_leaf fun P83 hP83 => ?_
              simp only [List.filterMap_cons, List.filterMap_nil, List.getElem?_toArray, List.getElem?_cons_succ, List.getElem?_cons_zero]
              change wpList _ _ _ [_, _, _] _ _
              go_wp2_with (refine wpList_store_blk rfl 39 (.tmp 6) (.tmp 32) rfl w3.heap.size _ #[.bool mr, .int .i64 ty, .int .u16 0, .int .u32 0, .int .u32 0, .slice none 0 0, .bool false, .int .u16 0, .slice none 0 0, .slice none 0 0, .int .i64 pd] _ rfl rfl (heap_alloc_new w3 _) rfl (by kernel_rfl) (by simp [Value.oneCell']) ?_; intro w5 hi5 hg5)
              go_meet
              exact ⟨_, rfl, Lib.hid (HF.out.get hi5 hg5)⟩
            · refine wpPlan_leaf fun P84 hP84 => ?_
              simp only [List.filterMap_cons, List.filterMap_nil, List.getElem?_toArray, List.getElem?_cons_succ, List.getElem?_cons_zero]
              change wpList _ _ _ [_, _, _] _ _
              go_wp2_with (refine wpList_store_blk rfl 39 (.tmp 6) (.tmp 32) rfl w3.heap.size _ #[.bool mr, .int .i64 ty, .int .u16 0, .int .u32 0, .int .u32 0, .slice none 0 0, .bool false, .int .u16 0, .slice none 0 0, .slice none 0 0, .int .i64 pd] _ rfl rfl (heap_alloc_new w3 _) rfl (by kernel_rfl) (by simp [Value.oneCell']) ?_; intro w5 hi5 hg5)
              go_meet
              exact ⟨_, rfl, Lib.hid (HF.out.get hi5 hg5)⟩
          · refine wpPlan_fork fun P85 hP85 => ?_
            simp only [List.filterMap_nil]
            go_wp2
            refine hP85 _ _ ?_ ?_
            · refine wpPlan_fork fun P86 hP86 => ?_
              simp only [List.filterMap_cons, List.filterMap_nil, List.getElem?_toArray, List.getElem?_cons_succ, List.getElem?_cons_zero]
              change wpList _ _ _ [_] _ _
              go_wp2
              refine hP86 _ _ ?_ ?_
              · refine wpPlan_check fun P87 hP87 => ?_
                simp only [List.filterMap_cons, List.filterMap_nil, List.getElem?_toArray, List.getElem?_cons_succ, List.getElem?_cons_zero]
                change wpList _ _ _ [_] _ _
                go_wp2
                refine hP87 _ _ (by first | exact fun _ => .inl ⟨_, _, _, _, rfl, rfl⟩ | exact fun _ => ⟨_, _, rfl⟩) ?_
                refine wpPlan_leaf fun P88 hP88 => ?_
                simp only [List.filterMap_cons, List.filterMap_nil, List.getElem?_toArray, List.getElem?_cons_succ, List.getElem?_cons_zero]
                change wpList _ _ _ [_, _, _, _, _, _] _ _
                go_wp2_with (refine wpList_store_blk rfl 39 (.tmp 6) (.tmp 32) rfl w3.heap.size _ #[.bool mr, .int .i64 ty, .int .u16 0, .int .u32 0, .int .u32 0, .slice none 0 0, .bool false, .int .u16 0, .slice none 0 0, .slice none 0 0, .int .i64 pd] _ rfl rfl (heap_alloc_new w3 _) rfl (by kernel_rfl) (by simp [Value.oneCell']) ?_; intro w5 hi5 hg5)
                go_meet
                exact ⟨_, rfl, Lib.hid (HF.out.get hi5 hg5)⟩
              · refine wpPlan_check fun P89 hP89 => ?_
                simp only [List.filterMap_cons, List.filterMap_nil, List.getElem?_toArray, List.getElem?_cons_succ, List.getElem?_cons_zero]
                change wpList _ _ _ [_] _ _
                go_wp2
                refine hP89 _ _ (by first | exact fun _ => .inl ⟨_, _, _, _, rfl, rfl⟩ | exact fun _ => ⟨_, _, rfl⟩) ?_
                refine wpPlan_check fun P90 hP90 => ?_
                simp only [List.filterMap_cons, List.filterMap_nil, List.getElem?_toArray, List.getElem?_cons_succ, List.getElem?_cons_zero]
                change wpList _ _ _ [_] _ _
                go_wp2
                refine hP90 _ _ (by first | exact fun _ => .inl ⟨_, _, _, _, rfl, rfl⟩ | exact fun _ => ⟨_, _, rfl⟩) ?_
                refine wpPlan_leaf fun P91 hP91 => ?_
                simp only [List.filterMap_cons, List.filterMap_nil, List.getElem?_toArray, List.getElem?_cons_succ, List.getElem?_cons_zero]
                change wpList _ _ _ [_, _, _, _, _] _ _
                go_wp2_with (refine wpList_store_blk rfl 39 (.tmp 6) (.tmp 32) rfl w3.heap.size _ #[.bool mr, .int .i64 ty, .int .u16 0, .int .u32 0, .int .u32 0, .slice none 0 0, .bool false, .int .u16 0, .slice none 0 0, .slice none 0 0, .int .i64 pd] _ rfl rfl (heap_alloc_new w3 _) rfl (by kernel_rfl) (by simp [Value.oneCell']) ?_; intro w5 hi5 hg5)
                go_meet
                exact ⟨_, rfl, Lib.hid (HF.out.get hi5 hg5)⟩
            · refine wpPlan_check fun P92 hP92 => ?_
              simp only [List.filterMap_cons, List.filterMap_nil, List.getElem?_toArray, List.getElem?_cons_succ, List.getElem?_cons_zero]
              change wpList _ _ _ [_] _ _
              go_wp2
              refine hP92 _ _ (by first | exact fun _ => .inl ⟨_, _, _, _, rfl, rfl⟩ | exact fun _ => ⟨_, _, rfl⟩) ?_
              refine wpPlan_check fun P93 hP93 => ?_
              simp only [List.filterMap_cons, List.filterMap_nil, List.getElem?_toArray, List.getElem?_cons_succ, List.getElem?_cons_zero]
              change wpList _ _ _ [_] _ _
              go_wp2
              refine hP93 _ _ (by first | exact fun _ => .inl ⟨_, _, _, _, rfl, rfl⟩ | exact fun _ => ⟨_, _, rfl⟩) ?_
              refine wpPlan_check fun P94 hP94 => ?_
              simp only [List.filterMap_cons, List.filterMap_nil, List.getElem?_toArray, List.getElem?_cons_succ, List.getElem?_cons_zero]
              change wpList _ _ _ [_, _] _ _
              go_wp2
              refine hP94 _ _ (by first | exact fun _ => .inl ⟨_, _, _, _, rfl, rfl⟩ | exact fun _ => ⟨_, _, rfl⟩) ?_
              refine wpPlan_fork fun P95 hP95 => ?_
              simp only [List.filterMap_cons, List.filterMap_nil, List.getElem?_toArray, List.getElem?_cons_succ, List.getElem?_cons_zero]
              change wpList _ _ _ [_] _ _
              go_wp2
              refine hP95 _ _ ?_ ?_
              · refine wpPlan_leaf fun P96 hP96 => ?_
                simp only [List.filterMap_cons, List.filterMap_nil, List.getElem?_toArray, List.getElem?_cons_succ, List.getElem?_cons_zero]
                change wpList _ _ _ [_, _, _] _ _
                go_wp2_with (refine wpList_store_blk rfl 39 (.tmp 6) (.tmp 32) rfl w3.heap.size _ #[.bool mr, .int .i64 ty, .int .u16 0, .int .u32 0, .int .u32 0, .slice none 0 0, .bool false, .int .u16 0, .slice none 0 0, .slice none 0 0, .int .i64 pd] _ rfl rfl (heap_alloc_new w3 _) rfl (by kernel_rfl) (by simp [Value.oneCell']) ?_; intro w5 hi5 hg5)
                go_meet
                exact ⟨_, rfl, Lib.hid (HF.out.get hi5 hg5)⟩
              · refine wpPlan_leaf fun P97 hP97 => ?_
                simp only [List.filterMap_cons, List.filterMap_nil, List.getElem?_toArray, List.getElem?_cons_succ, List.getElem?_cons_zero]
                change wpList _ _ _ [_, _, _] _ _
                go_wp2_with (refine wpList_store_blk rfl 39 (.tmp 6) (.tmp 32) rfl w3.heap.size _ #[.bool mr, .int .i64 ty, .int .u16 0, .int .u32 0, .int .u32 0, .slice none 0 0, .bool false, .int .u16 0, .slice none 0 0, .slice none 0 0, .int .i64 pd] _ rfl rfl (heap_alloc_new w3 _) rfl (by kernel_rfl) (by simp [Value.oneCell']) ?_; intro w5 hi5 hg5)
                go_meet
                exact ⟨_, rfl, Lib.hid (HF.out.get hi5 hg5)⟩
  case rest =>
    obtain ⟨g6, rfl, HP⟩ := hcut
    obtain ⟨sq, hsq⟩ : ∃ sq, getN l (2 : Nat) (2 : Nat) = sq := ⟨_, rfl⟩
    obtain ⟨tm, htm⟩ : ∃ tm, getN l (4 : Nat) (4 : Nat) = tm := ⟨_, rfl⟩
    obtain ⟨ss, hss⟩ : ∃ ss, getN l (8 : Nat) (4 : Nat) = ss := ⟨_, rfl⟩
    have hsq2 : sq < 65536 := by rw [← hsq]; exact getN_ltS l _ 2
    have htm2 : tm < 4294967296 := by rw [← htm]; exact getN_ltS l _ 4
    have hss2 : ss < 4294967296 := by rw [← hss]; exact getN_ltS l _ 4
    have HN3 := Lib.hid (And.intro hsq (And.intro htm hss))
    clear hsq htm hss
    obtain ⟨⟨p2, f2⟩, ⟨p3, f3⟩, ⟨p4, f4⟩, hi5, hg5⟩ := eleven_234 HP.out.pk (.int .u16 sq) (.int .u32 tm) (.int .u32 ss)
    have HP5 := Lib.hid (HP.out.item hi5 hg5)
    clear hi5 hg5
    have c0 := below_cell HP5.out.b HC0.out
    obtain ⟨_, _, a15, _, _, q16⟩ := rtpbits _ hy0
    obtain ⟨xb, hxb⟩ : ∃ xb, exB l = xb := ⟨_, rfl⟩
    have q16' : (bits .and .u8 (byteN l 0) 16 != 0) = xb := by rw [← hxb]; exact q16
    have HXB := Lib.hid hxb
    clear q16 hxb
    have a15' : bits .and .u8 (byteN l 0) 15 = ((nCs l : Nat) : Int) := a15
    have hm15 : nCs l ≤ 15 := by have := nCs_lt l; omega
    generalize hW : (((wc.setCell ⟨g6, 2, none⟩ (.int .u16 sq)).setCell ⟨g6, 3, none⟩ (.int .u32 tm)).setCell ⟨g6, 4, none⟩ (.int .u32 ss)) = w5 at *
    go_wp2_with (first
      | (go_at_call 115; (with_reducible refine (number_v (some ad) n c l 2 2 2 2 rfl rfl _ (HB.out.below HP.out.b) (by omega) (by omega) sq HN3.out.1).mono ?_); rintro e w6 ⟨rfl, rfl⟩)
      | (go_at_call 115; (with_reducible refine (number_v (some ad) n c l 4 4 4 4 rfl rfl _ (HB.out.below HP.out.b) (by omega) (by omega) tm HN3.out.2.1).mono ?_); rintro e w6 ⟨rfl, rfl⟩)
      | (go_at_call 115; (with_reducible refine (number_v (some ad) n c l 8 4 8 4 rfl rfl _ (HB.out.below HP.out.b) (by omega) (by omega) ss HN3.out.2.2).mono ?_); rintro e w6 ⟨rfl, rfl⟩))
    go_loopw [50] (fun ix wr => ∃ (k : Nat) (C : Option Addr) (cC : Nat), ix = .int .i64 k ∧ k ≤ nCs l ∧ Hid (GP w wr w1.heap.size g6 #[.int .i64 (extA l : Nat), .int .i64 (frmA l : Nat), .int .i64 (lookT l : Nat)] #[.bool mr, .int .i64 ty, .int .u16 sq, .int .u32 tm, .int .u32 ss, .slice C k cC, .bool false, .int .u16 0, .slice none 0 0, .slice none 0 0, .int .i64 pd] C k cC (csL l k))) (fun ix _ => nCs l - (intOf ix).toNat)
    case atStart => exact ⟨0, none, 0, rfl, Nat.zero_le _, HP5⟩
    case round =>
      obtain ⟨k, C, cC, rfl, hkn, HPk⟩ := hrel
      by_cases hlt : k < nCs l
      · have HS := Lib.hid (csL_succ l k)
        have hz : (12 : Int) + 4 * (k : Int) = ((12 + 4 * k : Nat) : Int) := by omega
        have HZ := Lib.hid hz
        have hz2 : getN l ((12 + 4 * k : Nat) : Int) 4 < 4294967296 := getN_ltS l _ 4
        obtain ⟨z, hx⟩ : ∃ z, getN l ((12 + 4 * k : Nat) : Int) 4 = z := ⟨_, rfl⟩
        rw [hx] at hz2
        have HS : Hid (csL l (k + 1) = csL l k ++ [z]) := by show _ = _; rw [csL_succ, hx]
        have HX : Hid (getN l ((12 + 4 * k : Nat) : Int) ((4 : Nat) : Int) = z) := hx
        clear hz hx
        go_wp2_with fail
        refine region_planA (calmB_sound _) (.check [0, 2, 3] 4 (.check [4] 5 (.fork [5] (.check [6] 7 (.leaf [7, 1, 8, 9, 10, 11])) (.leaf [1, 6, 7, 8, 9, 10, 11])))) (by kernel_rfl) (by kernel_rfl) (by kernel_rfl) ?_
        have HP9 := Lib.hid HPk.out.drew
        generalize wr.drew = w9 at *
        obtain ⟨x0, x1, x2, x3, x4, x5, x6, x7, x8, x9, x10⟩ := eleven_cells HP9.out.pk
        refine wpPlan_check fun P1 hP1 => ?_
        simp only [List.filterMap_cons, List.filterMap_nil, List.getElem?_toArray, List.getElem?_cons_succ, List.getElem?_cons_zero]
        change wpList _ _ _ [_, _, _] _ _
        go_wp2
        refine hP1 _ _ (by first | exact fun _ => .inl ⟨_, _, _, _, rfl, rfl⟩ | exact fun _ => ⟨_, _, rfl⟩) ?_
        refine wpPlan_check fun P2 hP2 => ?_
        simp only [List.filterMap_cons, List.filterMap_nil, List.getElem?_toArray, List.getElem?_cons_succ, List.getElem?_cons_zero]
        change wpList _ _ _ [_] _ _
        go_wp2
        refine hP2 _ _ (by first | exact fun _ => .inl ⟨_, _, _, _, rfl, rfl⟩ | exact fun _ => ⟨_, _, rfl⟩) ?_
        refine wpPlan_fork fun P3 hP3 => ?_
        simp only [List.filterMap_cons, List.filterMap_nil, List.getElem?_toArray, List.getElem?_cons_succ, List.getElem?_cons_zero]
        change wpList _ _ _ [_] _ _
        go_wp2
        refine hP3 _ _ ?_ ?_
        · refine wpPlan_check fun P4 hP4 => ?_
          simp only [List.filterMap_cons, List.filterMap_nil, List.getElem?_toArray, List.getElem?_cons_succ, List.getElem?_cons_zero]
          change wpList _ _ _ [_] _ _
          go_wp2_with (first | (go_at_call 115; (with_reducible refine (number_v (some ad) n c l _ 4 (12 + 4 * k) 4 HZ.out rfl _ (HB.out.below HP9.out.b) (by omega) (by omega) z HX.out).mono ?_); rintro e w6 ⟨rfl, rfl⟩) | (at_builtin; refine wpList_app slU32R rfl _ _ rfl w.heap.size C k cC (u32s (csL l k)) rfl (HP9.out.alloc _).own (some ⟨_, 0, none⟩) 1 1 [.int .u32 z] rfl rfl (lit_u32 _ z) (by simp [Value.oneCell']) (by omega) (HP9.out.alloc _).b.size ?_; intro C1 c1 wa ho hg hA; have hGa := HP9.out.app hg ho; obtain ⟨⟨z5, e5⟩, hib, hgb⟩ := eleven_5 hGa.pk (.slice C1 (k + 1) c1); have HGb := Lib.hid (hGa.item hib hgb); clear hGa ho hg hib hgb))
          refine hP4 _ _ (by first | exact fun _ => .inl ⟨_, _, _, _, rfl, rfl⟩ | exact fun _ => ⟨_, _, rfl⟩) ?_
          refine wpPlan_leaf fun P5 hP5 => ?_
          simp only [List.filterMap_cons, List.filterMap_nil, List.getElem?_toArray, List.getElem?_cons_succ, List.getElem?_cons_zero]
          change wpList _ _ _ [_, _, _, _, _, _] _ _
          go_wp2_with (first | (go_at_call 115; (with_reducible refine (number_v (some ad) n c l _ 4 (12 + 4 * k) 4 HZ.out rfl _ (HB.out.below HP9.out.b) (by omega) (by omega) z HX.out).mono ?_); rintro e w6 ⟨rfl, rfl⟩) | (at_builtin; refine wpList_app slU32R rfl _ _ rfl w.heap.size C k cC (u32s (csL l k)) rfl (HP9.out.alloc _).own (some ⟨_, 0, none⟩) 1 1 [.int .u32 z] rfl rfl (lit_u32 _ z) (by simp [Value.oneCell']) (by omega) (HP9.out.alloc _).b.size ?_; intro C1 c1 wa ho hg hA; have hGa := HP9.out.app hg ho; obtain ⟨⟨z5, e5⟩, hib, hgb⟩ := eleven_5 hGa.pk (.slice C1 (k + 1) c1); have HGb := Lib.hid (hGa.item hib hgb); clear hGa ho hg hib hgb))
          exact ⟨⟨k + 1, C1, c1, rfl, by omega, by rw [HS.out]; exact HGb⟩, by simp [intOf]; omega⟩
        · refine wpPlan_leaf fun P6 hP6 => ?_
          simp only [List.filterMap_cons, List.filterMap_nil, List.getElem?_toArray, List.getElem?_cons_succ, List.getElem?_cons_zero]
          change wpList _ _ _ [_, _, _, _, _, _, _] _ _
          go_wp2_with (first | (go_at_call 115; (with_reducible refine (number_v (some ad) n c l _ 4 (12 + 4 * k) 4 HZ.out rfl _ (HB.out.below HP9.out.b) (by omega) (by omega) z HX.out).mono ?_); rintro e w6 ⟨rfl, rfl⟩) | (at_builtin; refine wpList_app slU32R rfl _ _ rfl w.heap.size C k cC (u32s (csL l k)) rfl (HP9.out.alloc _).own (some ⟨_, 0, none⟩) 1 1 [.int .u32 z] rfl rfl (lit_u32 _ z) (by simp [Value.oneCell']) (by omega) (HP9.out.alloc _).b.size ?_; intro C1 c1 wa ho hg hA; have hGa := HP9.out.app hg ho; obtain ⟨⟨z5, e5⟩, hib, hgb⟩ := eleven_5 hGa.pk (.slice C1 (k + 1) c1); have HGb := Lib.hid (hGa.item hib hgb); clear hGa ho hg hib hgb))
          exact ⟨⟨k + 1, C1, c1, rfl, by omega, by rw [HS.out]; exact HGb⟩, by simp [intOf]; omega⟩
      · have hkk : k = nCs l := by omega
        subst hkk
        have cK := below_cell HPk.out.b HC0.out
        go_upto_if 69 with fail
        go_cut [] from 70 to 85 (fun wx => ∃ E ec, Hid (GP w wx w1.heap.size g6 #[.int .i64 (extA l : Nat), .int .i64 (frmA l : Nat), .int .i64 (lookT l : Nat)] #[.bool mr, .int .i64 ty, .int .u16 sq, .int .u32 tm, .int .u32 ss, .slice C (nCs l) cC, .bool xb, .int .u16 (pfG l), .slice E (exG l).length ec, .slice none 0 0, .int .i64 pd] C (nCs l) cC (csL l (nCs l))) ∧ Hid (wx.ownsRow w.heap.size 5 1 (.slice E (exG l).length ec) (exG l).length (bys (exG l))))
        case first =>
          cases xb
          · have hx : exB l = false := HXB.out
            have hp : pfG l = 0 := by unfold pfG; rw [hx]; rfl
            have he : exG l = [] := by unfold exG; rw [hx]; rfl
            have HPE := Lib.hid (And.intro hp he)
            clear hp he hx
            go_wp2_with fail
            go_meet
            exact ⟨none, 0, by rw [HPE.out.1, HPE.out.2]; exact HPk, by rw [HPE.out.2]; exact Lib.hid (World.ownsRow_nil _ _ _ _)⟩
          · have hx : exB l = true := HXB.out
            have hxa : extA l = atP l + 4 := by unfold extA; rw [hx]; rfl
            have hen : exG l = (l.drop (extA l)).take (frmA l - extA l) := by unfold exG; rw [hx]; rfl
            have hel : (exG l).length = frmA l - extA l := by rw [hen, List.length_take, List.length_drop]; omega
            have HZ : Hid (((extA l : Nat) : Int) - 4 = ((atP l : Nat) : Int)) := by show _ = _; omega
            have HX : Hid (getN l ((atP l : Nat) : Int) ((2 : Nat) : Int) = pfG l) := by show _ = _; unfold pfG; rw [hx]; rfl
            have hpf : pfG l < 65536 := by rw [← HX.out]; exact getN_ltS l _ 2
            have e1 : ((extA l : Nat) : Int) ≤ ((frmA l : Nat) : Int) := by omega
            clear hxa hx
            by_cases hce : c = extA l
            · subst hce
              have HEn : Hid ((exG l).length = 0) := by show _ = _; rw [hel]; omega
              have HEl := Lib.hid (List.eq_nil_of_length_eq_zero HEn.out)
              clear hel
              have HR1 : Hid (∀ w', Below w.heap.size w w' → Rd w' (some ad) (bys (exG l))) := fun w' hb => by rw [hen]; exact part_nil (HB.out.below hb) _ _ (by omega) rfl
              have e2 : ((frmA l : Nat) : Int) ≤ ((extA l) : Int) := by omega
              have e3 : frmA l ≤ (extA l) := by omega
              clear hen
              go_wp2_with fail
              refine region_planA (calmB_sound _) (.check [0, 1, 2, 6, 7, 9, 13] 3 (.fork [3] (.fork [8] (.check [10, 11, 4] 5 (.leaf [5, 12, 14, 15, 16, 17, 18])) (.check [4] 5 (.leaf [5, 10, 11, 12, 14, 15, 16, 17, 18]))) (.fork [] (.fork [10] (.check [8, 11, 4] 5 (.leaf [5, 12, 14, 15, 16, 17, 18])) (.check [4] 5 (.leaf [5, 8, 11, 12, 14, 15, 16, 17, 18]))) (.check [4] 5 (.leaf [5, 8, 10, 11, 12, 14, 15, 16, 17, 18]))))) (by kernel_rfl) (by kernel_rfl) (by kernel_rfl) ?_
              have HP9 := Lib.hid HPk.out.drew
              generalize wr.drew = w9 at *
              obtain ⟨x0, x1, x2, x3, x4, x5, x6, x7, x8, x9, x10⟩ := eleven_cells HP9.out.pk
              obtain ⟨s0, s1, s2⟩ := three_cells HP9.out.sh
              refine wpPlan_check fun P1 hP1 => ?_
              simp only [List.filterMap_cons, List.filterMap_nil, List.getElem?_toArray, List.getElem?_cons_succ, List.getElem?_cons_zero]
              change wpList _ _ _ [_, _, _, _, _, _, _] _ _
              go_wp2
              refine hP1 _ _ (by first | exact fun _ => .inl ⟨_, _, _, _, rfl, rfl⟩ | exact fun _ => ⟨_, _, rfl⟩) ?_
              refine wpPlan_fork fun P2 hP2 => ?_
              simp only [List.filterMap_cons, List.filterMap_nil, List.getElem?_toArray, List.getElem?_cons_succ, List.getElem?_cons_zero]
              change wpList _ _ _ [_] _ _
              go_wp2
              refine hP2 _ _ ?_ ?_
              · refine wpPlan_fork fun P3 hP3 => ?_
                simp only [List.filterMap_cons, List.filterMap_nil, List.getElem?_toArray, List.getElem?_cons_succ, List.getElem?_cons_zero]
                change wpList _ _ _ [_] _ _
                go_wp2
                refine hP3 _ _ ?_ ?_
                · refine wpPlan_check fun P4 hP4 => ?_
                  simp only [List.filterMap_cons, List.filterMap_nil, List.getElem?_toArray, List.getElem?_cons_succ, List.getElem?_cons_zero]
                  change wpList _ _ _ [_, _, _] _ _
                  go_wp2_with (first | (go_at_call 115; (with_reducible refine (number_v (some ad) n (extA l) l _ 2 (atP l) 2 HZ.out rfl _ (HB.out.below HP9.out.b) (by omega) (by omega) (pfG l) HX.out).mono ?_); rintro e w6 ⟨rfl, rfl⟩) | (go_at_call 101; (with_reducible refine (cloneB_any (some ad) 0 _ (exG l) _ HEn.out (by omega) nofun (HR1.out _ HP9.out.b)).mono ?_); rintro e wE ⟨A, c', rfl, ho, hb⟩; have HPE := Lib.hid (HP9.out.below hb); obtain ⟨⟨p6, f6⟩, ⟨p7, f7⟩, ⟨p8, f8⟩, hi, hg⟩ := eleven_678 HPE.out.pk (.bool true) (.int .u16 (pfG l)) (.slice A 0 c'); have HPF := Lib.hid (HPE.out.item hi hg); have HEO := Lib.hid (own_mono (ho.kept hg (own_off ho HPE.out.pk (by decide))) HP9.out.b.size); clear hi hg ho hb))
                  refine hP4 _ _ (by first | exact fun _ => .inl ⟨_, _, _, _, rfl, rfl⟩ | exact fun _ => ⟨_, _, rfl⟩) ?_
                  refine wpPlan_leaf fun P5 hP5 => ?_
                  simp only [List.filterMap_cons, List.filterMap_nil, List.getElem?_toArray, List.getElem?_cons_succ, List.getElem?_cons_zero]
                  change wpList _ _ _ [_, _, _, _, _, _, _] _ _
                  go_wp2_with (first | (go_at_call 115; (with_reducible refine (number_v (some ad) n (extA l) l _ 2 (atP l) 2 HZ.out rfl _ (HB.out.below HP9.out.b) (by omega) (by omega) (pfG l) HX.out).mono ?_); rintro e w6 ⟨rfl, rfl⟩) | (go_at_call 101; (with_reducible refine (cloneB_any (some ad) 0 _ (exG l) _ HEn.out (by omega) nofun (HR1.out _ HP9.out.b)).mono ?_); rintro e wE ⟨A, c', rfl, ho, hb⟩; have HPE := Lib.hid (HP9.out.below hb); obtain ⟨⟨p6, f6⟩, ⟨p7, f7⟩, ⟨p8, f8⟩, hi, hg⟩ := eleven_678 HPE.out.pk (.bool true) (.int .u16 (pfG l)) (.slice A 0 c'); have HPF := Lib.hid (HPE.out.item hi hg); have HEO := Lib.hid (own_mono (ho.kept hg (own_off ho HPE.out.pk (by decide))) HP9.out.b.size); clear hi hg ho hb))
                  go_meet
                  exact ⟨A, c', by rw [HEn.out]; exact HPF, by rw [HEn.out]; exact HEO⟩
                · refine wpPlan_check fun P6 hP6 => ?_
                  simp only [List.filterMap_cons, List.filterMap_nil, List.getElem?_toArray, List.getElem?_cons_succ, List.getElem?_cons_zero]
                  change wpList _ _ _ [_] _ _
                  go_wp2_with (first | (go_at_call 115; (with_reducible refine (number_v (some ad) n (extA l) l _ 2 (atP l) 2 HZ.out rfl _ (HB.out.below HP9.out.b) (by omega) (by omega) (pfG l) HX.out).mono ?_); rintro e w6 ⟨rfl, rfl⟩) | (go_at_call 101; (with_reducible refine (cloneB_any (some ad) 0 _ (exG l) _ HEn.out (by omega) nofun (HR1.out _ HP9.out.b)).mono ?_); rintro e wE ⟨A, c', rfl, ho, hb⟩; have HPE := Lib.hid (HP9.out.below hb); obtain ⟨⟨p6, f6⟩, ⟨p7, f7⟩, ⟨p8, f8⟩, hi, hg⟩ := eleven_678 HPE.out.pk (.bool true) (.int .u16 (pfG l)) (.slice A 0 c'); have HPF := Lib.hid (HPE.out.item hi hg); have HEO := Lib.hid (own_mono (ho.kept hg (own_off ho HPE.out.pk (by decide))) HP9.out.b.size); clear hi hg ho hb))
                  refine hP6 _ _ (by first | exact fun _ => .inl ⟨_, _, _, _, rfl, rfl⟩ | exact fun _ => ⟨_, _, rfl⟩) ?_
                  refine wpPlan_leaf fun P7 hP7 => ?_
                  simp only [List.filterMap_cons, List.filterMap_nil, List.getElem?_toArray, List.getElem?_cons_succ, List.getElem?_cons_zero]
                  change wpList _ _ _ [_, _, _, _, _, _, _, _, _] _ _
                  go_wp2_with (first | (go_at_call 115; (with_reducible refine (number_v (some ad) n (extA l) l _ 2 (atP l) 2 HZ.out rfl _ (HB.out.below HP9.out.b) (by omega) (by omega) (pfG l) HX.out).mono ?_); rintro e w6 ⟨rfl, rfl⟩) | (go_at_call 101; (with_reducible refine (cloneB_any (some ad) 0 _ (exG l) _ HEn.out (by omega) nofun (HR1.out _ HP9.out.b)).mono ?_); rintro e wE ⟨A, c', rfl, ho, hb⟩; have HPE := Lib.hid (HP9.out.below hb); obtain ⟨⟨p6, f6⟩, ⟨p7, f7⟩, ⟨p8, f8⟩, hi, hg⟩ := eleven_678 HPE.out.pk (.bool true) (.int .u16 (pfG l)) (.slice A 0 c'); have HPF := Lib.hid (HPE.out.item hi hg); have HEO := Lib.hid (own_mono (ho.kept hg (own_off ho HPE.out.pk (by decide))) HP9.out.b.size); clear hi hg ho hb))
                  go_meet
                  exact ⟨A, c', by rw [HEn.out]; exact HPF, by rw [HEn.out]; exact HEO⟩
              · refine wpPlan_fork fun P8 hP8 => ?_
                simp only [List.filterMap_nil]
                go_wp2
                refine hP8 _ _ ?_ ?_
                · refine wpPlan_fork fun P9 hP9 => ?_
                  simp only [List.filterMap_cons, List.filterMap_nil, List.getElem?_toArray, List.getElem?_cons_succ, List.getElem?_cons_zero]
                  change wpList _ _ _ [_] _ _
                  go_wp2
                  refine hP9 _ _ ?_ ?_
                  · refine wpPlan_check fun P10 hP10 => ?_
                    simp only [List.filterMap_cons, List.filterMap_nil, List.getElem?_toArray, List.getElem?_cons_succ, List.getElem?_cons_zero]
                    change wpList _ _ _ [_, _, _] _ _
                    go_wp2_with (first | (go_at_call 115; (with_reducible refine (number_v (some ad) n (extA l) l _ 2 (atP l) 2 HZ.out rfl _ (HB.out.below HP9.out.b) (by omega) (by omega) (pfG l) HX.out).mono ?_); rintro e w6 ⟨rfl, rfl⟩) | (go_at_call 101; (with_reducible refine (cloneB_any (some ad) 0 _ (exG l) _ HEn.out (by omega) nofun (HR1.out _ HP9.out.b)).mono ?_); rintro e wE ⟨A, c', rfl, ho, hb⟩; have HPE := Lib.hid (HP9.out.below hb); obtain ⟨⟨p6, f6⟩, ⟨p7, f7⟩, ⟨p8, f8⟩, hi, hg⟩ := eleven_678 HPE.out.pk (.bool true) (.int .u16 (pfG l)) (.slice A 0 c'); have HPF := Lib.hid (HPE.out.item hi hg); have HEO := Lib.hid (own_mono (ho.kept hg (own_off ho HPE.out.pk (by decide))) HP9.out.b.size); clear hi hg ho hb))
                    refine hP10 _ _ (by first | exact fun _ => .inl ⟨_, _, _, _, rfl, rfl⟩ | exact fun _ => ⟨_, _, rfl⟩) ?_
                    refine wpPlan_leaf fun P11 hP11 => ?_
                    simp only [List.filterMap_cons, List.filterMap_nil, List.getElem?_toArray, List.getElem?_cons_succ, List.getElem?_cons_zero]
                    change wpList _ _ _ [_, _, _, _, _, _, _] _ _
                    go_wp2_with (first | (go_at_call 115; (with_reducible refine (number_v (some ad) n (extA l) l _ 2 (atP l) 2 HZ.out rfl _ (HB.out.below HP9.out.b) (by omega) (by omega) (pfG l) HX.out).mono ?_); rintro e w6 ⟨rfl, rfl⟩) | (go_at_call 101; (with_reducible refine (cloneB_any (some ad) 0 _ (exG l) _ HEn.out (by omega) nofun (HR1.out _ HP9.out.b)).mono ?_); rintro e wE ⟨A, c', rfl, ho, hb⟩; have HPE := Lib.hid (HP9.out.below hb); obtain ⟨⟨p6, f6⟩, ⟨p7, f7⟩, ⟨p8, f8⟩, hi, hg⟩ := eleven_678 HPE.out.pk (.bool true) (.int .u16 (pfG l)) (.slice A 0 c'); have HPF := Lib.hid (HPE.out.item hi hg); have HEO := Lib.hid (own_mono (ho.kept hg (own_off ho HPE.out.pk (by decide))) HP9.out.b.size); clear hi hg ho hb))
                    go_meet
                    exact ⟨A, c', by rw [HEn.out]; exact HPF, by rw [HEn.out]; exact HEO⟩
                  · refine wpPlan_check fun P12 hP12 => ?_
                    simp only [List.filterMap_cons, List.filterMap_nil, List.getElem?_toArray, List.getElem?_cons_succ, List.getElem?_cons_zero]
                    change wpList _ _ _ [_] _ _
                    go_wp2_with (first | (go_at_call 115; (with_reducible refine (number_v (some ad) n (extA l) l _ 2 (atP l) 2 HZ.out rfl _ (HB.out.below HP9.out.b) (by omega) (by omega) (pfG l) HX.out).mono ?_); rintro e w6 ⟨rfl, rfl⟩) | (go_at_call 101; (with_reducible refine (cloneB_any (some ad) 0 _ (exG l) _ HEn.out (by omega) nofun (HR1.out _ HP9.out.b)).mono ?_); rintro e wE ⟨A, c', rfl, ho, hb⟩; have HPE := Lib.hid (HP9.out.below hb); obtain ⟨⟨p6, f6⟩, ⟨p7, f7⟩, ⟨p8, f8⟩, hi, hg⟩ := eleven_678 HPE.out.pk (.bool true) (.int .u16 (pfG l)) (.slice A 0 c'); have HPF := Lib.hid (HPE.out.item hi hg); have HEO := Lib.hid (own_mono (ho.kept hg (own_off ho HPE.out.pk (by decide))) HP9.out.b.size); clear hi hg ho hb))
                    refine hP12 _ _ (by first | exact fun _ => .inl ⟨_, _, _, _, rfl, rfl⟩ | exact fun _ => ⟨_, _, rfl⟩) ?_
                    refine wpPlan_leaf fun P13 hP13 => ?_
                    simp only [List.filterMap_cons, List.filterMap_nil, List.getElem?_toArray, List.getElem?_cons_succ, List.getElem?_cons_zero]
                    change wpList _ _ _ [_, _, _, _, _, _, _, _, _] _ _
                    go_wp2_with (first | (go_at_call 115; (with_reducible refine (number_v (some ad) n (extA l) l _ 2 (atP l) 2 HZ.out rfl _ (HB.out.below HP9.out.b) (by omega) (by omega) (pfG l) HX.out).mono ?_); rintro e w6 ⟨rfl, rfl⟩) | (go_at_call 101; (with_reducible refine (cloneB_any (some ad) 0 _ (exG l) _ HEn.out (by omega) nofun (HR1.out _ HP9.out.b)).mono ?_); rintro e wE ⟨A, c', rfl, ho, hb⟩; have HPE := Lib.hid (HP9.out.below hb); obtain ⟨⟨p6, f6⟩, ⟨p7, f7⟩, ⟨p8, f8⟩, hi, hg⟩ := eleven_678 HPE.out.pk (.bool true) (.int .u16 (pfG l)) (.slice A 0 c'); have HPF := Lib.hid (HPE.out.item hi hg); have HEO := Lib.hid (own_mono (ho.kept hg (own_off ho HPE.out.pk (by decide))) HP9.out.b.size); clear hi hg ho hb))
                    go_meet
                    exact ⟨A, c', by rw [HEn.out]; exact HPF, by rw [HEn.out]; exact HEO⟩
                · refine wpPlan_check fun P14 hP14 => ?_
                  simp only [List.filterMap_cons, List.filterMap_nil, List.getElem?_toArray, List.getElem?_cons_succ, List.getElem?_cons_zero]
                  change wpList _ _ _ [_] _ _
                  go_wp2_with (first | (go_at_call 115; (with_reducible refine (number_v (some ad) n (extA l) l _ 2 (atP l) 2 HZ.out rfl _ (HB.out.below HP9.out.b) (by omega) (by omega) (pfG l) HX.out).mono ?_); rintro e w6 ⟨rfl, rfl⟩) | (go_at_call 101; (with_reducible refine (cloneB_any (some ad) 0 _ (exG l) _ HEn.out (by omega) nofun (HR1.out _ HP9.out.b)).mono ?_); rintro e wE ⟨A, c', rfl, ho, hb⟩; have HPE := Lib.hid (HP9.out.below hb); obtain ⟨⟨p6, f6⟩, ⟨p7, f7⟩, ⟨p8, f8⟩, hi, hg⟩ := eleven_678 HPE.out.pk (.bool true) (.int .u16 (pfG l)) (.slice A 0 c'); have HPF := Lib.hid (HPE.out.item hi hg); have HEO := Lib.hid (own_mono (ho.kept hg (own_off ho HPE.out.pk (by decide))) HP9.out.b.size); clear hi hg ho hb))
                  refine hP14 _ _ (by first | exact fun _ => .inl ⟨_, _, _, _, rfl, rfl⟩ | exact fun _ => ⟨_, _, rfl⟩) ?_
                  refine wpPlan_leaf fun P15 hP15 => ?_
                  simp only [List.filterMap_cons, List.filterMap_nil, List.getElem?_toArray, List.getElem?_cons_succ, List.getElem?_cons_zero]
                  change wpList _ _ _ [_, _, _, _, _, _, _, _, _, _] _ _
                  go_wp2_with (first | (go_at_call 115; (with_reducible refine (number_v (some ad) n (extA l) l _ 2 (atP l) 2 HZ.out rfl _ (HB.out.below HP9.out.b) (by omega) (by omega) (pfG l) HX.out).mono ?_); rintro e w6 ⟨rfl, rfl⟩) | (go_at_call 101; (with_reducible refine (cloneB_any (some ad) 0 _ (exG l) _ HEn.out (by omega) nofun (HR1.out _ HP9.out.b)).mono ?_); rintro e wE ⟨A, c', rfl, ho, hb⟩; have HPE := Lib.hid (HP9.out.below hb); obtain ⟨⟨p6, f6⟩, ⟨p7, f7⟩, ⟨p8, f8⟩, hi, hg⟩ := eleven_678 HPE.out.pk (.bool true) (.int .u16 (pfG l)) (.slice A 0 c'); have HPF := Lib.hid (HPE.out.item hi hg); have HEO := Lib.hid (own_mono (ho.kept hg (own_off ho HPE.out.pk (by decide))) HP9.out.b.size); clear hi hg ho hb))
                  go_meet
                  exact ⟨A, c', by rw [HEn.out]; exact HPF, by rw [HEn.out]; exact HEO⟩
            · have HEn := Lib.hid hel
              clear hel
              have HR1 : Hid (∀ w', Below w.heap.size w w' → Rd w' (some (ad.add (extA l))) (bys (exG l))) := fun w' hb => by rw [hen]; exact part_rd (HB.out.below hb) _ _ (by omega)
              have e2 : ((frmA l : Nat) : Int) ≤ (c : Int) := by omega
              have e3 : frmA l ≤ c := by omega
              clear hen
              go_wp2_with fail
              refine region_planA (calmB_sound _) (.check [0, 1, 2, 6, 7, 9, 13] 3 (.fork [3] (.fork [8] (.check [10, 11, 4] 5 (.leaf [5, 12, 14, 15, 16, 17, 18])) (.check [4] 5 (.leaf [5, 10, 11, 12, 14, 15, 16, 17, 18]))) (.fork [] (.fork [10] (.check [8, 11, 4] 5 (.leaf [5, 12, 14, 15, 16, 17, 18])) (.check [4] 5 (.leaf [5, 8, 11, 12, 14, 15, 16, 17, 18]))) (.check [4] 5 (.leaf [5, 8, 10, 11, 12, 14, 15, 16, 17, 18]))))) (by kernel_rfl) (by kernel_rfl) (by kernel_rfl) ?_
              have HP9 := Lib.hid HPk.out.drew
              generalize wr.drew = w9 at *
              obtain ⟨x0, x1, x2, x3, x4, x5, x6, x7, x8, x9, x10⟩ := eleven_cells HP9.out.pk
              obtain ⟨s0, s1, s2⟩ := three_cells HP9.out.sh
              refine wpPlan_check fun P1 hP1 => ?_
              simp only [List.filterMap_cons, List.filterMap_nil, List.getElem?_toArray, List.getElem?_cons_succ, List.getElem?_cons_zero]
              change wpList _ _ _ [_, _, _, _, _, _, _] _ _
              go_wp2
              refine hP1 _ _ (by first | exact fun _ => .inl ⟨_, _, _, _, rfl, rfl⟩ | exact fun _ => ⟨_, _, rfl⟩) ?_
              refine wpPlan_fork fun P2 hP2 => ?_
              simp only [List.filterMap_cons, List.filterMap_nil, List.getElem?_toArray, List.getElem?_cons_succ, List.getElem?_cons_zero]
              change wpList _ _ _ [_] _ _
              go_wp2
              refine hP2 _ _ ?_ ?_
              · refine wpPlan_fork fun P3 hP3 => ?_
                simp only [List.filterMap_cons, List.filterMap_nil, List.getElem?_toArray, List.getElem?_cons_succ, List.getElem?_cons_zero]
                change wpList _ _ _ [_] _ _
                go_wp2
                refine hP3 _ _ ?_ ?_
                · refine wpPlan_check fun P4 hP4 => ?_
                  simp only [List.filterMap_cons, List.filterMap_nil, List.getElem?_toArray, List.getElem?_cons_succ, List.getElem?_cons_zero]
                  change wpList _ _ _ [_, _, _] _ _
                  go_wp2_with (first | (go_at_call 115; (with_reducible refine (number_v (some ad) n c l _ 2 (atP l) 2 HZ.out rfl _ (HB.out.below HP9.out.b) (by omega) (by omega) (pfG l) HX.out).mono ?_); rintro e w6 ⟨rfl, rfl⟩) | (go_at_call 101; (with_reducible refine (cloneB_any (some (ad.add (extA l))) (frmA l - extA l) _ (exG l) _ HEn.out (by omega) nofun (HR1.out _ HP9.out.b)).mono ?_); rintro e wE ⟨A, c', rfl, ho, hb⟩; have HPE := Lib.hid (HP9.out.below hb); obtain ⟨⟨p6, f6⟩, ⟨p7, f7⟩, ⟨p8, f8⟩, hi, hg⟩ := eleven_678 HPE.out.pk (.bool true) (.int .u16 (pfG l)) (.slice A (frmA l - extA l) c'); have HPF := Lib.hid (HPE.out.item hi hg); have HEO := Lib.hid (own_mono (ho.kept hg (own_off ho HPE.out.pk (by decide))) HP9.out.b.size); clear hi hg ho hb))
                  refine hP4 _ _ (by first | exact fun _ => .inl ⟨_, _, _, _, rfl, rfl⟩ | exact fun _ => ⟨_, _, rfl⟩) ?_
                  refine wpPlan_leaf fun P5 hP5 => ?_
                  simp only [List.filterMap_cons, List.filterMap_nil, List.getElem?_toArray, List.getElem?_cons_succ, List.getElem?_cons_zero]
                  change wpList _ _ _ [_, _, _, _, _, _, _] _ _
                  go_wp2_with (first | (go_at_call 115; (with_reducible refine (number_v (some ad) n c l _ 2 (atP l) 2 HZ.out rfl _ (HB.out.below HP9.out.b) (by omega) (by omega) (pfG l) HX.out).mono ?_); rintro e w6 ⟨rfl, rfl⟩) | (go_at_call 101; (with_reducible refine (cloneB_any (some (ad.add (extA l))) (frmA l - extA l) _ (exG l) _ HEn.out (by omega) nofun (HR1.out _ HP9.out.b)).mono ?_); rintro e wE ⟨A, c', rfl, ho, hb⟩; have HPE := Lib.hid (HP9.out.below hb); obtain ⟨⟨p6, f6⟩, ⟨p7, f7⟩, ⟨p8, f8⟩, hi, hg⟩ := eleven_678 HPE.out.pk (.bool true) (.int .u16 (pfG l)) (.slice A (frmA l - extA l) c'); have HPF := Lib.hid (HPE.out.item hi hg); have HEO := Lib.hid (own_mono (ho.kept hg (own_off ho HPE.out.pk (by decide))) HP9.out.b.size); clear hi hg ho hb))
                  go_meet
                  exact ⟨A, c', by rw [HEn.out]; exact HPF, by rw [HEn.out]; exact HEO⟩
                · refine wpPlan_check fun P6 hP6 => ?_
                  simp only [List.filterMap_cons, List.filterMap_nil, List.getElem?_toArray, List.getElem?_cons_succ, List.getElem?_cons_zero]
                  change wpList _ _ _ [_] _ _
                  go_wp2_with (first | (go_at_call 115; (with_reducible refine (number_v (some ad) n c l _ 2 (atP l) 2 HZ.out rfl _ (HB.out.below HP9.out.b) (by omega) (by omega) (pfG l) HX.out).mono ?_); rintro e w6 ⟨rfl, rfl⟩) | (go_at_call 101; (with_reducible refine (cloneB_any (some (ad.add (extA l))) (frmA l - extA l) _ (exG l) _ HEn.out (by omega) nofun (HR1.out _ HP9.out.b)).mono ?_); rintro e wE ⟨A, c', rfl, ho, hb⟩; have HPE := Lib.hid (HP9.out.below hb); obtain ⟨⟨p6, f6⟩, ⟨p7, f7⟩, ⟨p8, f8⟩, hi, hg⟩ := eleven_678 HPE.out.pk (.bool true) (.int .u16 (pfG l)) (.slice A (frmA l - extA l) c'); have HPF := Lib.hid (HPE.out.item hi hg); have HEO := Lib.hid (own_mono (ho.kept hg (own_off ho HPE.out.pk (by decide))) HP9.out.b.size); clear hi hg ho hb))
                  refine hP6 _ _ (by first | exact fun _ => .inl ⟨_, _, _, _, rfl, rfl⟩ | exact fun _ => ⟨_, _, rfl⟩) ?_
                  refine wpPlan_leaf fun P7 hP7 => ?_
                  simp only [List.filterMap_cons, List.filterMap_nil, List.getElem?_toArray, List.getElem?_cons_succ, List.getElem?_cons_zero]
                  change wpList _ _ _ [_, _, _, _, _, _, _, _, _] _ _
                  go_wp2_with (first | (go_at_call 115; (with_reducible refine (number_v (some ad) n c l _ 2 (atP l) 2 HZ.out rfl _ (HB.out.below HP9.out.b) (by omega) (by omega) (pfG l) HX.out).mono ?_); rintro e w6 ⟨rfl, rfl⟩) | (go_at_call 101; (with_reducible refine (cloneB_any (some (ad.add (extA l))) (frmA l - extA l) _ (exG l) _ HEn.out (by omega) nofun (HR1.out _ HP9.out.b)).mono ?_); rintro e wE ⟨A, c', rfl, ho, hb⟩; have HPE := Lib.hid (HP9.out.below hb); obtain ⟨⟨p6, f6⟩, ⟨p7, f7⟩, ⟨p8, f8⟩, hi, hg⟩ := eleven_678 HPE.out.pk (.bool true) (.int .u16 (pfG l)) (.slice A (frmA l - extA l) c'); have HPF := Lib.hid (HPE.out.item hi hg); have HEO := Lib.hid (own_mono (ho.kept hg (own_off ho HPE.out.pk (by decide))) HP9.out.b.size); clear hi hg ho hb))
                  go_meet
                  exact ⟨A, c', by rw [HEn.out]; exact HPF, by rw [HEn.out]; exact HEO⟩
              · refine wpPlan_fork fun P8 hP8 => ?_
                simp only [List.filterMap_nil]
                go_wp2
                refine hP8 _ _ ?_ ?_
                · refine wpPlan_fork fun P9 hP9 => ?_
                  simp only [List.filterMap_cons, List.filterMap_nil, List.getElem?_toArray, List.getElem?_cons_succ, List.getElem?_cons_zero]
                  change wpList _ _ _ [_] _ _
                  go_wp2
                  refine hP9 _ _ ?_ ?_
                  · refine wpPlan_check fun P10 hP10 => ?_
                    simp only [List.filterMap_cons, List.filterMap_nil, List.getElem?_toArray, List.getElem?_cons_succ, List.getElem?_cons_zero]
                    change wpList _ _ _ [_, _, _] _ _
                    go_wp2_with (first | (go_at_call 115; (with_reducible refine (number_v (some ad) n c l _ 2 (atP l) 2 HZ.out rfl _ (HB.out.below HP9.out.b) (by omega) (by omega) (pfG l) HX.out).mono ?_); rintro e w6 ⟨rfl, rfl⟩) | (go_at_call 101; (with_reducible refine (cloneB_any (some (ad.add (extA l))) (frmA l - extA l) _ (exG l) _ HEn.out (by omega) nofun (HR1.out _ HP9.out.b)).mono ?_); rintro e wE ⟨A, c', rfl, ho, hb⟩; have HPE := Lib.hid (HP9.out.below hb); obtain ⟨⟨p6, f6⟩, ⟨p7, f7⟩, ⟨p8, f8⟩, hi, hg⟩ := eleven_678 HPE.out.pk (.bool true) (.int .u16 (pfG l)) (.slice A (frmA l - extA l) c'); have HPF := Lib.hid (HPE.out.item hi hg); have HEO := Lib.hid (own_mono (ho.kept hg (own_off ho HPE.out.pk (by decide))) HP9.out.b.size); clear hi hg ho hb))
                    refine hP10 _ _ (by first | exact fun _ => .inl ⟨_, _, _, _, rfl, rfl⟩ | exact fun _ => ⟨_, _, rfl⟩) ?_
                    refine wpPlan_leaf fun P11 hP11 => ?_
                    simp only [List.filterMap_cons, List.filterMap_nil, List.getElem?_toArray, List.getElem?_cons_succ, List.getElem?_cons_zero]
                    change wpList _ _ _ [_, _, _, _, _, _, _] _ _
                    go_wp2_with (first | (go_at_call 115; (with_reducible refine (number_v (some ad) n c l _ 2 (atP l) 2 HZ.out rfl _ (HB.out.below HP9.out.b) (by omega) (by omega) (pfG l) HX.out).mono ?_); rintro e w6 ⟨rfl, rfl⟩) | (go_at_call 101; (with_reducible refine (cloneB_any (some (ad.add (extA l))) (frmA l - extA l) _ (exG l) _ HEn.out (by omega) nofun (HR1.out _ HP9.out.b)).mono ?_); rintro e wE ⟨A, c', rfl, ho, hb⟩; have HPE := Lib.hid (HP9.out.below hb); obtain ⟨⟨p6, f6⟩, ⟨p7, f7⟩, ⟨p8, f8⟩, hi, hg⟩ := eleven_678 HPE.out.pk (.bool true) (.int .u16 (pfG l)) (.slice A (frmA l - extA l) c'); have HPF := Lib.hid (HPE.out.item hi hg); have HEO := Lib.hid (own_mono (ho.kept hg (own_off ho HPE.out.pk (by decide))) HP9.out.b.size); clear hi hg ho hb))
                    go_meet
                    exact ⟨A, c', by rw [HEn.out]; exact HPF, by rw [HEn.out]; exact HEO⟩
                  · refine wpPlan_check fun P12 hP12 => ?_
                    simp only [List.filterMap_cons, List.filterMap_nil, List.getElem?_toArray, List.getElem?_cons_succ, List.getElem?_cons_zero]
                    change wpList _ _ _ [_] _ _
                    go_wp2_with (first | (go_at_call 115; (with_reducible refine (number_v (some ad) n c l _ 2 (atP l) 2 HZ.out rfl _ (HB.out.below HP9.out.b) (by omega) (by omega) (pfG l) HX.out).mono ?_); rintro e w6 ⟨rfl, rfl⟩) | (go_at_call 101; (with_reducible refine (cloneB_any (some (ad.add (extA l))) (frmA l - extA l) _ (exG l) _ HEn.out (by omega) nofun (HR1.out _ HP9.out.b)).mono ?_); rintro e wE ⟨A, c', rfl, ho, hb⟩; have HPE := Lib.hid (HP9.out.below hb); obtain ⟨⟨p6, f6⟩, ⟨p7, f7⟩, ⟨p8, f8⟩, hi, hg⟩ := eleven_678 HPE.out.pk (.bool true) (.int .u16 (pfG l)) (.slice A (frmA l - extA l) c'); have HPF := Lib.hid (HPE.out.item hi hg); have HEO := Lib.hid (own_mono (ho.kept hg (own_off ho HPE.out.pk (by decide))) HP9.out.b.size); clear hi hg ho hb))
                    refine hP12 _ _ (by first | exact fun _ => .inl ⟨_, _, _, _, rfl, rfl⟩ | exact fun _ => ⟨_, _, rfl⟩) ?_
                    refine wpPlan_leaf fun P13 hP13 => ?_
                    simp only [List.filterMap_cons, List.filterMap_nil, List.getElem?_toArray, List.getElem?_cons_succ, List.getElem?_cons_zero]
                    change wpList _ _ _ [_, _, _, _, _, _, _, _, _] _ _
                    go_wp2_with (first | (go_at_call 115; (with_reducible refine (number_v (some ad) n c l _ 2 (atP l) 2 HZ.out rfl _ (HB.out.below HP9.out.b) (by omega) (by omega) (pfG l) HX.out).mono ?_); rintro e w6 ⟨rfl, rfl⟩) | (go_at_call 101; (with_reducible refine (cloneB_any (some (ad.add (extA l))) (frmA l - extA l) _ (exG l) _ HEn.out (by omega) nofun (HR1.out _ HP9.out.b)).mono ?_); rintro e wE ⟨A, c', rfl, ho, hb⟩; have HPE := Lib.hid (HP9.out.below hb); obtain ⟨⟨p6, f6⟩, ⟨p7, f7⟩, ⟨p8, f8⟩, hi, hg⟩ := eleven_678 HPE.out.pk (.bool true) (.int .u16 (pfG l)) (.slice A (frmA l - extA l) c'); have HPF := Lib.hid (HPE.out.item hi hg); have HEO := Lib.hid (own_mono (ho.kept hg (own_off ho HPE.out.pk (by decide))) HP9.out.b.size); clear hi hg ho hb))
                    go_meet
                    exact ⟨A, c', by rw [HEn.out]; exact HPF, by rw [HEn.out]; exact HEO⟩
                · refine wpPlan_check fun P14 hP14 => ?_
                  simp only [List.filterMap_cons, List.filterMap_nil, List.getElem?_toArray, List.getElem?_cons_succ, List.getElem?_cons_zero]
                  change wpList _ _ _ [_] _ _
                  go_wp2_with (first | (go_at_call 115; (with_reducible refine (number_v (some ad) n c l _ 2 (atP l) 2 HZ.out rfl _ (HB.out.below HP9.out.b) (by omega) (by omega) (pfG l) HX.out).mono ?_); rintro e w6 ⟨rfl, rfl⟩) | (go_at_call 101; (with_reducible refine (cloneB_any (some (ad.add (extA l))) (frmA l - extA l) _ (exG l) _ HEn.out (by omega) nofun (HR1.out _ HP9.out.b)).mono ?_); rintro e wE ⟨A, c', rfl, ho, hb⟩; have HPE := Lib.hid (HP9.out.below hb); obtain ⟨⟨p6, f6⟩, ⟨p7, f7⟩, ⟨p8, f8⟩, hi, hg⟩ := eleven_678 HPE.out.pk (.bool true) (.int .u16 (pfG l)) (.slice A (frmA l - extA l) c'); have HPF := Lib.hid (HPE.out.item hi hg); have HEO := Lib.hid (own_mono (ho.kept hg (own_off ho HPE.out.pk (by decide))) HP9.out.b.size); clear hi hg ho hb))
                  refine hP14 _ _ (by first | exact fun _ => .inl ⟨_, _, _, _, rfl, rfl⟩ | exact fun _ => ⟨_, _, rfl⟩) ?_
                  refine wpPlan_leaf fun P15 hP15 => ?_
                  simp only [List.filterMap_cons, List.filterMap_nil, List.getElem?_toArray, List.getElem?_cons_succ, List.getElem?_cons_zero]
                  change wpList _ _ _ [_, _, _, _, _, _, _, _, _, _] _ _
                  go_wp2_with (first | (go_at_call 115; (with_reducible refine (number_v (some ad) n c l _ 2 (atP l) 2 HZ.out rfl _ (HB.out.below HP9.out.b) (by omega) (by omega) (pfG l) HX.out).mono ?_); rintro e w6 ⟨rfl, rfl⟩) | (go_at_call 101; (with_reducible refine (cloneB_any (some (ad.add (extA l))) (frmA l - extA l) _ (exG l) _ HEn.out (by omega) nofun (HR1.out _ HP9.out.b)).mono ?_); rintro e wE ⟨A, c', rfl, ho, hb⟩; have HPE := Lib.hid (HP9.out.below hb); obtain ⟨⟨p6, f6⟩, ⟨p7, f7⟩, ⟨p8, f8⟩, hi, hg⟩ := eleven_678 HPE.out.pk (.bool true) (.int .u16 (pfG l)) (.slice A (frmA l - extA l) c'); have HPF := Lib.hid (HPE.out.item hi hg); have HEO := Lib.hid (own_mono (ho.kept hg (own_off ho HPE.out.pk (by decide))) HP9.out.b.size); clear hi hg ho hb))
                  go_meet
                  exact ⟨A, c', by rw [HEn.out]; exact HPF, by rw [HEn.out]; exact HEO⟩
        case rest =>
          obtain ⟨E, ec, HPe, HE⟩ := hcut
          obtain ⟨s0, s1, s2⟩ := three_cells HPe.out.sh
          have hll : (plG l).length = lookT l - frmA l := by unfold plG; rw [List.length_take, List.length_drop]; omega
          have e1 : ((frmA l : Nat) : Int) ≤ ((lookT l : Nat) : Int) := by omega
          by_cases hce : c = frmA l
          · subst hce
            have HLn : Hid ((plG l).length = 0) := by show _ = _; rw [hll]; omega
            clear hll
            have HR1 : Hid (∀ w', Below w.heap.size w w' → Rd w' (some ad) (bys (plG l))) := fun w' hb => part_nil (HB.out.below hb) _ _ (by omega) rfl
            have e2 : ((lookT l : Nat) : Int) ≤ ((frmA l) : Int) := by omega
            have e3 : lookT l ≤ (frmA l) := by omega
            go_wp2_with (first | (go_at_call 101; (with_reducible refine (cloneB_any (some ad) 0 _ (plG l) _ HLn.out (by omega) nofun (HR1.out _ HPe.out.b)).mono ?_); rintro e wL ⟨A, c', rfl, ho, hb⟩; have HQ := Lib.hid (HPe.out.below hb); obtain ⟨⟨p9, f9⟩, hi, hg⟩ := eleven_9 HQ.out.pk (.slice A 0 c'); have HQF := Lib.hid (HQ.out.item hi hg); have HQE := Lib.hid ((HE.out.kept (own_below hb) (own_none _)).kept hg (own_off (HE.out.kept (own_below hb) (own_none _)) HQ.out.pk (by decide))); have HQL := Lib.hid (own_mono (ho.kept hg (own_off ho HQ.out.pk (by decide))) HPe.out.b.size); obtain ⟨y0, y1, y2, y3, y4, y5, y6, y7, y8, y9, y10⟩ := eleven_cells HQF.out.pk; clear hi hg ho hb) | (refine wpList_store_blk rfl 39 (.tmp 2) (.tmp 94) rfl w.heap.size _ #[.bool mr, .int .i64 ty, .int .u16 sq, .int .u32 tm, .int .u32 ss, .slice C (nCs l) cC, .bool xb, .int .u16 (pfG l), .slice E (exG l).length ec, .slice A 0 c', .int .i64 pd] _ rfl rfl HQF.out.res rfl (by kernel_rfl) (by simp [Value.oneCell']) ?_; intro w5 hi5 hg5; obtain ⟨r0, r1, r2, r3, r4, r5, r6, r7, r8, r9, r10⟩ := eleven_cells hi5))
            exact bodyPost_ret (v := .tuple #[.agg #[.bool mr, .int .i64 ty, .int .u16 sq, .int .u32 tm, .int .u32 ss, .slice C (nCs l) cC, .bool xb, .int .u16 (pfG l), .slice E (exG l).length ec, .slice A 0 c', .int .i64 pd], .int .i64 0]) (by simp [results, Try.results72, go_sem, r0, r1, r2, r3, r4, r5, r6, r7, r8, r9, r10]) rfl ⟨C, cC, E, ec, A, c', by have h1 : getN l 2 2 = sq := HN3.out.1; have h2 : getN l 4 4 = tm := HN3.out.2.1; have h3 : getN l 8 4 = ss := HN3.out.2.2; rw [h1, h2, h3, HXB.out, HLn.out], HQF.out.own.kept hg5 (own_off HQF.out.own HQF.out.res (by decide)), HQE.out.kept hg5 (own_off HQE.out HQF.out.res (by decide)), by rw [HLn.out]; exact HQL.out.kept hg5 (own_off HQL.out HQF.out.res (by decide)), HQF.out.b.grown hg5 HQF.out.b.size (fun q hq => by injection hq with hq; omega)⟩
          · have HLn := Lib.hid hll
            clear hll
            have HR1 : Hid (∀ w', Below w.heap.size w w' → Rd w' (some (ad.add (frmA l))) (bys (plG l))) := fun w' hb => part_rd (HB.out.below hb) _ _ (by omega)
            have e2 : ((lookT l : Nat) : Int) ≤ (c : Int) := by omega
            have e3 : lookT l ≤ c := by omega
            go_wp2_with (first | (go_at_call 101; (with_reducible refine (cloneB_any (some (ad.add (frmA l))) (lookT l - frmA l) _ (plG l) _ HLn.out (by omega) nofun (HR1.out _ HPe.out.b)).mono ?_); rintro e wL ⟨A, c', rfl, ho, hb⟩; have HQ := Lib.hid (HPe.out.below hb); obtain ⟨⟨p9, f9⟩, hi, hg⟩ := eleven_9 HQ.out.pk (.slice A (lookT l - frmA l) c'); have HQF := Lib.hid (HQ.out.item hi hg); have HQE := Lib.hid ((HE.out.kept (own_below hb) (own_none _)).kept hg (own_off (HE.out.kept (own_below hb) (own_none _)) HQ.out.pk (by decide))); have HQL := Lib.hid (own_mono (ho.kept hg (own_off ho HQ.out.pk (by decide))) HPe.out.b.size); obtain ⟨y0, y1, y2, y3, y4, y5, y6, y7, y8, y9, y10⟩ := eleven_cells HQF.out.pk; clear hi hg ho hb) | (refine wpList_store_blk rfl 39 (.tmp 2) (.tmp 94) rfl w.heap.size _ #[.bool mr, .int .i64 ty, .int .u16 sq, .int .u32 tm, .int .u32 ss, .slice C (nCs l) cC, .bool xb, .int .u16 (pfG l), .slice E (exG l).length ec, .slice A (lookT l - frmA l) c', .int .i64 pd] _ rfl rfl HQF.out.res rfl (by kernel_rfl) (by simp [Value.oneCell']) ?_; intro w5 hi5 hg5; obtain ⟨r0, r1, r2, r3, r4, r5, r6, r7, r8, r9, r10⟩ := eleven_cells hi5))
            exact bodyPost_ret (v := .tuple #[.agg #[.bool mr, .int .i64 ty, .int .u16 sq, .int .u32 tm, .int .u32 ss, .slice C (nCs l) cC, .bool xb, .int .u16 (pfG l), .slice E (exG l).length ec, .slice A (lookT l - frmA l) c', .int .i64 pd], .int .i64 0]) (by simp [results, Try.results72, go_sem, r0, r1, r2, r3, r4, r5, r6, r7, r8, r9, r10]) rfl ⟨C, cC, E, ec, A, c', by have h1 : getN l 2 2 = sq := HN3.out.1; have h2 : getN l 4 4 = tm := HN3.out.2.1; have h3 : getN l 8 4 = ss := HN3.out.2.2; rw [h1, h2, h3, HXB.out, HLn.out], HQF.out.own.kept hg5 (own_off HQF.out.own HQF.out.res (by decide)), HQE.out.kept hg5 (own_off HQE.out HQF.out.res (by decide)), by rw [HLn.out]; exact HQL.out.kept hg5 (own_off HQL.out HQF.out.res (by decide)), HQF.out.b.grown hg5 HQF.out.b.size (fun q hq => by injection hq with hq; omega)⟩
/-- Get: the packet, or what is wrong. -/
theorem pget_any (A : Option Addr) (n c : Nat) (l : List UInt8) (w : World) (h : Bts w A n c l) :
    Calls Try.prog 72 #[.slice A n c] w fun e w' => ∃ C cn cc E en ec L ln lc, e = .returned (.tuple #[.agg #[.bool (getP l).mr, .int .i64 (getP l).ty, .int .u16 (getP l).sq, .int .u32 (getP l).tm, .int .u32 (getP l).ss, .slice C cn cc, .bool (getP l).hx, .int .u16 (getP l).pf, .slice E en ec, .slice L ln lc, .int .i64 (getP l).pad], .int .i64 (lookE l : Nat)]) ∧
      w'.ownsRow w.heap.size 24 1 (.slice C cn cc) cn (u32s (getP l).cs) ∧ w'.ownsRow w.heap.size 5 1 (.slice E en ec) en (bys (getP l).ex) ∧ w'.ownsRow w.heap.size 5 1 (.slice L ln lc) ln (bys (getP l).pl) ∧ Below w.heap.size w w' := by
  by_cases he : lookE l = 0
  · refine (pget_yes A n c l w h he).mono ?_
    rintro e w' ⟨C, cc, E, ec, L, lc, rfl, h1, h2, h3, h4⟩
    have hg : getP l = ⟨decide (128 ≤ byteN l 1), (byteN l 1 % 128 : Nat), getN l 2 2, getN l 4 4, getN l 8 4, csL l (nCs l), exB l, pfG l, exG l, plG l, (l.length - lookT l : Nat)⟩ := by unfold getP; rw [if_pos he]
    rw [hg]
    exact ⟨C, _, cc, E, _, ec, L, _, lc, by rw [he, h.len] <;> rfl, h1, h2, h3, h4⟩
  · refine (pget_no A n c l w h he).mono ?_
    rintro e w' ⟨rfl, h1⟩
    have hg : getP l = zeroP := by unfold getP; rw [if_neg he]
    rw [hg]
    exact ⟨none, 0, 0, none, 0, 0, none, 0, 0, rfl, World.ownsRow_nil _ _ _ _, World.ownsRow_nil _ _ _ _, World.ownsRow_nil _ _ _ _, h1⟩
end Go.Proofs.Ytknlkmencdlpcaa
