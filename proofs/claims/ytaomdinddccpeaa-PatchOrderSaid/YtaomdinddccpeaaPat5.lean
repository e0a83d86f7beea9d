/-
What Of of package patch tells.
-/
import Derived.Test.YtaomdinddccpeaaPat4
namespace Go.Proofs.Ytaomdinddccpeaa
set_option linter.unusedVariables false
set_option linter.unusedSimpArgs false
open Go Go.RowKit

theorem numberP_w (A : Option Addr) (n c : Nat) (l : List UInt8) (Z S : Int) (a s : Nat) (hZ : Z = a) (hS : S = s) (w : World) (h : Bts w A n c l) (h1 : a ≤ 9223372036854775807) (h2 : s ≤ 9223372036854775807) :
    Calls Try.prog 43 #[.slice A n c, .int .i64 Z, .int .i64 S] w fun e w' => e = .returned (.int .u64 (getN l a s : Nat)) ∧ w' = w := by
  subst hZ hS
  have HB := Lib.hid h
  clear h
  go_enter Try.func43, Try.ntmps43
  go_wp2_with (go_at_call 66; (with_reducible refine (get_any A n c l _ _ _ HB.out.len HB.out.nc HB.out.cm HB.out.rd (by omega) (by omega)).mono ?_); rintro e w1 ⟨rfl, rfl⟩)
  go_ret
  exact ⟨rfl, rfl⟩
theorem numberP_v (A : Option Addr) (n c : Nat) (l : List UInt8) (Z S : Int) (a s N : Nat) (hZ : Z = a) (hS : S = s) (hN : getN l Z S = N) (w : World) (h : Bts w A n c l) (h1 : a ≤ 9223372036854775807) (h2 : s ≤ 9223372036854775807) :
    Calls Try.prog 43 #[.slice A n c, .int .i64 Z, .int .i64 S] w fun e w' => e = .returned (.int .u64 N) ∧ w' = w := by
  subst hN hZ hS
  exact numberP_w A n c l _ _ a s rfl rfl w h h1 h2
def oS (l : List UInt8) : Nat := if okD l then getN l 2 2 else 0
def oT (l : List UInt8) : Nat := if okD l then getN l 4 4 else 0
def oR (l : List UInt8) : Nat := if okD l then getN l 8 4 else 0
def oF (l : List UInt8) : Nat := if okD l then dF (plG l) else 0
set_option maxRecDepth 20000 in
set_option maxHeartbeats 4000000 in
theorem ofP_any (A : Option Addr) (n c : Nat) (l : List UInt8) (w : World) (h : Bts w A n c l) :
    Calls Try.prog 20 #[.slice A n c] w fun e w' => e = .returned (.tuple #[.agg #[.int .u16 (oS l), .int .u32 (oT l), .int .u32 (oR l), .int .u16 (oF l)], .bool (okD l)]) ∧ Below w.heap.size w w' := by
  have HB := Lib.hid h
  clear h
  cases hok : okD l
  · have HK := Lib.hid hok
    have HO : Hid (oS l = 0 ∧ oT l = 0 ∧ oR l = 0 ∧ oF l = 0) := by refine ⟨?_, ?_, ?_, ?_⟩ <;> simp [oS, oT, oR, oF, hok]
    clear hok
    go_enter Try.func20, Try.ntmps20
    go_wp2_with (first
      | (go_at_call 40; (with_reducible refine (described_v l _ false rfl HK.out A n c _ (HB.out.below ((Below.refl _ _).alloc (Nat.le_refl _) _))).mono ?_); rintro e w1 ⟨rfl, hb1⟩; have hb2 := ((Below.refl w.heap.size w).alloc (Nat.le_refl _) _).trans (hb1.mono (by simp)); have hit := blk_below (blk_alloc _ _) hb1; have hit' := blk_below hit ((Below.refl w1.heap.size w1).alloc (Nat.le_refl _) (.cells #[.int .i64 (dL (plD l)), .bool (dK (plD l)), .bool (dS (plD l)), .int .u16 (dF (plD l))] 52)); have hb3 := hb2.alloc hb2.size (.cells #[.int .i64 (dL (plD l)), .bool (dK (plD l)), .bool (dS (plD l)), .int .u16 (dF (plD l))] 52))
      | (refine wpList_store_blk rfl 26 (.tmp 2) (.tmp 15) rfl w.heap.size _ #[.int .u16 0, .int .u32 0, .int .u32 0, .int .u16 0] _ rfl rfl hit' rfl (by kernel_rfl) (by simp [Value.oneCell']) ?_; intro w5 hi5 hg5; obtain ⟨r0, r1, r2, r3⟩ := four_set hi5))
    exact bodyPost_ret (v := .tuple #[.agg #[.int .u16 0, .int .u32 0, .int .u32 0, .int .u16 0], .bool false]) (by simp [results, Try.results20, go_sem, r0, r1, r2, r3]) rfl ⟨by rw [HO.out.1, HO.out.2.1, HO.out.2.2.1, HO.out.2.2.2]; rfl, hb3.grown hg5 hb3.size (fun q hq => by injection hq with hq; omega)⟩
  · have HK := Lib.hid hok
    obtain ⟨he, hr, hT, hd⟩ := okD_room hok
    have HO : Hid (oS l = getN l 2 2 ∧ oT l = getN l 4 4 ∧ oR l = getN l 8 4 ∧ oF l = dF (plD l)) := by refine ⟨?_, ?_, ?_, ?_⟩ <;> simp [oS, oT, oR, oF, hok, plD, he]
    obtain ⟨N2, hN2⟩ : ∃ N, getN l 2 2 = N := ⟨_, rfl⟩
    have hL2 : N2 < 65536 := by rw [← hN2]; exact (getN_ltS l 2 2 : getN l 2 2 < 256 ^ 2)
    have HM2 := Lib.hid hN2
    obtain ⟨N4, hN4⟩ : ∃ N, getN l 4 4 = N := ⟨_, rfl⟩
    have hL4 : N4 < 4294967296 := by rw [← hN4]; exact (getN_ltS l 4 4 : getN l 4 4 < 256 ^ 4)
    have HM4 := Lib.hid hN4
    obtain ⟨N8, hN8⟩ : ∃ N, getN l 8 4 = N := ⟨_, rfl⟩
    have hL8 : N8 < 4294967296 := by rw [← hN8]; exact (getN_ltS l 8 4 : getN l 8 4 < 256 ^ 4)
    have HM8 := Lib.hid hN8
    clear hN2 hN4 hN8
    clear hok he hr hT hd
    go_enter Try.func20, Try.ntmps20
    go_wp2_with (first
      | (go_at_call 40; (with_reducible refine (described_v l _ true rfl HK.out A n c _ (HB.out.below ((Below.refl _ _).alloc (Nat.le_refl _) _))).mono ?_); rintro e w1 ⟨rfl, hb1⟩; have hb2 := ((Below.refl w.heap.size w).alloc (Nat.le_refl _) _).trans (hb1.mono (by simp)); have hit := blk_below (blk_alloc _ _) hb1; have hit' := blk_below hit ((Below.refl w1.heap.size w1).alloc (Nat.le_refl _) (.cells #[.int .i64 (dL (plD l)), .bool (dK (plD l)), .bool (dS (plD l)), .int .u16 (dF (plD l))] 52)); have hb3 := hb2.alloc hb2.size (.cells #[.int .i64 (dL (plD l)), .bool (dK (plD l)), .bool (dS (plD l)), .int .u16 (dF (plD l))] 52))
      | fail)
    refine region_planA (calmB_sound _) (.fork [0, 3, 6, 9] (.check [10, 1] 2 (.check [2, 4] 5 (.leaf [5, 7, 8, 11, 12, 13]))) (.check [1] 2 (.fork [2] (.check [10, 4] 5 (.leaf [5, 7, 8, 11, 12, 13])) (.check [4] 5 (.fork [5] (.leaf [10, 7, 8, 11, 12, 13]) (.check [7] 8 (.leaf [8, 10, 11, 12, 13]))))))) (by kernel_rfl) (by kernel_rfl) (by kernel_rfl) ?_
    have hnew := heap_alloc_new w1 (.cells #[.int .i64 (dL (plD l)), .bool (dK (plD l)), .bool (dS (plD l)), .int .u16 (dF (plD l))] 52)
    have hnew' : ((w1.alloc (.cells #[.int .i64 (dL (plD l)), .bool (dK (plD l)), .bool (dS (plD l)), .int .u16 (dF (plD l))] 52)).drew).heap[w1.heap.size]? = some (.cells #[.int .i64 (dL (plD l)), .bool (dK (plD l)), .bool (dS (plD l)), .int .u16 (dF (plD l))] 52 (0, 0)) := hnew
    have HIT : Hid (((w1.alloc (.cells #[.int .i64 (dL (plD l)), .bool (dK (plD l)), .bool (dS (plD l)), .int .u16 (dF (plD l))] 52)).drew).heap[w.heap.size]? = some (.cells #[.int .u16 0, .int .u32 0, .int .u32 0, .int .u16 0] 26 (0, 0))) := hit'
    have HB5 := Lib.hid hb3.drew
    have HBW := Lib.hid (HB.out.below HB5.out)
    generalize (w1.alloc (.cells #[.int .i64 (dL (plD l)), .bool (dK (plD l)), .bool (dS (plD l)), .int .u16 (dF (plD l))] 52)).drew = w4 at *
    obtain ⟨x0, x1, x2, x3⟩ := four_set hnew'
    refine wpPlan_fork fun P1 hP1 => ?_
    simp only [List.filterMap_cons, List.filterMap_nil, List.getElem?_toArray, List.getElem?_cons_succ, List.getElem?_cons_zero]
    change wpList _ _ _ [_, _, _, _] _ _
    go_wp2
    refine hP1 _ _ ?_ ?_
    · refine wpPlan_check fun P2 hP2 => ?_
      simp only [List.filterMap_cons, List.filterMap_nil, List.getElem?_toArray, List.getElem?_cons_succ, List.getElem?_cons_zero]
      change wpList _ _ _ [_, _] _ _
      go_wp2_with (first | (go_at_call 43; (with_reducible refine (numberP_v A n c l 2 2 2 2 N2 rfl rfl HM2.out _ HBW.out (by omega) (by omega)).mono ?_); rintro e w5 ⟨rfl, rfl⟩) | (go_at_call 43; (with_reducible refine (numberP_v A n c l 4 4 4 4 N4 rfl rfl HM4.out _ HBW.out (by omega) (by omega)).mono ?_); rintro e w5 ⟨rfl, rfl⟩) | (go_at_call 43; (with_reducible refine (numberP_v A n c l 8 4 8 4 N8 rfl rfl HM8.out _ HBW.out (by omega) (by omega)).mono ?_); rintro e w5 ⟨rfl, rfl⟩) | (refine wpList_store_blk rfl 26 (.tmp 2) (.tmp 27) rfl w.heap.size _ #[.int .u16 (N2 : Nat), .int .u32 (N4 : Nat), .int .u32 (N8 : Nat), .int .u16 (dF (plD l) : Nat)] _ rfl rfl HIT.out rfl (by kernel_rfl) (by simp [Value.oneCell']) ?_; intro w6 hi6 hg6; obtain ⟨r0, r1, r2, r3⟩ := four_set hi6))
      refine hP2 _ _ (by first | exact fun _ => .inl ⟨_, _, _, _, rfl, rfl⟩ | exact fun _ => ⟨_, _, rfl⟩) ?_
      refine wpPlan_check fun P3 hP3 => ?_
      simp only [List.filterMap_cons, List.filterMap_nil, List.getElem?_toArray, List.getElem?_cons_succ, List.getElem?_cons_zero]
      change wpList _ _ _ [_, _] _ _
      go_wp2_with (first | (go_at_call 43; (with_reducible refine (numberP_v A n c l 2 2 2 2 N2 rfl rfl HM2.out _ HBW.out (by omega) (by omega)).mono ?_); rintro e w5 ⟨rfl, rfl⟩) | (go_at_call 43; (with_reducible refine (numberP_v A n c l 4 4 4 4 N4 rfl rfl HM4.out _ HBW.out (by omega) (by omega)).mono ?_); rintro e w5 ⟨rfl, rfl⟩) | (go_at_call 43; (with_reducible refine (numberP_v A n c l 8 4 8 4 N8 rfl rfl HM8.out _ HBW.out (by omega) (by omega)).mono ?_); rintro e w5 ⟨rfl, rfl⟩) | (refine wpList_store_blk rfl 26 (.tmp 2) (.tmp 27) rfl w.heap.size _ #[.int .u16 (N2 : Nat), .int .u32 (N4 : Nat), .int .u32 (N8 : Nat), .int .u16 (dF (plD l) : Nat)] _ rfl rfl HIT.out rfl (by kernel_rfl) (by simp [Value.oneCell']) ?_; intro w6 hi6 hg6; obtain ⟨r0, r1, r2, r3⟩ := four_set hi6))
      refine hP3 _ _ (by first | exact fun _ => .inl ⟨_, _, _, _, rfl, rfl⟩ | exact fun _ => ⟨_, _, rfl⟩) ?_
      refine wpPlan_leaf fun P4 hP4 => ?_
      simp only [List.filterMap_cons, List.filterMap_nil, List.getElem?_toArray, List.getElem?_cons_succ, List.getElem?_cons_zero]
      change wpList _ _ _ [_, _, _, _, _, _] _ _
      go_wp2_with (first | (go_at_call 43; (with_reducible refine (numberP_v A n c l 2 2 2 2 N2 rfl rfl HM2.out _ HBW.out (by omega) (by omega)).mono ?_); rintro e w5 ⟨rfl, rfl⟩) | (go_at_call 43; (with_reducible refine (numberP_v A n c l 4 4 4 4 N4 rfl rfl HM4.out _ HBW.out (by omega) (by omega)).mono ?_); rintro e w5 ⟨rfl, rfl⟩) | (go_at_call 43; (with_reducible refine (numberP_v A n c l 8 4 8 4 N8 rfl rfl HM8.out _ HBW.out (by omega) (by omega)).mono ?_); rintro e w5 ⟨rfl, rfl⟩) | (refine wpList_store_blk rfl 26 (.tmp 2) (.tmp 27) rfl w.heap.size _ #[.int .u16 (N2 : Nat), .int .u32 (N4 : Nat), .int .u32 (N8 : Nat), .int .u16 (dF (plD l) : Nat)] _ rfl rfl HIT.out rfl (by kernel_rfl) (by simp [Value.oneCell']) ?_; intro w6 hi6 hg6; obtain ⟨r0, r1, r2, r3⟩ := four_set hi6))
      exact bodyPost_ret (v := .tuple #[.agg #[.int .u16 (N2 : Nat), .int .u32 (N4 : Nat), .int .u32 (N8 : Nat), .int .u16 (dF (plD l) : Nat)], .bool true]) (by simp [results, Try.results20, go_sem, r0, r1, r2, r3]) rfl ⟨by rw [HO.out.1, HO.out.2.1, HO.out.2.2.1, HO.out.2.2.2, HM2.out, HM4.out, HM8.out], HB5.out.grown hg6 HB5.out.size (fun q hq => by injection hq with hq; omega)⟩
    · refine wpPlan_check fun P5 hP5 => ?_
      simp only [List.filterMap_cons, List.filterMap_nil, List.getElem?_toArray, List.getElem?_cons_succ, List.getElem?_cons_zero]
      change wpList _ _ _ [_] _ _
      go_wp2_with (first | (go_at_call 43; (with_reducible refine (numberP_v A n c l 2 2 2 2 N2 rfl rfl HM2.out _ HBW.out (by omega) (by omega)).mono ?_); rintro e w5 ⟨rfl, rfl⟩) | (go_at_call 43; (with_reducible refine (numberP_v A n c l 4 4 4 4 N4 rfl rfl HM4.out _ HBW.out (by omega) (by omega)).mono ?_); rintro e w5 ⟨rfl, rfl⟩) | (go_at_call 43; (with_reducible refine (numberP_v A n c l 8 4 8 4 N8 rfl rfl HM8.out _ HBW.out (by omega) (by omega)).mono ?_); rintro e w5 ⟨rfl, rfl⟩) | (refine wpList_store_blk rfl 26 (.tmp 2) (.tmp 27) rfl w.heap.size _ #[.int .u16 (N2 : Nat), .int .u32 (N4 : Nat), .int .u32 (N8 : Nat), .int .u16 (dF (plD l) : Nat)] _ rfl rfl HIT.out rfl (by kernel_rfl) (by simp [Value.oneCell']) ?_; intro w6 hi6 hg6; obtain ⟨r0, r1, r2, r3⟩ := four_set hi6))
      refine hP5 _ _ (by first | exact fun _ => .inl ⟨_, _, _, _, rfl, rfl⟩ | exact fun _ => ⟨_, _, rfl⟩) ?_
      refine wpPlan_fork fun P6 hP6 => ?_
      simp only [List.filterMap_cons, List.filterMap_nil, List.getElem?_toArray, List.getElem?_cons_succ, List.getElem?_cons_zero]
      change wpList _ _ _ [_] _ _
      go_wp2
      refine hP6 _ _ ?_ ?_
      · refine wpPlan_check fun P7 hP7 => ?_
        simp only [List.filterMap_cons, List.filterMap_nil, List.getElem?_toArray, List.getElem?_cons_succ, List.getElem?_cons_zero]
        change wpList _ _ _ [_, _] _ _
        go_wp2_with (first | (go_at_call 43; (with_reducible refine (numberP_v A n c l 2 2 2 2 N2 rfl rfl HM2.out _ HBW.out (by omega) (by omega)).mono ?_); rintro e w5 ⟨rfl, rfl⟩) | (go_at_call 43; (with_reducible refine (numberP_v A n c l 4 4 4 4 N4 rfl rfl HM4.out _ HBW.out (by omega) (by omega)).mono ?_); rintro e w5 ⟨rfl, rfl⟩) | (go_at_call 43; (with_reducible refine (numberP_v A n c l 8 4 8 4 N8 rfl rfl HM8.out _ HBW.out (by omega) (by omega)).mono ?_); rintro e w5 ⟨rfl, rfl⟩) | (refine wpList_store_blk rfl 26 (.tmp 2) (.tmp 27) rfl w.heap.size _ #[.int .u16 (N2 : Nat), .int .u32 (N4 : Nat), .int .u32 (N8 : Nat), .int .u16 (dF (plD l) : Nat)] _ rfl rfl HIT.out rfl (by kernel_rfl) (by simp [Value.oneCell']) ?_; intro w6 hi6 hg6; obtain ⟨r0, r1, r2, r3⟩ := four_set hi6))
        refine hP7 _ _ (by first | exact fun _ => .inl ⟨_, _, _, _, rfl, rfl⟩ | exact fun _ => ⟨_, _, rfl⟩) ?_
        refine wpPlan_leaf fun P8 hP8 => ?_
        simp only [List.filterMap_cons, List.filterMap_nil, List.getElem?_toArray, List.getElem?_cons_succ, List.getElem?_cons_zero]
        change wpList _ _ _ [_, _, _, _, _, _] _ _
        go_wp2_with (first | (go_at_call 43; (with_reducible refine (numberP_v A n c l 2 2 2 2 N2 rfl rfl HM2.out _ HBW.out (by omega) (by omega)).mono ?_); rintro e w5 ⟨rfl, rfl⟩) | (go_at_call 43; (with_reducible refine (numberP_v A n c l 4 4 4 4 N4 rfl rfl HM4.out _ HBW.out (by omega) (by omega)).mono ?_); rintro e w5 ⟨rfl, rfl⟩) | (go_at_call 43; (with_reducible refine (numberP_v A n c l 8 4 8 4 N8 rfl rfl HM8.out _ HBW.out (by omega) (by omega)).mono ?_); rintro e w5 ⟨rfl, rfl⟩) | (refine wpList_store_blk rfl 26 (.tmp 2) (.tmp 27) rfl w.heap.size _ #[.int .u16 (N2 : Nat), .int .u32 (N4 : Nat), .int .u32 (N8 : Nat), .int .u16 (dF (plD l) : Nat)] _ rfl rfl HIT.out rfl (by kernel_rfl) (by simp [Value.oneCell']) ?_; intro w6 hi6 hg6; obtain ⟨r0, r1, r2, r3⟩ := four_set hi6))
        exact bodyPost_ret (v := .tuple #[.agg #[.int .u16 (N2 : Nat), .int .u32 (N4 : Nat), .int .u32 (N8 : Nat), .int .u16 (dF (plD l) : Nat)], .bool true]) (by simp [results, Try.results20, go_sem, r0, r1, r2, r3]) rfl ⟨by rw [HO.out.1, HO.out.2.1, HO.out.2.2.1, HO.out.2.2.2, HM2.out, HM4.out, HM8.out], HB5.out.grown hg6 HB5.out.size (fun q hq => by injection hq with hq; omega)⟩
      · refine wpPlan_check fun P9 hP9 => ?_
        simp only [List.filterMap_cons, List.filterMap_nil, List.getElem?_toArray, List.getElem?_cons_succ, List.getElem?_cons_zero]
        change wpList _ _ _ [_] _ _
        go_wp2_with (first | (go_at_call 43; (with_reducible refine (numberP_v A n c l 2 2 2 2 N2 rfl rfl HM2.out _ HBW.out (by omega) (by omega)).mono ?_); rintro e w5 ⟨rfl, rfl⟩) | (go_at_call 43; (with_reducible refine (numberP_v A n c l 4 4 4 4 N4 rfl rfl HM4.out _ HBW.out (by omega) (by omega)).mono ?_); rintro e w5 ⟨rfl, rfl⟩) | (go_at_call 43; (with_reducible refine (numberP_v A n c l 8 4 8 4 N8 rfl rfl HM8.out _ HBW.out (by omega) (by omega)).mono ?_); rintro e w5 ⟨rfl, rfl⟩) | (refine wpList_store_blk rfl 26 (.tmp 2) (.tmp 27) rfl w.heap.size _ #[.int .u16 (N2 : Nat), .int .u32 (N4 : Nat), .int .u32 (N8 : Nat), .int .u16 (dF (plD l) : Nat)] _ rfl rfl HIT.out rfl (by kernel_rfl) (by simp [Value.oneCell']) ?_; intro w6 hi6 hg6; obtain ⟨r0, r1, r2, r3⟩ := four_set hi6))
        refine hP9 _ _ (by first | exact fun _ => .inl ⟨_, _, _, _, rfl, rfl⟩ | exact fun _ => ⟨_, _, rfl⟩) ?_
        refine wpPlan_fork fun P10 hP10 => ?_
        simp only [List.filterMap_cons, List.filterMap_nil, List.getElem?_toArray, List.getElem?_cons_succ, List.getElem?_cons_zero]
        change wpList _ _ _ [_] _ _
        go_wp2
        refine hP10 _ _ ?_ ?_
        · refine wpPlan_leaf fun P11 hP11 => ?_
          simp only [List.filterMap_cons, List.filterMap_nil, List.getElem?_toArray, List.getElem?_cons_succ, List.getElem?_cons_zero]
          change wpList _ _ _ [_, _, _, _, _, _] _ _
          go_wp2_with (first | (go_at_call 43; (with_reducible refine (numberP_v A n c l 2 2 2 2 N2 rfl rfl HM2.out _ HBW.out (by omega) (by omega)).mono ?_); rintro e w5 ⟨rfl, rfl⟩) | (go_at_call 43; (with_reducible refine (numberP_v A n c l 4 4 4 4 N4 rfl rfl HM4.out _ HBW.out (by omega) (by omega)).mono ?_); rintro e w5 ⟨rfl, rfl⟩) | (go_at_call 43; (with_reducible refine (numberP_v A n c l 8 4 8 4 N8 rfl rfl HM8.out _ HBW.out (by omega) (by omega)).mono ?_); rintro e w5 ⟨rfl, rfl⟩) | (refine wpList_store_blk rfl 26 (.tmp 2) (.tmp 27) rfl w.heap.size _ #[.int .u16 (N2 : Nat), .int .u32 (N4 : Nat), .int .u32 (N8 : Nat), .int .u16 (dF (plD l) : Nat)] _ rfl rfl HIT.out rfl (by kernel_rfl) (by simp [Value.oneCell']) ?_; intro w6 hi6 hg6; obtain ⟨r0, r1, r2, r3⟩ := four_set hi6))
          exact bodyPost_ret (v := .tuple #[.agg #[.int .u16 (N2 : Nat), .int .u32 (N4 : Nat), .int .u32 (N8 : Nat), .int .u16 (dF (plD l) : Nat)], .bool true]) (by simp [results, Try.results20, go_sem, r0, r1, r2, r3]) rfl ⟨by rw [HO.out.1, HO.out.2.1, HO.out.2.2.1, HO.out.2.2.2, HM2.out, HM4.out, HM8.out], HB5.out.grown hg6 HB5.out.size (fun q hq => by injection hq with hq; omega)⟩
        · refine wpPlan_check fun P12 hP12 => ?_
          simp only [List.filterMap_cons, List.filterMap_nil, List.getElem?_toArray, List.getElem?_cons_succ, List.getElem?_cons_zero]
          change wpList _ _ _ [_] _ _
          go_wp2_with (first | (go_at_call 43; (with_reducible refine (numberP_v A n c l 2 2 2 2 N2 rfl rfl HM2.out _ HBW.out (by omega) (by omega)).mono ?_); rintro e w5 ⟨rfl, rfl⟩) | (go_at_call 43; (with_reducible refine (numberP_v A n c l 4 4 4 4 N4 rfl rfl HM4.out _ HBW.out (by omega) (by omega)).mono ?_); rintro e w5 ⟨rfl, rfl⟩) | (go_at_call 43; (with_reducible refine (numberP_v A n c l 8 4 8 4 N8 rfl rfl HM8.out _ HBW.out (by omega) (by omega)).mono ?_); rintro e w5 ⟨rfl, rfl⟩) | (refine wpList_store_blk rfl 26 (.tmp 2) (.tmp 27) rfl w.heap.size _ #[.int .u16 (N2 : Nat), .int .u32 (N4 : Nat), .int .u32 (N8 : Nat), .int .u16 (dF (plD l) : Nat)] _ rfl rfl HIT.out rfl (by kernel_rfl) (by simp [Value.oneCell']) ?_; intro w6 hi6 hg6; obtain ⟨r0, r1, r2, r3⟩ := four_set hi6))
          refine hP12 _ _ (by first | exact fun _ => .inl ⟨_, _, _, _, rfl, rfl⟩ | exact fun _ => ⟨_, _, rfl⟩) ?_
          refine wpPlan_leaf fun P13 hP13 => ?_
          simp only [List.filterMap_cons, List.filterMap_nil, List.getElem?_toArray, List.getElem?_cons_succ, List.getElem?_cons_zero]
          change wpList _ _ _ [_, _, _, _, _] _ _
          go_wp2_with (first | (go_at_call 43; (with_reducible refine (numberP_v A n c l 2 2 2 2 N2 rfl rfl HM2.out _ HBW.out (by omega) (by omega)).mono ?_); rintro e w5 ⟨rfl, rfl⟩) | (go_at_call 43; (with_reducible refine (numberP_v A n c l 4 4 4 4 N4 rfl rfl HM4.out _ HBW.out (by omega) (by omega)).mono ?_); rintro e w5 ⟨rfl, rfl⟩) | (go_at_call 43; (with_reducible refine (numberP_v A n c l 8 4 8 4 N8 rfl rfl HM8.out _ HBW.out (by omega) (by omega)).mono ?_); rintro e w5 ⟨rfl, rfl⟩) | (refine wpList_store_blk rfl 26 (.tmp 2) (.tmp 27) rfl w.heap.size _ #[.int .u16 (N2 : Nat), .int .u32 (N4 : Nat), .int .u32 (N8 : Nat), .int .u16 (dF (plD l) : Nat)] _ rfl rfl HIT.out rfl (by kernel_rfl) (by simp [Value.oneCell']) ?_; intro w6 hi6 hg6; obtain ⟨r0, r1, r2, r3⟩ := four_set hi6))
          exact bodyPost_ret (v := .tuple #[.agg #[.int .u16 (N2 : Nat), .int .u32 (N4 : Nat), .int .u32 (N8 : Nat), .int .u16 (dF (plD l) : Nat)], .bool true]) (by simp [results, Try.results20, go_sem, r0, r1, r2, r3]) rfl ⟨by rw [HO.out.1, HO.out.2.1, HO.out.2.2.1, HO.out.2.2.2, HM2.out, HM4.out, HM8.out], HB5.out.grown hg6 HB5.out.size (fun q hq => by injection hq with hq; omega)⟩
end Go.Proofs.Ytaomdinddccpeaa
