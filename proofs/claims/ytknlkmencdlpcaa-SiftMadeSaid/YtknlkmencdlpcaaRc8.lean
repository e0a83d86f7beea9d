/-
What item of the reference reads of the bytes behind a head: the kinds that are no reports.
-/
import Derived.Test.YtknlkmencdlpcaaRc4
import Derived.Test.YtknlkmencdlpcaaFeed5
namespace Go.Proofs.Ytknlkmencdlpcaa
set_option linter.unusedVariables false
set_option linter.unusedSimpArgs false
open Go Go.RowKit

theorem rread_w (X : Option Addr) (n c : Nat) (l : List UInt8) (Z S : Int) (w : World) (h : Bts w X n c l) (h1 : Z ≤ 9223372036854775807) (h2 : S ≤ 9223372036854775807) (x : Nat) (hx : getN l Z S = x) :
    Calls Try.prog 83 #[.slice X n c, .int .i64 Z, .int .i64 S] w fun e w' => e = .returned (.int .u64 x) ∧ w = w' :=
  (rread_f X n c l Z S w h h1 h2 x hx).mono fun e w' ⟨a, b⟩ => ⟨a, b.symm⟩
set_option maxRecDepth 20000 in
set_option maxHeartbeats 4000000 in
theorem ritem_203 (X : Option Addr) (n c m : Nat) (l : List UInt8) (w : World) (h : Bts w X n c l) (hm : m ≤ 15) :
    Calls Try.prog 139 #[.int .i64 203, .int .i64 m, .slice X n c] w fun e w' => ∃ A cA, e = .returned (.agg #[.int .i64 203, .int .u32 0, .int .u64 0, .int .u32 0, .int .u32 0, .int .u32 0, .slice none 0 0, .slice A m cA, .int .u32 0, .slice none 0 0]) ∧ w'.ownsRow w.heap.size 24 1 (.slice A m cA) m (u32s (csG l 0 m)) ∧ Below w.heap.size w w' := by
  have HB := Lib.hid h
  have HP0 := Lib.hid (prt_start w #[.int .i64 203, .int .u32 0, .int .u64 0, .int .u32 0, .int .u32 0, .int .u32 0, .slice none 0 0, .slice none 0 0, .int .u32 0, .slice none 0 0] 24 1)
  clear h
  go_enter Try.func139, Try.ntmps139
  go_wp2
  generalize (w.alloc (.cells #[.int .i64 0, .int .u32 0, .int .u64 0, .int .u32 0, .int .u32 0, .int .u32 0, .slice none 0 0, .slice none 0 0, .int .u32 0, .slice none 0 0] 54)).alloc (.cells #[.int .i64 203, .int .u32 0, .int .u64 0, .int .u32 0, .int .u32 0, .int .u32 0, .slice none 0 0, .slice none 0 0, .int .u32 0, .slice none 0 0] 54) = w1 at *
  go_loopw [8, 9] (fun s8 s9 wr => ∃ (k a cA : Nat) (A : Option Addr), s9 = .int .i64 k ∧ s8 = .int .i64 a ∧ a = 4 * k ∧ k ≤ m ∧ Hid (PrtS w wr #[.int .i64 203, .int .u32 0, .int .u64 0, .int .u32 0, .int .u32 0, .int .u32 0, .slice none 0 0, .slice A k cA, .int .u32 0, .slice none 0 0] 24 1 A k cA (u32s (csG l 0 k)))) (fun _ s9 _ => m - (intOf s9).toNat)
  case atStart => exact ⟨0, 0, 0, none, rfl, rfl, rfl, Nat.zero_le _, HP0⟩
  case round =>
    obtain ⟨k, a, cA, A, rfl, rfl, ha, hkm, HPk⟩ := hrel
    obtain ⟨x0, x1, x2, x3, x4, x5, x6, x7, x8, x9⟩ := ten_cells HPk.out.it
    by_cases hlt : k < m
    · have ha4 : a ≤ 5000 := by omega
      obtain ⟨z, hz⟩ : ∃ z, getN l a 4 = z := ⟨_, rfl⟩
      have hz4 : z < 4294967296 := by rw [← hz]; exact getN_lt4 l a
      have HST : Hid (csG l 0 (k + 1) = csG l 0 k ++ [z]) := by show _ = _; rw [csG_succ, Nat.zero_add, ← ha, hz]
      have HZ := Lib.hid hz
      have HAK := Lib.hid ha
      clear hz ha
      go_wp2
      refine region_planA (calmB_sound _) (.fork [0, 2, 3] (.check [4] 5 (.leaf [5, 1, 6, 7, 8, 9])) (.leaf [1, 4, 5, 6, 7, 8, 9])) (by kernel_rfl) (by kernel_rfl) (by kernel_rfl) ?_
      have HPd := Lib.hid (HPk.out.below ((Below.refl _ _).drew))
      generalize wr.drew = wd at *
      clear x0 x1 x2 x3 x4 x5 x6 x7 x8 x9
      obtain ⟨x0, x1, x2, x3, x4, x5, x6, x7, x8, x9⟩ := ten_cells HPd.out.it
      refine wpPlan_fork fun P1 hP1 => ?_
      simp only [List.filterMap_cons, List.filterMap_nil, List.getElem?_toArray, List.getElem?_cons_succ, List.getElem?_cons_zero]
      change wpList _ _ _ [_, _, _] _ _
      go_wp2
      refine hP1 _ _ ?_ ?_
      · refine wpPlan_check fun P2 hP2 => ?_
        simp only [List.filterMap_cons, List.filterMap_nil, List.getElem?_toArray, List.getElem?_cons_succ, List.getElem?_cons_zero]
        change wpList _ _ _ [_] _ _
        go_wp2_with (first | (go_at_call 83; ((with_reducible refine (rread_w X n c l a 4 _ (HB.out.below HPd.out.b) (by omega) (by omega) z HZ.out).mono ?_); rintro e w2 ⟨rfl, rfl⟩)) | (at_builtin; go_loud (refine wpList_app slU32 rfl _ _ rfl w.heap.size A k cA (u32s (csG l 0 k)) rfl (HPd.out.own.alloc _) (some ⟨wd.heap.size, 0, none⟩) 1 1 (u32s [z]) rfl rfl (Rd.own (World.ownsRow_lit (base := 0) (e := 24) (size := 1) wd #[.int .u32 z] 1 (Nat.zero_le _) (by unfold maxLen; omega) rfl)) (by intro u hu; simp [u32s] at hu; subst hu; rfl) (by omega) (HPd.out.alloc _).b.size ?_; intro A4 c4 w4 ho4 hg4 hA4; rw [show u32s (csG l 0 k) ++ u32s [z] = u32s (csG l 0 (k + 1)) by rw [HST.out]; simp [u32s]] at ho4; have HP4 := Lib.hid ((HPd.out.alloc _).app (by decide) hg4 ho4); obtain ⟨⟨u1, u2⟩, hq7, hg7⟩ := ten_set HP4.out.it 7 (.slice A k cA) (.slice A4 (k + 1) c4) rfl rfl; have HP5 := Lib.hid (HP4.out.item (by decide) hq7 hg7); clear ho4 hg4 hA4 hq7 hg7)))
        refine hP2 _ _ (by first | exact fun _ => .inl ⟨_, _, _, _, rfl, rfl⟩ | exact fun _ => ⟨_, _, rfl⟩) ?_
        refine wpPlan_leaf fun P3 hP3 => ?_
        simp only [List.filterMap_cons, List.filterMap_nil, List.getElem?_toArray, List.getElem?_cons_succ, List.getElem?_cons_zero]
        change wpList _ _ _ [_, _, _, _, _, _] _ _
        go_wp2_with (first | (go_at_call 83; ((with_reducible refine (rread_w X n c l a 4 _ (HB.out.below HPd.out.b) (by omega) (by omega) z HZ.out).mono ?_); rintro e w2 ⟨rfl, rfl⟩)) | (at_builtin; go_loud (refine wpList_app slU32 rfl _ _ rfl w.heap.size A k cA (u32s (csG l 0 k)) rfl (HPd.out.own.alloc _) (some ⟨wd.heap.size, 0, none⟩) 1 1 (u32s [z]) rfl rfl (Rd.own (World.ownsRow_lit (base := 0) (e := 24) (size := 1) wd #[.int .u32 z] 1 (Nat.zero_le _) (by unfold maxLen; omega) rfl)) (by intro u hu; simp [u32s] at hu; subst hu; rfl) (by omega) (HPd.out.alloc _).b.size ?_; intro A4 c4 w4 ho4 hg4 hA4; rw [show u32s (csG l 0 k) ++ u32s [z] = u32s (csG l 0 (k + 1)) by rw [HST.out]; simp [u32s]] at ho4; have HP4 := Lib.hid ((HPd.out.alloc _).app (by decide) hg4 ho4); obtain ⟨⟨u1, u2⟩, hq7, hg7⟩ := ten_set HP4.out.it 7 (.slice A k cA) (.slice A4 (k + 1) c4) rfl rfl; have HP5 := Lib.hid (HP4.out.item (by decide) hq7 hg7); clear ho4 hg4 hA4 hq7 hg7)))
        go_wp2
        exact ⟨⟨k + 1, a + 4, c4, A4, rfl, rfl, by rw [HAK.out]; omega, by omega, HP5⟩, by simp [intOf]; omega⟩
      · refine wpPlan_leaf fun P4 hP4 => ?_
        simp only [List.filterMap_cons, List.filterMap_nil, List.getElem?_toArray, List.getElem?_cons_succ, List.getElem?_cons_zero]
        change wpList _ _ _ [_, _, _, _, _, _, _] _ _
        go_wp2_with (first | (go_at_call 83; ((with_reducible refine (rread_w X n c l a 4 _ (HB.out.below HPd.out.b) (by omega) (by omega) z HZ.out).mono ?_); rintro e w2 ⟨rfl, rfl⟩)) | (at_builtin; go_loud (refine wpList_app slU32 rfl _ _ rfl w.heap.size A k cA (u32s (csG l 0 k)) rfl (HPd.out.own.alloc _) (some ⟨wd.heap.size, 0, none⟩) 1 1 (u32s [z]) rfl rfl (Rd.own (World.ownsRow_lit (base := 0) (e := 24) (size := 1) wd #[.int .u32 z] 1 (Nat.zero_le _) (by unfold maxLen; omega) rfl)) (by intro u hu; simp [u32s] at hu; subst hu; rfl) (by omega) (HPd.out.alloc _).b.size ?_; intro A4 c4 w4 ho4 hg4 hA4; rw [show u32s (csG l 0 k) ++ u32s [z] = u32s (csG l 0 (k + 1)) by rw [HST.out]; simp [u32s]] at ho4; have HP4 := Lib.hid ((HPd.out.alloc _).app (by decide) hg4 ho4); obtain ⟨⟨u1, u2⟩, hq7, hg7⟩ := ten_set HP4.out.it 7 (.slice A k cA) (.slice A4 (k + 1) c4) rfl rfl; have HP5 := Lib.hid (HP4.out.item (by decide) hq7 hg7); clear ho4 hg4 hA4 hq7 hg7)))
        go_wp2
        exact ⟨⟨k + 1, a + 4, c4, A4, rfl, rfl, by rw [HAK.out]; omega, by omega, HP5⟩, by simp [intOf]; omega⟩
    · have hk : k = m := by omega
      subst hk
      clear ha hlt
      go_wp2_with (refine wpList_store_blk rfl 54 (.tmp 6) (.tmp 125) rfl w.heap.size _ #[.int .i64 203, .int .u32 0, .int .u64 0, .int .u32 0, .int .u32 0, .int .u32 0, .slice none 0 0, .slice A k cA, .int .u32 0, .slice none 0 0] _ rfl rfl HPk.out.res rfl (by kernel_rfl) (by simp [Value.oneCell']) ?_; intro w5 hi5 hg5)
      obtain ⟨r0, r1, r2, r3, r4, r5, r6, r7, r8, r9⟩ := ten_cells hi5
      exact bodyPost_ret (v := .agg #[.int .i64 203, .int .u32 0, .int .u64 0, .int .u32 0, .int .u32 0, .int .u32 0, .slice none 0 0, .slice A k cA, .int .u32 0, .slice none 0 0]) (by simp [results, Try.results139, go_sem, r0, r1, r2, r3, r4, r5, r6, r7, r8, r9]) rfl ⟨A, cA, rfl, HPk.out.own.kept hg5 (own_off HPk.out.own HPk.out.res (by decide)), (HPk.out.b.grown hg5 HPk.out.b.size (fun q hq => by injection hq with hq; omega))⟩
set_option maxRecDepth 20000 in
set_option maxHeartbeats 4000000 in
theorem ritem_205 (X : Option Addr) (n c m : Nat) (l : List UInt8) (w : World) (h : Bts w X n c l) (hm : m ≤ 16) :
    Calls Try.prog 139 #[.int .i64 205, .int .i64 m, .slice X n c] w fun e w' => ∃ A cA, e = .returned (.agg #[.int .i64 205, .int .u32 (getN l 0 4), .int .u64 0, .int .u32 0, .int .u32 0, .int .u32 0, .slice none 0 0, .slice none 0 0, .int .u32 (getN l 4 4), .slice A m cA]) ∧ w'.ownsRow w.heap.size 181 2 (.slice A m cA) m (rowP (prG l 8 m)) ∧ Below w.heap.size w w' := by
  have HB := Lib.hid h
  obtain ⟨y1, h1⟩ : ∃ x, getN l 0 4 = x := ⟨_, rfl⟩
  obtain ⟨y2, h2⟩ : ∃ x, getN l 4 4 = x := ⟨_, rfl⟩
  have b1 : y1 < 4294967296 := by rw [← h1]; exact getN_ltS l 0 4
  have b2 : y2 < 4294967296 := by rw [← h2]; exact getN_ltS l 4 4
  rw [h1, h2]
  have H1 := Lib.hid h1
  have H2 := Lib.hid h2
  have HP0 := Lib.hid (prt_start w #[.int .i64 205, .int .u32 y1, .int .u64 0, .int .u32 0, .int .u32 0, .int .u32 0, .slice none 0 0, .slice none 0 0, .int .u32 y2, .slice none 0 0] 181 2)
  have hbb := fun o1 o2 => ((Below.refl w.heap.size w).alloc (Nat.le_refl _) o1).alloc (by simp) o2
  clear h h1 h2
  go_enter Try.func139, Try.ntmps139
  go_wp2_with (first
    | (go_at_call 83; ((with_reducible refine (rread_w X n c l 0 4 _ (HB.out.below (hbb _ _)) (by omega) (by omega) y1 H1.out).mono ?_); rintro e w2 ⟨rfl, rfl⟩))
    | (go_at_call 83; ((with_reducible refine (rread_w X n c l 4 4 _ (HB.out.below (hbb _ _)) (by omega) (by omega) y2 H2.out).mono ?_); rintro e w2 ⟨rfl, rfl⟩)))
  generalize (w.alloc (.cells #[.int .i64 0, .int .u32 0, .int .u64 0, .int .u32 0, .int .u32 0, .int .u32 0, .slice none 0 0, .slice none 0 0, .int .u32 0, .slice none 0 0] 54)).alloc (.cells #[.int .i64 205, .int .u32 y1, .int .u64 0, .int .u32 0, .int .u32 0, .int .u32 0, .slice none 0 0, .slice none 0 0, .int .u32 y2, .slice none 0 0] 54) = w1 at *
  clear hbb
  go_loopw [8, 9] (fun s8 s9 wr => ∃ (k a cA : Nat) (A : Option Addr), s9 = .int .i64 k ∧ s8 = .int .i64 a ∧ a = 8 + 4 * k ∧ k ≤ m ∧ Hid (PrtS w wr #[.int .i64 205, .int .u32 y1, .int .u64 0, .int .u32 0, .int .u32 0, .int .u32 0, .slice none 0 0, .slice none 0 0, .int .u32 y2, .slice A k cA] 181 2 A k cA (rowP (prG l 8 k)))) (fun _ s9 _ => m - (intOf s9).toNat)
  case atStart => exact ⟨0, 8, 0, none, rfl, rfl, rfl, Nat.zero_le _, HP0⟩
  case round =>
    obtain ⟨k, a, cA, A, rfl, rfl, ha, hkm, HPk⟩ := hrel
    obtain ⟨x0, x1, x2, x3, x4, x5, x6, x7, x8, x9⟩ := ten_cells HPk.out.it
    by_cases hlt : k < m
    · have ha4 : a ≤ 5000 := by omega
      have hp1 := getN_ltS l a 2
      have hp2 := getN_ltS l (a + 2) 2
      obtain ⟨p1, hq1⟩ : ∃ z, getN l a 2 = z := ⟨_, rfl⟩
      obtain ⟨p2, hq2⟩ : ∃ z, getN l (a + 2 : Nat) 2 = z := ⟨_, rfl⟩
      have HST : Hid (prG l 8 (k + 1) = prG l 8 k ++ [(p1, p2)]) := by show _ = _; rw [prG_succ, ← ha, hq1, hq2]
      replace hp1 : p1 < 65536 := by rw [← hq1]; exact hp1
      replace hp2 : p2 < 65536 := by rw [← hq2]; exact hp2
      have v2 : IntKind.i64.wrap ((a : Int) + 2) = ((a + 2 : Nat) : Int) := by rw [IntKind.wrap_i64]; omega
      have HQ1 := Lib.hid hq1
      have HQ2 : Hid (getN l (IntKind.i64.wrap ((a : Int) + 2)) 2 = p2 ∧ IntKind.i64.wrap ((a : Int) + 2) ≤ 9223372036854775807) := ⟨by rw [v2]; exact hq2, by rw [v2]; omega⟩
      have HQ3 : Hid (getN l ((a : Int) + 2) 2 = p2) := by show _ = _; rw [← hq2]; rfl
      have HAK := Lib.hid ha
      clear hq1 hq2 ha v2
      go_wp2
      refine region_planA (calmB_sound _) (.check [0, 2, 3, 6, 7] 8 (.fork [8] (.check [4] 5 (.fork [5] (.check [9] 10 (.fork [10] (.leaf [11, 1, 12, 13, 14, 15]) (.leaf [1, 11, 12, 13, 14, 15]))) (.leaf [1, 9, 10, 11, 12, 13, 14, 15]))) (.check [1, 4] 5 (.leaf [5, 9, 10, 11, 12, 13, 14, 15])))) (by kernel_rfl) (by kernel_rfl) (by kernel_rfl) ?_
      have HPd := Lib.hid (HPk.out.below ((Below.refl _ _).drew))
      generalize wr.drew = wd at *
      clear x0 x1 x2 x3 x4 x5 x6 x7 x8 x9
      obtain ⟨x0, x1, x2, x3, x4, x5, x6, x7, x8, x9⟩ := ten_cells HPd.out.it
      refine wpPlan_check fun P1 hP1 => ?_
      simp only [List.filterMap_cons, List.filterMap_nil, List.getElem?_toArray, List.getElem?_cons_succ, List.getElem?_cons_zero]
      change wpList _ _ _ [_, _, _, _, _] _ _
      go_wp2
      refine hP1 _ _ (by first | exact fun _ => .inl ⟨_, _, _, _, rfl, rfl⟩ | exact fun _ => ⟨_, _, rfl⟩) ?_
      refine wpPlan_fork fun P2 hP2 => ?_
      simp only [List.filterMap_cons, List.filterMap_nil, List.getElem?_toArray, List.getElem?_cons_succ, List.getElem?_cons_zero]
      change wpList _ _ _ [_] _ _
      go_wp2
      refine hP2 _ _ ?_ ?_
      · refine wpPlan_check fun P3 hP3 => ?_
        simp only [List.filterMap_cons, List.filterMap_nil, List.getElem?_toArray, List.getElem?_cons_succ, List.getElem?_cons_zero]
        change wpList _ _ _ [_] _ _
        go_wp2_with (first | (go_at_call 83; ((with_reducible refine (rread_w X n c l a 2 _ (HB.out.below HPd.out.b) (by omega) (by omega) p1 HQ1.out).mono ?_); rintro e w2 ⟨rfl, rfl⟩)) | (go_at_call 83; ((with_reducible refine (rread_w X n c l ((a : Int) + 2) 2 _ (HB.out.below HPd.out.b) (by omega) (by omega) p2 HQ3.out).mono ?_); rintro e w2 ⟨rfl, rfl⟩)) | (go_at_call 83; ((with_reducible refine (rread_w X n c l (IntKind.i64.wrap ((a : Int) + 2)) 2 _ (HB.out.below HPd.out.b) HQ2.out.2 (by omega) p2 HQ2.out.1).mono ?_); rintro e w2 ⟨rfl, rfl⟩)) | (at_builtin; go_loud (refine wpList_app slPr rfl _ _ rfl w.heap.size A k cA (rowP (prG l 8 k)) rfl (HPd.out.own.alloc _) (some ⟨wd.heap.size, 0, none⟩) 1 1 (rowP [(p1, p2)]) rfl rfl (lit_pr wd p1 p2) (pr_one p1 p2) (by omega) (HPd.out.alloc _).b.size ?_; intro A4 c4 w4 ho4 hg4 hA4; rw [show rowP (prG l 8 k) ++ rowP [(p1, p2)] = rowP (prG l 8 (k + 1)) by rw [HST.out]; simp [rowP]] at ho4; have HP4 := Lib.hid ((HPd.out.alloc _).app (by decide) hg4 ho4); obtain ⟨⟨u1, u2⟩, hq7, hg7⟩ := ten_set HP4.out.it 9 (.slice A k cA) (.slice A4 (k + 1) c4) rfl rfl; have HP5 := Lib.hid (HP4.out.item (by decide) hq7 hg7); clear ho4 hg4 hA4 hq7 hg7)))
        refine hP3 _ _ (by first | exact fun _ => .inl ⟨_, _, _, _, rfl, rfl⟩ | exact fun _ => ⟨_, _, rfl⟩) ?_
        refine wpPlan_fork fun P4 hP4 => ?_
        simp only [List.filterMap_cons, List.filterMap_nil, List.getElem?_toArray, List.getElem?_cons_succ, List.getElem?_cons_zero]
        change wpList _ _ _ [_] _ _
        go_wp2
        refine hP4 _ _ ?_ ?_
        · refine wpPlan_check fun P5 hP5 => ?_
          simp only [List.filterMap_cons, List.filterMap_nil, List.getElem?_toArray, List.getElem?_cons_succ, List.getElem?_cons_zero]
          change wpList _ _ _ [_] _ _
          go_wp2_with (first | (go_at_call 83; ((with_reducible refine (rread_w X n c l a 2 _ (HB.out.below HPd.out.b) (by omega) (by omega) p1 HQ1.out).mono ?_); rintro e w2 ⟨rfl, rfl⟩)) | (go_at_call 83; ((with_reducible refine (rread_w X n c l ((a : Int) + 2) 2 _ (HB.out.below HPd.out.b) (by omega) (by omega) p2 HQ3.out).mono ?_); rintro e w2 ⟨rfl, rfl⟩)) | (go_at_call 83; ((with_reducible refine (rread_w X n c l (IntKind.i64.wrap ((a : Int) + 2)) 2 _ (HB.out.below HPd.out.b) HQ2.out.2 (by omega) p2 HQ2.out.1).mono ?_); rintro e w2 ⟨rfl, rfl⟩)) | (at_builtin; go_loud (refine wpList_app slPr rfl _ _ rfl w.heap.size A k cA (rowP (prG l 8 k)) rfl (HPd.out.own.alloc _) (some ⟨wd.heap.size, 0, none⟩) 1 1 (rowP [(p1, p2)]) rfl rfl (lit_pr wd p1 p2) (pr_one p1 p2) (by omega) (HPd.out.alloc _).b.size ?_; intro A4 c4 w4 ho4 hg4 hA4; rw [show rowP (prG l 8 k) ++ rowP [(p1, p2)] = rowP (prG l 8 (k + 1)) by rw [HST.out]; simp [rowP]] at ho4; have HP4 := Lib.hid ((HPd.out.alloc _).app (by decide) hg4 ho4); obtain ⟨⟨u1, u2⟩, hq7, hg7⟩ := ten_set HP4.out.it 9 (.slice A k cA) (.slice A4 (k + 1) c4) rfl rfl; have HP5 := Lib.hid (HP4.out.item (by decide) hq7 hg7); clear ho4 hg4 hA4 hq7 hg7)))
          refine hP5 _ _ (by first | exact fun _ => .inl ⟨_, _, _, _, rfl, rfl⟩ | exact fun _ => ⟨_, _, rfl⟩) ?_
          refine wpPlan_fork fun P6 hP6 => ?_
          simp only [List.filterMap_cons, List.filterMap_nil, List.getElem?_toArray, List.getElem?_cons_succ, List.getElem?_cons_zero]
          change wpList _ _ _ [_] _ _
          go_wp2
          refine hP6 _ _ ?_ ?_
          · refine wpPlan_leaf fun P7 hP7 => ?_
            simp only [List.filterMap_cons, List.filterMap_nil, List.getElem?_toArray, List.getElem?_cons_succ, List.getElem?_cons_zero]
            change wpList _ _ _ [_, _, _, _, _, _] _ _
            go_wp2_with (first | (go_at_call 83; ((with_reducible refine (rread_w X n c l a 2 _ (HB.out.below HPd.out.b) (by omega) (by omega) p1 HQ1.out).mono ?_); rintro e w2 ⟨rfl, rfl⟩)) | (go_at_call 83; ((with_reducible refine (rread_w X n c l ((a : Int) + 2) 2 _ (HB.out.below HPd.out.b) (by omega) (by omega) p2 HQ3.out).mono ?_); rintro e w2 ⟨rfl, rfl⟩)) | (go_at_call 83; ((with_reducible refine (rread_w X n c l (IntKind.i64.wrap ((a : Int) + 2)) 2 _ (HB.out.below HPd.out.b) HQ2.out.2 (by omega) p2 HQ2.out.1).mono ?_); rintro e w2 ⟨rfl, rfl⟩)) | (at_builtin; go_loud (refine wpList_app slPr rfl _ _ rfl w.heap.size A k cA (rowP (prG l 8 k)) rfl (HPd.out.own.alloc _) (some ⟨wd.heap.size, 0, none⟩) 1 1 (rowP [(p1, p2)]) rfl rfl (lit_pr wd p1 p2) (pr_one p1 p2) (by omega) (HPd.out.alloc _).b.size ?_; intro A4 c4 w4 ho4 hg4 hA4; rw [show rowP (prG l 8 k) ++ rowP [(p1, p2)] = rowP (prG l 8 (k + 1)) by rw [HST.out]; simp [rowP]] at ho4; have HP4 := Lib.hid ((HPd.out.alloc _).app (by decide) hg4 ho4); obtain ⟨⟨u1, u2⟩, hq7, hg7⟩ := ten_set HP4.out.it 9 (.slice A k cA) (.slice A4 (k + 1) c4) rfl rfl; have HP5 := Lib.hid (HP4.out.item (by decide) hq7 hg7); clear ho4 hg4 hA4 hq7 hg7)))
            go_wp2
            exact ⟨⟨k + 1, a + 4, c4, A4, rfl, rfl, by rw [HAK.out]; omega, by omega, HP5⟩, by simp [intOf]; omega⟩
          · refine wpPlan_leaf fun P8 hP8 => ?_
            simp only [List.filterMap_cons, List.filterMap_nil, List.getElem?_toArray, List.getElem?_cons_succ, List.getElem?_cons_zero]
            change wpList _ _ _ [_, _, _, _, _, _] _ _
            go_wp2_with (first | (go_at_call 83; ((with_reducible refine (rread_w X n c l a 2 _ (HB.out.below HPd.out.b) (by omega) (by omega) p1 HQ1.out).mono ?_); rintro e w2 ⟨rfl, rfl⟩)) | (go_at_call 83; ((with_reducible refine (rread_w X n c l ((a : Int) + 2) 2 _ (HB.out.below HPd.out.b) (by omega) (by omega) p2 HQ3.out).mono ?_); rintro e w2 ⟨rfl, rfl⟩)) | (go_at_call 83; ((with_reducible refine (rread_w X n c l (IntKind.i64.wrap ((a : Int) + 2)) 2 _ (HB.out.below HPd.out.b) HQ2.out.2 (by omega) p2 HQ2.out.1).mono ?_); rintro e w2 ⟨rfl, rfl⟩)) | (at_builtin; go_loud (refine wpList_app slPr rfl _ _ rfl w.heap.size A k cA (rowP (prG l 8 k)) rfl (HPd.out.own.alloc _) (some ⟨wd.heap.size, 0, none⟩) 1 1 (rowP [(p1, p2)]) rfl rfl (lit_pr wd p1 p2) (pr_one p1 p2) (by omega) (HPd.out.alloc _).b.size ?_; intro A4 c4 w4 ho4 hg4 hA4; rw [show rowP (prG l 8 k) ++ rowP [(p1, p2)] = rowP (prG l 8 (k + 1)) by rw [HST.out]; simp [rowP]] at ho4; have HP4 := Lib.hid ((HPd.out.alloc _).app (by decide) hg4 ho4); obtain ⟨⟨u1, u2⟩, hq7, hg7⟩ := ten_set HP4.out.it 9 (.slice A k cA) (.slice A4 (k + 1) c4) rfl rfl; have HP5 := Lib.hid (HP4.out.item (by decide) hq7 hg7); clear ho4 hg4 hA4 hq7 hg7)))
            go_wp2
            exact ⟨⟨k + 1, a + 4, c4, A4, rfl, rfl, by rw [HAK.out]; omega, by omega, HP5⟩, by simp [intOf]; omega⟩
        · refine wpPlan_leaf fun P9 hP9 => ?_
          simp only [List.filterMap_cons, List.filterMap_nil, List.getElem?_toArray, List.getElem?_cons_succ, List.getElem?_cons_zero]
          change wpList _ _ _ [_, _, _, _, _, _, _, _] _ _
          go_wp2_with (first | (go_at_call 83; ((with_reducible refine (rread_w X n c l a 2 _ (HB.out.below HPd.out.b) (by omega) (by omega) p1 HQ1.out).mono ?_); rintro e w2 ⟨rfl, rfl⟩)) | (go_at_call 83; ((with_reducible refine (rread_w X n c l ((a : Int) + 2) 2 _ (HB.out.below HPd.out.b) (by omega) (by omega) p2 HQ3.out).mono ?_); rintro e w2 ⟨rfl, rfl⟩)) | (go_at_call 83; ((with_reducible refine (rread_w X n c l (IntKind.i64.wrap ((a : Int) + 2)) 2 _ (HB.out.below HPd.out.b) HQ2.out.2 (by omega) p2 HQ2.out.1).mono ?_); rintro e w2 ⟨rfl, rfl⟩)) | (at_builtin; go_loud (refine wpList_app slPr rfl _ _ rfl w.heap.size A k cA (rowP (prG l 8 k)) rfl (HPd.out.own.alloc _) (some ⟨wd.heap.size, 0, none⟩) 1 1 (rowP [(p1, p2)]) rfl rfl (lit_pr wd p1 p2) (pr_one p1 p2) (by omega) (HPd.out.alloc _).b.size ?_; intro A4 c4 w4 ho4 hg4 hA4; rw [show rowP (prG l 8 k) ++ rowP [(p1, p2)] = rowP (prG l 8 (k + 1)) by rw [HST.out]; simp [rowP]] at ho4; have HP4 := Lib.hid ((HPd.out.alloc _).app (by decide) hg4 ho4); obtain ⟨⟨u1, u2⟩, hq7, hg7⟩ := ten_set HP4.out.it 9 (.slice A k cA) (.slice A4 (k + 1) c4) rfl rfl; have HP5 := Lib.hid (HP4.out.item (by decide) hq7 hg7); clear ho4 hg4 hA4 hq7 hg7)))
          go_wp2
          exact ⟨⟨k + 1, a + 4, c4, A4, rfl, rfl, by rw [HAK.out]; omega, by omega, HP5⟩, by simp [intOf]; omega⟩
      · refine wpPlan_check fun P10 hP10 => ?_
        simp only [List.filterMap_cons, List.filterMap_nil, List.getElem?_toArray, List.getElem?_cons_succ, List.getElem?_cons_zero]
        change wpList _ _ _ [_, _] _ _
        go_wp2_with (first | (go_at_call 83; ((with_reducible refine (rread_w X n c l a 2 _ (HB.out.below HPd.out.b) (by omega) (by omega) p1 HQ1.out).mono ?_); rintro e w2 ⟨rfl, rfl⟩)) | (go_at_call 83; ((with_reducible refine (rread_w X n c l ((a : Int) + 2) 2 _ (HB.out.below HPd.out.b) (by omega) (by omega) p2 HQ3.out).mono ?_); rintro e w2 ⟨rfl, rfl⟩)) | (go_at_call 83; ((with_reducible refine (rread_w X n c l (IntKind.i64.wrap ((a : Int) + 2)) 2 _ (HB.out.below HPd.out.b) HQ2.out.2 (by omega) p2 HQ2.out.1).mono ?_); rintro e w2 ⟨rfl, rfl⟩)) | (at_builtin; go_loud (refine wpList_app slPr rfl _ _ rfl w.heap.size A k cA (rowP (prG l 8 k)) rfl (HPd.out.own.alloc _) (some ⟨wd.heap.size, 0, none⟩) 1 1 (rowP [(p1, p2)]) rfl rfl (lit_pr wd p1 p2) (pr_one p1 p2) (by omega) (HPd.out.alloc _).b.size ?_; intro A4 c4 w4 ho4 hg4 hA4; rw [show rowP (prG l 8 k) ++ rowP [(p1, p2)] = rowP (prG l 8 (k + 1)) by rw [HST.out]; simp [rowP]] at ho4; have HP4 := Lib.hid ((HPd.out.alloc _).app (by decide) hg4 ho4); obtain ⟨⟨u1, u2⟩, hq7, hg7⟩ := ten_set HP4.out.it 9 (.slice A k cA) (.slice A4 (k + 1) c4) rfl rfl; have HP5 := Lib.hid (HP4.out.item (by decide) hq7 hg7); clear ho4 hg4 hA4 hq7 hg7)))
        refine hP10 _ _ (by first | exact fun _ => .inl ⟨_, _, _, _, rfl, rfl⟩ | exact fun _ => ⟨_, _, rfl⟩) ?_
        refine wpPlan_leaf fun P11 hP11 => ?_
        simp only [List.filterMap_cons, List.filterMap_nil, List.getElem?_toArray, List.getElem?_cons_succ, List.getElem?_cons_zero]
        change wpList _ _ _ [_, _, _, _, _, _, _, _] _ _
        go_wp2_with (first | (go_at_call 83; ((with_reducible refine (rread_w X n c l a 2 _ (HB.out.below HPd.out.b) (by omega) (by omega) p1 HQ1.out).mono ?_); rintro e w2 ⟨rfl, rfl⟩)) | (go_at_call 83; ((with_reducible refine (rread_w X n c l ((a : Int) + 2) 2 _ (HB.out.below HPd.out.b) (by omega) (by omega) p2 HQ3.out).mono ?_); rintro e w2 ⟨rfl, rfl⟩)) | (go_at_call 83; ((with_reducible refine (rread_w X n c l (IntKind.i64.wrap ((a : Int) + 2)) 2 _ (HB.out.below HPd.out.b) HQ2.out.2 (by omega) p2 HQ2.out.1).mono ?_); rintro e w2 ⟨rfl, rfl⟩)) | (at_builtin; go_loud (refine wpList_app slPr rfl _ _ rfl w.heap.size A k cA (rowP (prG l 8 k)) rfl (HPd.out.own.alloc _) (some ⟨wd.heap.size, 0, none⟩) 1 1 (rowP [(p1, p2)]) rfl rfl (lit_pr wd p1 p2) (pr_one p1 p2) (by omega) (HPd.out.alloc _).b.size ?_; intro A4 c4 w4 ho4 hg4 hA4; rw [show rowP (prG l 8 k) ++ rowP [(p1, p2)] = rowP (prG l 8 (k + 1)) by rw [HST.out]; simp [rowP]] at ho4; have HP4 := Lib.hid ((HPd.out.alloc _).app (by decide) hg4 ho4); obtain ⟨⟨u1, u2⟩, hq7, hg7⟩ := ten_set HP4.out.it 9 (.slice A k cA) (.slice A4 (k + 1) c4) rfl rfl; have HP5 := Lib.hid (HP4.out.item (by decide) hq7 hg7); clear ho4 hg4 hA4 hq7 hg7)))
        go_wp2
        exact ⟨⟨k + 1, a + 4, c4, A4, rfl, rfl, by rw [HAK.out]; omega, by omega, HP5⟩, by simp [intOf]; omega⟩
    · have hk : k = m := by omega
      subst hk
      clear ha hlt
      go_wp2_with (refine wpList_store_blk rfl 54 (.tmp 6) (.tmp 125) rfl w.heap.size _ #[.int .i64 205, .int .u32 y1, .int .u64 0, .int .u32 0, .int .u32 0, .int .u32 0, .slice none 0 0, .slice none 0 0, .int .u32 y2, .slice A k cA] _ rfl rfl HPk.out.res rfl (by kernel_rfl) (by simp [Value.oneCell']) ?_; intro w5 hi5 hg5)
      obtain ⟨r0, r1, r2, r3, r4, r5, r6, r7, r8, r9⟩ := ten_cells hi5
      exact bodyPost_ret (v := .agg #[.int .i64 205, .int .u32 y1, .int .u64 0, .int .u32 0, .int .u32 0, .int .u32 0, .slice none 0 0, .slice none 0 0, .int .u32 y2, .slice A k cA]) (by simp [results, Try.results139, go_sem, r0, r1, r2, r3, r4, r5, r6, r7, r8, r9]) rfl ⟨A, cA, rfl, HPk.out.own.kept hg5 (own_off HPk.out.own HPk.out.res (by decide)), (HPk.out.b.grown hg5 HPk.out.b.size (fun q hq => by injection hq with hq; omega))⟩
set_option maxRecDepth 20000 in
set_option maxHeartbeats 4000000 in
theorem ritem_206 (X : Option Addr) (n c : Nat) (l : List UInt8) (w : World) (h : Bts w X n c l) :
    Calls Try.prog 139 #[.int .i64 206, .int .i64 0, .slice X n c] w fun e w' => e = .returned (.agg #[.int .i64 206, .int .u32 (getN l 0 4), .int .u64 0, .int .u32 0, .int .u32 0, .int .u32 0, .slice none 0 0, .slice none 0 0, .int .u32 (getN l 4 4), .slice none 0 0]) ∧ Below w.heap.size w w' := by
  have HB := Lib.hid h
  obtain ⟨y1, h1⟩ : ∃ x, getN l 0 4 = x := ⟨_, rfl⟩
  obtain ⟨y2, h2⟩ : ∃ x, getN l 4 4 = x := ⟨_, rfl⟩
  have b1 : y1 < 4294967296 := by rw [← h1]; exact getN_ltS l 0 4
  have b2 : y2 < 4294967296 := by rw [← h2]; exact getN_ltS l 4 4
  rw [h1, h2]
  have H1 := Lib.hid h1
  have H2 := Lib.hid h2
  have HP0 := Lib.hid (prt_start w #[.int .i64 206, .int .u32 y1, .int .u64 0, .int .u32 0, .int .u32 0, .int .u32 0, .slice none 0 0, .slice none 0 0, .int .u32 y2, .slice none 0 0] 181 2)
  have hbb := fun o1 o2 => ((Below.refl w.heap.size w).alloc (Nat.le_refl _) o1).alloc (by simp) o2
  clear h h1 h2
  go_enter Try.func139, Try.ntmps139
  go_wp2_with (first
    | (go_at_call 83; ((with_reducible refine (rread_w X n c l 0 4 _ (HB.out.below (hbb _ _)) (by omega) (by omega) y1 H1.out).mono ?_); rintro e w2 ⟨rfl, rfl⟩))
    | (go_at_call 83; ((with_reducible refine (rread_w X n c l 4 4 _ (HB.out.below (hbb _ _)) (by omega) (by omega) y2 H2.out).mono ?_); rintro e w2 ⟨rfl, rfl⟩)))
  generalize (w.alloc (.cells #[.int .i64 0, .int .u32 0, .int .u64 0, .int .u32 0, .int .u32 0, .int .u32 0, .slice none 0 0, .slice none 0 0, .int .u32 0, .slice none 0 0] 54)).alloc (.cells #[.int .i64 206, .int .u32 y1, .int .u64 0, .int .u32 0, .int .u32 0, .int .u32 0, .slice none 0 0, .slice none 0 0, .int .u32 y2, .slice none 0 0] 54) = w1 at *
  clear hbb
  go_loopw [8, 9] (fun s8 s9 wr => s8 = .int .i64 8 ∧ s9 = .int .i64 0 ∧ Hid (PrtS w wr #[.int .i64 206, .int .u32 y1, .int .u64 0, .int .u32 0, .int .u32 0, .int .u32 0, .slice none 0 0, .slice none 0 0, .int .u32 y2, .slice none 0 0] 181 2 none 0 0 [])) (fun _ _ _ => 0)
  case atStart => exact ⟨rfl, rfl, HP0⟩
  case round =>
    obtain ⟨rfl, rfl, HPk⟩ := hrel
    obtain ⟨x0, x1, x2, x3, x4, x5, x6, x7, x8, x9⟩ := ten_cells HPk.out.it
    go_wp2_with (refine wpList_store_blk rfl 54 (.tmp 6) (.tmp 125) rfl w.heap.size _ #[.int .i64 206, .int .u32 y1, .int .u64 0, .int .u32 0, .int .u32 0, .int .u32 0, .slice none 0 0, .slice none 0 0, .int .u32 y2, .slice none 0 0] _ rfl rfl HPk.out.res rfl (by kernel_rfl) (by simp [Value.oneCell']) ?_; intro w5 hi5 hg5)
    obtain ⟨r0, r1, r2, r3, r4, r5, r6, r7, r8, r9⟩ := ten_cells hi5
    exact bodyPost_ret (v := .agg #[.int .i64 206, .int .u32 y1, .int .u64 0, .int .u32 0, .int .u32 0, .int .u32 0, .slice none 0 0, .slice none 0 0, .int .u32 y2, .slice none 0 0]) (by simp [results, Try.results139, go_sem, r0, r1, r2, r3, r4, r5, r6, r7, r8, r9]) rfl ⟨rfl, (HPk.out.b.grown hg5 HPk.out.b.size (fun q hq => by injection hq with hq; omega))⟩
end Go.Proofs.Ytknlkmencdlpcaa
