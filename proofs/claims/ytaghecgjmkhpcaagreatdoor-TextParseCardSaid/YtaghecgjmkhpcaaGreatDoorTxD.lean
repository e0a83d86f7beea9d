/-
one of package text: walked.
-/
import Derived.Test.YtaghecgjmkhpcaaGreatDoorTxC
namespace Go.Proofs.YtaghecgjmkhpcaaGreatDoor
set_option linter.unusedVariables false
set_option linter.unusedSimpArgs false
open Go Go.RowKit

theorem valid_any (s : List UInt8) (w : World) (hs : s.length ≤ 9223372036854775807) (hT : LaidT w) : Calls Tryz.prog 29 #[.string ⟨s.toArray⟩] w fun e w' => e = .returned (.bool (Lib.validD s)) ∧ Below w.heap.size w w' :=
  Tryz.utf8_ValidString ⟨s.toArray⟩ w hs hT.utf
theorem print_one (o : Opx) : printL [o] = if mayO o then lineL o else [] := by
  unfold printL
  cases h : mayO o <;> simp [h]
theorem print_test (o : Opx) (s : List UInt8) : (printL [o] == s ++ [10]) = (mayO o && (lineL o == s ++ [10])) := by
  rw [print_one]
  cases mayO o
  · simp
  · simp
abbrev zA : Array Value := #[.int .i64 0, .int .i64 0, .int .i64 0, .int .i64 0, .string ⟨#[]⟩, .slice none 0 0, .slice none 0 0]
abbrev zS : Sp := ⟨zeroO, none, 0, 0, none, 0, 0⟩
theorem read_o (k : Int) (hk : 1 ≤ k ∧ k ≤ 12) (A : Option Addr) (n c : Nat) (l : List (List UInt8)) (w : World) (h : Row w A n c 1 16 (strs l)) (hlen : ∀ x ∈ l, x.length ≤ 1000000) (hn : n ≤ 1000000) (hT : LaidT w) :
    Calls Tryz.prog 49 #[.int .i64 k, .slice A n c] w fun e w' => ∃ x : Sp, e = .returned (.agg #[.int .i64 x.o.k, .int .i64 x.o.p, .int .i64 x.o.s, .int .i64 x.o.y, .string ⟨x.o.nm.toArray⟩, .slice x.A x.an x.ac, .slice x.B x.bn x.bc]) ∧ SpO w' w.heap.size x ∧
      Hid (∀ q, mayO q = true → ssOk q → k = q.k → l = wrdsL q → x.o = q) ∧ x.o.k = k ∧ Below w.heap.size w w' := read_any k hk A n c l w h hlen hn hT
def OneP (s : List UInt8) (w : World) (e : Ending) (w' : World) : Prop :=
  ∃ x : Sp, e = .returned (.tuple #[spV x, .int .i64 (oneL s).1]) ∧ ((oneL s).1 = 0 → x.o = (oneL s).2) ∧ SpO w' w.heap.size x ∧ Below w.heap.size w w'
theorem one_zero {s : List UInt8} {w w' : World} {E : Int} (h : oneL s = (E, zeroO)) (hE : E ≠ 0) (hb : Below w.heap.size w w') : OneP s w (.returned (.tuple #[.agg zA, .int .i64 E])) w' :=
  ⟨zS, by rw [h]; rfl, fun h0 => by rw [h] at h0; exact absurd h0 hE, spz_own _ _, hb⟩
set_option maxRecDepth 20000 in
set_option maxHeartbeats 2000000 in
theorem one_any (s : List UInt8) (w : World) (hl : s.length ≤ 262144) (hT : LaidT w) : Calls Tryz.prog 26 #[.string ⟨s.toArray⟩] w fun e w' => OneP s w e w' := by
  have HT := Lib.hid hT
  have hi0 : (w.alloc (.cells zA 27)).heap[w.heap.size]? = some (.cells zA 27 (0, 0)) := heap_alloc_new w _
  have hb1 : Below w.heap.size w (w.alloc (.cells zA 27)) := (Below.refl _ w).alloc (Nat.le_refl _) _
  clear hT
  cases hv : Lib.validD s with
  | false =>
    have HV := Lib.hid hv
    have HE := Lib.hid (one_bad hv)
    clear hv
    go_enter Tryz.func26, Tryz.ntmps26
    go_upto_region 1 with fail
    generalize w.alloc _ = w1 at *
    have HT1 := Lib.hid (HT.out.below hb1)
    go_wp2_with (first
      | (go_at_call 29; (with_reducible refine (valid_any s _ (by omega) HT1.out).mono ?_); rintro e w2 ⟨rfl, hb2⟩; have hv' := HV.out; rw [hv']; clear hv'; have hi2 := blk_below hi0 hb2)
      | (refine wpList_store_blk rfl 27 (.tmp 2) (.tmp 10) rfl w.heap.size _ zA _ rfl rfl hi2 rfl (by kernel_rfl) (by simp [Value.oneCell']) ?_; intro w10 hi10 hg10))
    have BW := below_nextT hb1 hb2
    exact bodyPost_ret (v := .tuple #[.agg zA, .int .i64 1]) (res_ctT rfl _ _ w.heap.size _ _ _ _ rfl hi10 Tryz.underlying27 (by kernel_rfl) _ rfl) rfl (one_zero HE.out (by decide) (BW.grown hg10 BW.size (fun q hq => by injection hq with hq; omega)))
  | true =>
    have HV := Lib.hid hv
    clear hv
    obtain ⟨ws, hws⟩ : ∃ ws, splitL 32 s = ws := ⟨_, rfl⟩
    have HSP := Lib.hid (fun w (hT : LaidT w) => hws ▸ split_any s w (by omega) hT)
    have HWS := Lib.hid hws
    have hlen := split_lens 32 s
    rw [hws] at hlen
    have HLN := Lib.hid hlen
    have hwne : ws ≠ [] := by rw [← hws]; exact splitL_ne 32 s
    have hw1 := List.length_pos_iff.2 hwne
    have HW1 := Lib.hid hw1
    obtain ⟨hd, hhd⟩ : ∃ h, wd ws 0 = h := ⟨_, rfl⟩
    have HHD := Lib.hid hhd
    obtain ⟨ix, hix⟩ : ∃ i, Lib.idxOfS (wordsB.take 13) ⟨hd.toArray⟩ = i := ⟨_, rfl⟩
    have HIX := Lib.hid hix
    have hcase := idx_words hd
    rw [hix] at hcase
    have HC := Lib.hid hcase
    clear hws hlen hwne hw1 hhd hix hcase
    go_enter Tryz.func26, Tryz.ntmps26
    go_upto_region 1 with fail
    generalize w.alloc _ = w1 at *
    have HT1 := Lib.hid (HT.out.below hb1)
    go_upto_region 4 with (first
      | (go_at_call 29; (with_reducible refine (valid_any s _ (by omega) HT1.out).mono ?_); rintro e w2 ⟨rfl, hb2⟩; have hv' := HV.out; rw [hv']; clear hv'; have hi2 := blk_below hi0 hb2; have HT2 := Lib.hid (HT1.out.below hb2))
      | (go_at_call 47; (with_reducible refine (HSP.out _ HT2.out).mono ?_); rintro e w3 ⟨n, rfl, hr3, hb3⟩; have HR3 := Lib.hid hr3; clear hr3; have hi3 := blk_below hi2 hb3; have HT3 := Lib.hid (HT2.out.below hb3)))
    have hn : ws.length = n := by have := HR3.out.len; rw [strs_length] at this; omega
    have hn1 : 0 < n := by have := HW1.out; omega
    have hn2 : n ≤ 262145 := by have := HLN.out.1; omega
    have HN := Lib.hid hn
    clear hn
    obtain ⟨ad, hade, hc0⟩ := rd_str HR3.out hn1
    injection hade with hade
    subst hade
    rw [HHD.out, add_zero'] at hc0
    have B3 := below_nextT (below_nextT hb1 hb2) hb3
    go_cut [5] from 13 to 17 (fun v5 wx => v5 = .int .i64 ix ∧ Below w3.heap.size w3 wx)
    case rest =>
      obtain ⟨rfl, hbc⟩ := hcut
      have hic := blk_below hi3 hbc
      have HRc := Lib.hid (HR3.out.below hbc)
      have HTc := Lib.hid (HT3.out.below hbc)
      have Bc := below_nextT B3 hbc
      rcases HC.out with ⟨hlt, hk0⟩ | ⟨hke, hk1, hk12⟩
      · have e1 : decide (ix < 1) = true := decide_eq_true hlt
        have HE := Lib.hid (one_kind HV.out (by rw [HWS.out, HHD.out]; exact hk0))
        clear hlt hk0
        go_wp2_with (refine wpList_store_blk rfl 27 (.tmp 2) (.tmp 20) rfl w.heap.size _ zA _ rfl rfl hic rfl (by kernel_rfl) (by simp [Value.oneCell']) ?_; intro w10 hi10 hg10)
        exact bodyPost_ret (v := .tuple #[.agg zA, .int .i64 4]) (res_ctT rfl _ _ w.heap.size _ _ _ _ rfl hi10 Tryz.underlying27 (by kernel_rfl) _ rfl) rfl (one_zero HE.out (by decide) (Bc.grown hg10 Bc.size (fun q hq => by injection hq with hq; omega)))
      · have e1 : decide (ix < 1) = false := decide_eq_false (by omega)
        have hk : 1 ≤ ix ∧ ix ≤ 12 := by omega
        have HK := Lib.hid hk
        have HKE := Lib.hid hke
        have hlw : ∀ x ∈ ws, x.length ≤ 1000000 := fun x hx => by have := HLN.out.2 x hx; omega
        have HLW := Lib.hid hlw
        clear hke hk1 hk12 hlw hk
        go_upto_region 8 with (go_at_call 49; (with_reducible refine (read_o ix HK.out _ n n ws _ HRc.out HLW.out (by omega) HTc.out).mono ?_); rintro e w5 ⟨x, rfl, hso, HQ, hxk, hb5⟩; have HSO := Lib.hid hso; have HXK := Lib.hid hxk; clear hso hxk)
        have hi5 := blk_below hic hb5
        have B5 := below_nextT Bc hb5
        have HT5 := Lib.hid (HTc.out.below hb5)
        have hi6 : (w5.alloc (.cells (spA x) 27)).heap[w5.heap.size]? = some (.cells (spA x) 27 (0, 0)) := heap_alloc_new w5 _
        have hb6 : Below w5.heap.size w5 (w5.alloc (.cells (spA x) 27)) := (Below.refl _ w5).alloc (Nat.le_refl _) _
        generalize w5.alloc _ = w6 at *
        have hi66 := blk_below hi5 hb6
        have B6 := below_nextT B5 hb6
        have HSO6 := Lib.hid (HSO.out.below hb6)
        obtain ⟨x0, x1, x2, x3, x4, x5, x6⟩ := seven_cells hi6
        obtain ⟨PR, hPR⟩ : ∃ q, printL [x.o] = q := ⟨_, rfl⟩
        obtain ⟨SL, hSL⟩ : ∃ q, s ++ [10] = q := ⟨_, rfl⟩
        have hb7 : Below w6.heap.size w6 (w6.alloc (.cells (spA x) 27)) := (Below.refl _ w6).alloc (Nat.le_refl _) _
        have hops : Ops (w6.alloc (.cells (spA x) 27)) (some ⟨w6.heap.size, 0, none⟩) 1 1 [x] := by
          refine ⟨rfl, Nat.le_refl _, by unfold maxLen; omega, ?_, fun y hy => ?_⟩
          · have r := World.ownsRow_lit (base := 0) (e := 27) (size := 7) w6 (spA x) 1 (Nat.zero_le _) (by unfold maxLen; omega) rfl
            exact (own_rowT 1 r).rd
          · rw [List.mem_singleton.1 hy]
            exact (HSO6.out.below hb7).r
        have hpc := print_any (some ⟨w6.heap.size, 0, none⟩) 1 1 [x] _ hops ((HT5.out.below hb6).below hb7)
        have epr : printL (opl [x]) = PR := hPR
        rw [epr] at hpc
        have HPC := Lib.hid hpc
        have hadd : ∀ wz : World, (Op.stringOp .add ⟨s.toArray⟩ ⟨#[10]⟩).run Tryz.prog wz = .ok (.string ⟨SL.toArray⟩) wz := fun wz => by
          have := run_string_add_lists (P := Tryz.prog) wz s [10] (by omega) (by decide)
          rw [hSL] at this
          exact this
        have HPR := Lib.hid hPR
        have HSL := Lib.hid hSL
        clear hPR hSL hops hpc epr
        cases ht : (PR == SL) with
        | false =>
          have HE : oneL s = (1, zeroO) := by
            refine one_not HV.out (by rw [HWS.out, HHD.out]; have := HKE.out; have := HK.out.1; omega) (o := x.o) (fun q hm hs hsp => ?_) ?_
            · refine HQ.out q hm hs ?_ (by rw [← HWS.out]; exact hsp)
              have h1 := kind_head hm
              have h2 := HKE.out
              rw [← HHD.out, ← HWS.out, hsp, h1] at h2
              have := may_cases hm
              omega
            · rw [← print_test, HPR.out, HSL.out]
              exact ht
          have HEE := Lib.hid HE
          clear HE
          go_wp2_with (first
            | (go_at_call 8; (with_reducible refine (HPC.out).mono ?_); rintro e w8 ⟨rfl, hb8⟩; have hi8 := blk_below (blk_below hi66 hb7) hb8)
            | (refine wpList_store_blk rfl 27 (.tmp 2) (.tmp 30) rfl w.heap.size _ zA _ rfl rfl hi8 rfl (by kernel_rfl) (by simp [Value.oneCell']) ?_; intro w10 hi10 hg10))
          have B8 := below_nextT (below_nextT B6 hb7) hb8
          exact bodyPost_ret (v := .tuple #[.agg zA, .int .i64 1]) (res_ctT rfl _ _ w.heap.size _ _ _ _ rfl hi10 Tryz.underlying27 (by kernel_rfl) _ rfl) rfl (one_zero HEE.out (by decide) (B8.grown hg10 B8.size (fun q hq => by injection hq with hq; omega)))
        | true =>
          have HE : oneL s = (0, x.o) := by
            refine one_yes HV.out (by rw [HWS.out, HHD.out]; have := HKE.out; have := HK.out.1; omega) HSO6.out.ok ?_
            rw [← print_test, HPR.out, HSL.out]
            exact ht
          have HEE := Lib.hid HE
          clear HE
          go_wp2_with (first
            | (go_at_call 8; (with_reducible refine (HPC.out).mono ?_); rintro e w8 ⟨rfl, hb8⟩; have hi8 := blk_below (blk_below hi66 hb7) hb8; obtain ⟨z0, z1, z2, z3, z4, z5, z6⟩ := seven_cells (blk_below (blk_below hi6 hb7) hb8))
            | (refine wpList_store_blk rfl 27 (.tmp 2) (.tmp 31) rfl w.heap.size _ (spA x) _ rfl rfl hi8 rfl (by kernel_rfl) (spA_one _) ?_; intro w10 hi10 hg10))
          have B8 := below_nextT (below_nextT B6 hb7) hb8
          have hso := (((HSO6.out.below hb7).below hb8).grown hg10 hi8).mono Bc.size
          exact bodyPost_ret (v := .tuple #[spV x, .int .i64 0]) (res_ctT rfl _ _ w.heap.size _ _ _ _ rfl hi10 Tryz.underlying27 (by kernel_rfl) _ rfl) rfl ⟨x, by rw [HEE.out], fun _ => by rw [HEE.out], hso, B8.grown hg10 B8.size (fun q hq => by injection hq with hq; omega)⟩
    go_wp2_with fail
    refine region_plan (calmB_sound _) (.fork [1, 2] (.leaf [3, 0, 4, 5]) (.leaf [0, 3, 4, 5])) (by kernel_rfl) (by kernel_rfl) (by kernel_rfl) ?_
    have hbd := (Below.refl w3.heap.size w3).drew
    have hcd := below_cell hbd hc0
    generalize w3.drew = wd' at *
    refine wpPlan_fork fun PL0 hPL0 => ?_
    simp only [List.filterMap_cons, List.filterMap_nil, List.getElem?_toArray, List.getElem?_cons_succ, List.getElem?_cons_zero]
    change wpList _ _ _ [_, _] _ _
    go_wp2_with (first
      | (go_at_call 38; (with_reducible refine (words_o _).mono ?_); rintro e wa ⟨g, rfl, hga, hba⟩; have hca := below_cell hba hcd)
      | (go_at_call 48; (refine (Tryz.slices_Index_string g 0 13 13 wordsB ⟨hd.toArray⟩ _ (by decide) (by decide) (words_row hga)).mono ?_); rintro e wb ⟨rfl, hwb⟩; replace hwb := hwb.symm; subst hwb; rw [HIX.out]))
    refine hPL0 _ _ ?_ ?_
    · refine wpPlan_leaf fun PL1 hPL1 => ?_
      simp only [List.filterMap_cons, List.filterMap_nil, List.getElem?_toArray, List.getElem?_cons_succ, List.getElem?_cons_zero]
      change wpList _ _ _ [_, _, _, _] _ _
      go_wp2_with (first
      | (go_at_call 38; (with_reducible refine (words_o _).mono ?_); rintro e wa ⟨g, rfl, hga, hba⟩; have hca := below_cell hba hcd)
      | (go_at_call 48; (refine (Tryz.slices_Index_string g 0 13 13 wordsB ⟨hd.toArray⟩ _ (by decide) (by decide) (words_row hga)).mono ?_); rintro e wb ⟨rfl, hwb⟩; replace hwb := hwb.symm; subst hwb; rw [HIX.out]))
      go_meet
      exact ⟨rfl, below_nextT hbd hba⟩
    · refine wpPlan_leaf fun PL1 hPL1 => ?_
      simp only [List.filterMap_cons, List.filterMap_nil, List.getElem?_toArray, List.getElem?_cons_succ, List.getElem?_cons_zero]
      change wpList _ _ _ [_, _, _, _] _ _
      go_wp2_with (first
      | (go_at_call 38; (with_reducible refine (words_o _).mono ?_); rintro e wa ⟨g, rfl, hga, hba⟩; have hca := below_cell hba hcd)
      | (go_at_call 48; (refine (Tryz.slices_Index_string g 0 13 13 wordsB ⟨hd.toArray⟩ _ (by decide) (by decide) (words_row hga)).mono ?_); rintro e wb ⟨rfl, hwb⟩; replace hwb := hwb.symm; subst hwb; rw [HIX.out]))
      go_meet
      exact ⟨rfl, below_nextT hbd hba⟩
end Go.Proofs.YtaghecgjmkhpcaaGreatDoor
