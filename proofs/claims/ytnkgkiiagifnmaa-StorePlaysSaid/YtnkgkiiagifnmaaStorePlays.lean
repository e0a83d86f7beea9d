/-
StorePlays: any calls tell what the document's own store tells, and leave the same bytes and slots. For every number and every list of calls, of which the first forty are made.
-/
import Derived.Test.YtnkgkiiagifnmaaActS
import Derived.Test.YtnkgkiiagifnmaaSt4
import Derived.Test.YtnkgkiiagifnmaaRows
import Derived.Test.YtnkgkiiagifnmaaFrame
import Derived.Deep.CutBlock

namespace Go.Proofs.Ytnkgkiiagifnmaa
set_option linter.unusedVariables false
set_option linter.unusedSimpArgs false
open Go Go.RowKit

set_option maxRecDepth 100000 in
set_option maxHeartbeats 8000000 in
theorem storePlays_walk (N : Int) (X : Option Addr) (m d : Nat) (w : World) (h0 : -9223372036854775808 ≤ N ∧ N ≤ 9223372036854775807) (ha : Acts12 w X m) :
    Calls Try.prog 10 #[.int .i64 N, .slice X m d] w fun e w' => e = .returned (.bool true) ∧ Below w.heap.size w w' := by
  have HAct := Lib.hid ha
  obtain ⟨n, hn⟩ : ∃ n, n = sizeS N := ⟨_, rfl⟩
  obtain ⟨hn0, hn1, hn2⟩ := sizeS_is N
  rw [← hn] at hn0 hn1 hn2
  have HN := Lib.hid hn
  clear ha hn hn0
  go_enter Try.func10, Try.ntmps10
  go_wp2_with (first
    | (go_at_call 38; (with_reducible refine (shown12_any _).mono ?_); rintro e w1 ⟨rfl, hb1⟩)
    | (go_at_call 39; (with_reducible refine (snew_any N _ h0).mono ?_); rintro e w2 ⟨P, rfl, hS2, hb2⟩; rw [← HN.out] at hS2)
    | (go_at_call 47; (with_reducible refine (Rto.new N _ h0).mono ?_); rintro e w3 ⟨R, rfl, hR3, hb3⟩; rw [← HN.out] at hR3))
  have hs1 := hb1.size
  have hk0 : Hold w w1 w1.heap.size [] := Hold.nil hb1 hs1 (Nat.le_refl _)
  have hk3 := (hk0.snew hS2 hb2).tnew hR3 hb3
  have hk : ∃ F G, Hold w w3 w1.heap.size (pl12 w1.heap.size F G P R n (List.replicate n (1, 0)) (List.replicate n (1, 0)) (fun _ => []) (fun _ => []) none 0 0 []) := ⟨_, _, (((hk3.rnil 65 2).perm [2, 1, 0] (by decide) rfl))⟩
  clear hk0 hk3 hS2 hR3
  go_loopw [7, 8] (fun tl i wr => ∃ (k t ct : Nat) (A : Option Addr) (S : List Slo) (L : Nat → List UInt8) (hds : List Slo) (F G : Nat → Prop), i = .int .i64 k ∧ tl = .slice A t ct ∧ k ≤ m ∧ k ≤ 40 ∧ t ≤ k ∧ Hid (∀ s ∈ S, s.2 ≤ k) ∧ Hold w wr w1.heap.size (pl12 w1.heap.size F G P R n S S L L A t ct hds)) (fun _ i _ => m - (intOf i).toNat)
  case atStart => 
    obtain ⟨F, G, hk⟩ := hk
    exact ⟨0, 0, 0, none, _, _, [], F, G, rfl, rfl, Nat.zero_le _, Nat.zero_le _, Nat.le_refl _, (by intro s hs; rw [List.eq_of_mem_replicate hs]; decide : ∀ s ∈ List.replicate n ((1, 0) : Slo), s.2 ≤ 0), hk⟩
  case round =>
    clear hk hb1 hb2 hb3
    obtain ⟨k, t, ct, A, S, L, hds, F, G, rfl, rfl, hkm, hk40, htk, HS, hk⟩ := hrel
    by_cases hlt : k < m ∧ k < 40
    · obtain ⟨hl1, hl2⟩ := hlt
      obtain ⟨ad, K, x, sl, gn, sq, tm, ss, f, Y, yn, yc, yl, rfl, hA0⟩ := HAct.out k hl1
      have HA := Lib.hid hA0
      have hA1 := hA0.below hk.b
      have c0 := hA1.c0
      have c1 := hA1.k1
      have hbx := hA0.bx
      have hsome := some12_all (hk.get 2 rfl) (by omega) x hbx
      have hbig : ∀ s ∈ S, s.2 < 9223372036854775807 := fun s hs => by have := HS.out s hs; omega
      have Hbig := Lib.hid hbig
      have HP := Lib.hid hA0.bp
      clear hbig hA0 hA1
      have hcase : K = 0 ∨ K = 1 ∨ K = 2 ∨ K = 3 ∨ ((K == 0) = false ∧ (K == 1) = false ∧ (K == 2) = false ∧ (K == 3) = false) := by simp; omega
      go_upto_block 2 with (first
        | (go_at_call 48; (with_reducible refine hsome.mono ?_); rintro e w4 ⟨⟨i, g, rfl⟩, hb4⟩; have hk4 := hk.below hb4)
        | (refine wpList_store_blk rfl 65 (.tmp 9) (.tmp 39) rfl w4.heap.size _ #[.int .i64 i, .int .u32 g] _ rfl rfl (hdl_new w4 0 0) rfl (by kernel_rfl) (by simp [Value.oneCell']) ?_; intro w5 hi5 hg5; have hk5 := hk4.vnew hg5 hi5; have c0 := ((HA.out.below hk5.b).c0)))
      go_cut [7, 10, 11, 12] from 23 to 181 (fun s7 s10 s11 s12 wx => ∃ (e t' ct' : Nat) (A' : Option Addr) (S' : List Slo) (L' : Nat → List UInt8) (hds' : List Slo) (F' G' : Nat → Prop) (i' g' : Int), s7 = .slice A' t' ct' ∧ s10 = .int .i64 e ∧ s11 = .int .i64 e ∧ t' ≤ k + 1 ∧ Hid (∀ s ∈ S', s.2 ≤ k + 1) ∧ Hold w wx w1.heap.size (rVar w4.heap.size (.cells #[.int .i64 i', .int .u32 g'] 65 (0, 0)) :: pl12 w1.heap.size F' G' P R n S' S' L' L' A' t' ct' hds'))
      case first =>
        rcases hcase with rfl | rfl | rfl | rfl | ⟨k0, k1, k2, k3⟩
        · have hk6 := hk5.vnew0 #[.int .i64 0, .int .u32 0] 65
          have c8 := (HA.out.below hk6.b).k8
          go_wp2_with (first
            | (go_at_call 40; (with_reducible refine (sput_any (hk6.get 2 rfl) Y yn yc yl (HA.out.bt.below hk6.b) HA.out.nl (none_below6 HA.out.bt (fun k hk => (Sto.lt (hk6.get 2 rfl) k hk).1) hk6.hB)).mono ?_); rintro e w7 ⟨rfl, ⟨F7, hS7, hG7⟩, hW7⟩; have hk7 := hk6.sto 2 rfl hS7 hG7 hW7)
            | (refine wpList_store_blk rfl 65 (.tmp 12) (.tmp 76) rfl w5.heap.size _ #[.int .i64 (putSlot S yl), .int .u32 (putGen S yl)] _ rfl rfl (hk7.get 0 rfl) rfl (by kernel_rfl) (by simp [Value.oneCell']) ?_; intro w8 hi8 hg8; have hk8 := hk7.var 0 rfl hg8 hi8; have c8 := (HA.out.below hk8.b).k8)
            | (go_at_call 49; (with_reducible refine (rputS_any (hk8.get 3 rfl) Y yn yc yl (HA.out.bt.below hk8.b) (none_below6 HA.out.bt (fun k hk => (Rto.lt (hk8.get 3 rfl) k hk).1) hk8.hB)).mono ?_); rintro e w9 ⟨rfl, ⟨F9, hS9, hG9⟩, hW9⟩; have hk9 := hk8.rto 3 rfl hS9 hG9 hW9)
            | (refine wpList_store_blk rfl 65 (.tmp 9) (.tmp 86) rfl w4.heap.size _ #[.int .i64 (putSlot S yl), .int .u32 (putGen S yl)] _ rfl rfl (hk9.get 1 rfl) rfl (by kernel_rfl) (by simp [Value.oneCell']) ?_; intro w10 hi10 hg10; have hk10 := hk9.var 1 rfl hg10 hi10; obtain ⟨a0, a1⟩ := row2_cells (hk10.get 0 rfl); obtain ⟨b0, b1⟩ := row2_cells (hk10.get 1 rfl))
            | (at_builtin; refine wpList_app slH rfl _ _ rfl w1.heap.size A t ct (rowH hds) rfl ((hk10.alloc _).get 4 rfl) (some ⟨w10.heap.size, 0, none⟩) 1 1 (rowH [(putSlot S yl, putGen S yl)]) rfl rfl (lit_rd1 w10 _ _) (rowH_one _) (by omega) (hk10.alloc _).hs ?_; intro A1 c1 w11 ho11 hg11 hA11; rw [← rowH_append] at ho11; have hk11 := (hk10.alloc _).app 4 rfl ho11 hg11 hA11))
          have HS := Lib.hid (put_le HS.out yl)
          go_meet
          exact ⟨_, _, _, _, _, _, _, _, _, _, _, rfl, rfl, rfl, by omega, HS, hk11.tail⟩
        · go_wp2_with fail
          refine region_plan (calmB_sound _) (.fork [0, 1, 3] (.leaf [4, 2, 5, 6, 7]) (.leaf [2, 4, 5, 6, 7])) (by kernel_rfl) (by kernel_rfl) (by kernel_rfl) ?_
          have hk6 := hk5.drew
          obtain ⟨b0, b1⟩ := row2_cells (hk6.get 0 rfl)
          refine wpPlan_fork fun PL0 hPL0 => ?_
          simp only [List.filterMap_cons, List.filterMap_nil, List.getElem?_toArray, List.getElem?_cons_succ, List.getElem?_cons_zero]
          change wpList _ _ _ [_, _, _] _ _
          go_wp2_with (first | (go_at_call 43; (with_reducible refine (skeep_any (hk6.get 1 rfl) _ _ Hbig.out).mono ?_); rintro e wk ⟨rfl, hX, hW⟩; have hk6 := hk6.sto 1 rfl hX (Grw.refl _ _) hW; obtain ⟨b0, b1⟩ := row2_cells (hk6.get 0 rfl)) | (go_at_call 50; (with_reducible refine (Rto.keep (hk6.get 2 rfl) Hbig.out _ _).mono ?_); rintro e wk ⟨rfl, hX, hW⟩; have hk6 := hk6.rto 2 rfl hX (Grw.refl _ _) hW; obtain ⟨b0, b1⟩ := row2_cells (hk6.get 0 rfl)))
          refine hPL0 _ _ ?_ ?_
          · refine wpPlan_leaf fun PL1 hPL1 => ?_
            simp only [List.filterMap_cons, List.filterMap_nil, List.getElem?_toArray, List.getElem?_cons_succ, List.getElem?_cons_zero]
            change wpList _ _ _ [_, _, _, _, _] _ _
            go_wp2_with (first | (go_at_call 43; (with_reducible refine (skeep_any (hk6.get 1 rfl) _ _ Hbig.out).mono ?_); rintro e wk ⟨rfl, hX, hW⟩; have hk6 := hk6.sto 1 rfl hX (Grw.refl _ _) hW; obtain ⟨b0, b1⟩ := row2_cells (hk6.get 0 rfl)) | (go_at_call 50; (with_reducible refine (Rto.keep (hk6.get 2 rfl) Hbig.out _ _).mono ?_); rintro e wk ⟨rfl, hX, hW⟩; have hk6 := hk6.rto 2 rfl hX (Grw.refl _ _) hW; obtain ⟨b0, b1⟩ := row2_cells (hk6.get 0 rfl)))
            have HS := Lib.hid (keep_le HS.out i g)
            go_meet
            exact ⟨_, _, _, _, _, _, _, _, _, _, _, rfl, rfl, rfl, by omega, HS, hk6⟩
          · refine wpPlan_leaf fun PL1 hPL1 => ?_
            simp only [List.filterMap_cons, List.filterMap_nil, List.getElem?_toArray, List.getElem?_cons_succ, List.getElem?_cons_zero]
            change wpList _ _ _ [_, _, _, _, _] _ _
            go_wp2_with (first | (go_at_call 43; (with_reducible refine (skeep_any (hk6.get 1 rfl) _ _ Hbig.out).mono ?_); rintro e wk ⟨rfl, hX, hW⟩; have hk6 := hk6.sto 1 rfl hX (Grw.refl _ _) hW; obtain ⟨b0, b1⟩ := row2_cells (hk6.get 0 rfl)) | (go_at_call 50; (with_reducible refine (Rto.keep (hk6.get 2 rfl) Hbig.out _ _).mono ?_); rintro e wk ⟨rfl, hX, hW⟩; have hk6 := hk6.rto 2 rfl hX (Grw.refl _ _) hW; obtain ⟨b0, b1⟩ := row2_cells (hk6.get 0 rfl)))
            have HS := Lib.hid (keep_le HS.out i g)
            go_meet
            exact ⟨_, _, _, _, _, _, _, _, _, _, _, rfl, rfl, rfl, by omega, HS, hk6⟩
        · go_wp2_with fail
          refine region_plan (calmB_sound _) (.fork [0, 1, 3] (.leaf [4, 2, 5, 6, 7]) (.leaf [2, 4, 5, 6, 7])) (by kernel_rfl) (by kernel_rfl) (by kernel_rfl) ?_
          have hk6 := hk5.drew
          obtain ⟨b0, b1⟩ := row2_cells (hk6.get 0 rfl)
          refine wpPlan_fork fun PL0 hPL0 => ?_
          simp only [List.filterMap_cons, List.filterMap_nil, List.getElem?_toArray, List.getElem?_cons_succ, List.getElem?_cons_zero]
          change wpList _ _ _ [_, _, _] _ _
          go_wp2_with (first | (go_at_call 45; (with_reducible refine (sdrop_any (hk6.get 1 rfl) _ _ Hbig.out).mono ?_); rintro e wk ⟨rfl, hX, hW⟩; have hk6 := hk6.sto 1 rfl hX (Grw.refl _ _) hW; obtain ⟨b0, b1⟩ := row2_cells (hk6.get 0 rfl)) | (go_at_call 51; (with_reducible refine (Rto.drop (hk6.get 2 rfl) Hbig.out _ _).mono ?_); rintro e wk ⟨rfl, hX, hW⟩; have hk6 := hk6.rto 2 rfl hX (Grw.refl _ _) hW; obtain ⟨b0, b1⟩ := row2_cells (hk6.get 0 rfl)))
          refine hPL0 _ _ ?_ ?_
          · refine wpPlan_leaf fun PL1 hPL1 => ?_
            simp only [List.filterMap_cons, List.filterMap_nil, List.getElem?_toArray, List.getElem?_cons_succ, List.getElem?_cons_zero]
            change wpList _ _ _ [_, _, _, _, _] _ _
            go_wp2_with (first | (go_at_call 45; (with_reducible refine (sdrop_any (hk6.get 1 rfl) _ _ Hbig.out).mono ?_); rintro e wk ⟨rfl, hX, hW⟩; have hk6 := hk6.sto 1 rfl hX (Grw.refl _ _) hW; obtain ⟨b0, b1⟩ := row2_cells (hk6.get 0 rfl)) | (go_at_call 51; (with_reducible refine (Rto.drop (hk6.get 2 rfl) Hbig.out _ _).mono ?_); rintro e wk ⟨rfl, hX, hW⟩; have hk6 := hk6.rto 2 rfl hX (Grw.refl _ _) hW; obtain ⟨b0, b1⟩ := row2_cells (hk6.get 0 rfl)))
            have HS := Lib.hid (fun s hs => Nat.le_succ_of_le (drop_le HS.out i g s hs) : ∀ s ∈ dropS S i g, s.2 ≤ k + 1)
            go_meet
            exact ⟨_, _, _, _, _, _, _, _, _, _, _, rfl, rfl, rfl, by omega, HS, hk6⟩
          · refine wpPlan_leaf fun PL1 hPL1 => ?_
            simp only [List.filterMap_cons, List.filterMap_nil, List.getElem?_toArray, List.getElem?_cons_succ, List.getElem?_cons_zero]
            change wpList _ _ _ [_, _, _, _, _] _ _
            go_wp2_with (first | (go_at_call 45; (with_reducible refine (sdrop_any (hk6.get 1 rfl) _ _ Hbig.out).mono ?_); rintro e wk ⟨rfl, hX, hW⟩; have hk6 := hk6.sto 1 rfl hX (Grw.refl _ _) hW; obtain ⟨b0, b1⟩ := row2_cells (hk6.get 0 rfl)) | (go_at_call 51; (with_reducible refine (Rto.drop (hk6.get 2 rfl) Hbig.out _ _).mono ?_); rintro e wk ⟨rfl, hX, hW⟩; have hk6 := hk6.rto 2 rfl hX (Grw.refl _ _) hW; obtain ⟨b0, b1⟩ := row2_cells (hk6.get 0 rfl)))
            have HS := Lib.hid (fun s hs => Nat.le_succ_of_le (drop_le HS.out i g s hs) : ∀ s ∈ dropS S i g, s.2 ≤ k + 1)
            go_meet
            exact ⟨_, _, _, _, _, _, _, _, _, _, _, rfl, rfl, rfl, by omega, HS, hk6⟩
        · skip
          go_wp2_with fail
          refine region_plan (calmB_sound _) (.fork [0, 1, 2, 3, 4, 5, 6, 8, 10, 11, 12, 13] (.fork [9] (.leaf [14, 7, 15, 16, 17]) (.leaf [7, 14, 15, 16, 17])) (.fork [] (.fork [14] (.leaf [9, 7, 15, 16, 17]) (.leaf [7, 9, 15, 16, 17])) (.leaf [7, 9, 14, 15, 16, 17]))) (by kernel_rfl) (by kernel_rfl) (by kernel_rfl) ?_
          have hk6 := hk5.drew
          obtain ⟨b0, b1⟩ := row2_cells (hk6.get 0 rfl)
          have hA6 := HA.out.below hk6.b
          have c4 := hA6.k4
          have c5 := hA6.k5
          have c6 := hA6.k6
          have c7 := hA6.k7
          clear hA6
          refine wpPlan_fork fun PL0 hPL0 => ?_
          simp only [List.filterMap_cons, List.filterMap_nil, List.getElem?_toArray, List.getElem?_cons_succ, List.getElem?_cons_zero]
          change wpList _ _ _ [_, _, _, _, _, _, _, _, _, _, _, _] _ _
          go_wp2_with (first | (go_at_call 44; (with_reducible refine (spatch_any (hk6.get 1 rfl) _ _ sq tm ss f HP.out.1 HP.out.2.1 HP.out.2.2.1 HP.out.2.2.2).mono ?_); rintro e wk ⟨rfl, hX, hW⟩; have hk6 := hk6.sto 1 rfl hX (Grw.refl _ _) hW; obtain ⟨b0, b1⟩ := row2_cells (hk6.get 0 rfl); have hA6 := HA.out.below hk6.b; have c4 := hA6.k4; have c5 := hA6.k5; have c6 := hA6.k6; have c7 := hA6.k7; clear hA6) | (go_at_call 52; (with_reducible refine (rpatchS_any (hk6.get 2 rfl) _ _ sq tm ss f HP.out.1 HP.out.2.1 HP.out.2.2.1 HP.out.2.2.2).mono ?_); rintro e wk ⟨rfl, ⟨G6, hX, hG⟩, hW⟩; have hk6 := hk6.rto 2 rfl hX hG hW; obtain ⟨b0, b1⟩ := row2_cells (hk6.get 0 rfl); have hA6 := HA.out.below hk6.b; have c4 := hA6.k4; have c5 := hA6.k5; have c6 := hA6.k6; have c7 := hA6.k7; clear hA6))
          refine hPL0 _ _ ?_ ?_
          · refine wpPlan_fork fun PL1 hPL1 => ?_
            simp only [List.filterMap_cons, List.filterMap_nil, List.getElem?_toArray, List.getElem?_cons_succ, List.getElem?_cons_zero]
            change wpList _ _ _ [_] _ _
            go_wp2_with (first | (go_at_call 44; (with_reducible refine (spatch_any (hk6.get 1 rfl) _ _ sq tm ss f HP.out.1 HP.out.2.1 HP.out.2.2.1 HP.out.2.2.2).mono ?_); rintro e wk ⟨rfl, hX, hW⟩; have hk6 := hk6.sto 1 rfl hX (Grw.refl _ _) hW; obtain ⟨b0, b1⟩ := row2_cells (hk6.get 0 rfl); have hA6 := HA.out.below hk6.b; have c4 := hA6.k4; have c5 := hA6.k5; have c6 := hA6.k6; have c7 := hA6.k7; clear hA6) | (go_at_call 52; (with_reducible refine (rpatchS_any (hk6.get 2 rfl) _ _ sq tm ss f HP.out.1 HP.out.2.1 HP.out.2.2.1 HP.out.2.2.2).mono ?_); rintro e wk ⟨rfl, ⟨G6, hX, hG⟩, hW⟩; have hk6 := hk6.rto 2 rfl hX hG hW; obtain ⟨b0, b1⟩ := row2_cells (hk6.get 0 rfl); have hA6 := HA.out.below hk6.b; have c4 := hA6.k4; have c5 := hA6.k5; have c6 := hA6.k6; have c7 := hA6.k7; clear hA6))
            refine hPL1 _ _ ?_ ?_
            · refine wpPlan_leaf fun PL2 hPL2 => ?_
              simp only [List.filterMap_cons, List.filterMap_nil, List.getElem?_toArray, List.getElem?_cons_succ, List.getElem?_cons_zero]
              change wpList _ _ _ [_, _, _, _, _] _ _
              go_wp2_with (first | (go_at_call 44; (with_reducible refine (spatch_any (hk6.get 1 rfl) _ _ sq tm ss f HP.out.1 HP.out.2.1 HP.out.2.2.1 HP.out.2.2.2).mono ?_); rintro e wk ⟨rfl, hX, hW⟩; have hk6 := hk6.sto 1 rfl hX (Grw.refl _ _) hW; obtain ⟨b0, b1⟩ := row2_cells (hk6.get 0 rfl); have hA6 := HA.out.below hk6.b; have c4 := hA6.k4; have c5 := hA6.k5; have c6 := hA6.k6; have c7 := hA6.k7; clear hA6) | (go_at_call 52; (with_reducible refine (rpatchS_any (hk6.get 2 rfl) _ _ sq tm ss f HP.out.1 HP.out.2.1 HP.out.2.2.1 HP.out.2.2.2).mono ?_); rintro e wk ⟨rfl, ⟨G6, hX, hG⟩, hW⟩; have hk6 := hk6.rto 2 rfl hX hG hW; obtain ⟨b0, b1⟩ := row2_cells (hk6.get 0 rfl); have hA6 := HA.out.below hk6.b; have c4 := hA6.k4; have c5 := hA6.k5; have c6 := hA6.k6; have c7 := hA6.k7; clear hA6))
              have HS := Lib.hid (fun s hs => Nat.le_succ_of_le (HS.out s hs) : ∀ s ∈ S, s.2 ≤ k + 1)
              go_meet
              exact ⟨_, _, _, _, _, _, _, _, _, _, _, rfl, rfl, rfl, by omega, HS, hk6⟩
            · refine wpPlan_leaf fun PL2 hPL2 => ?_
              simp only [List.filterMap_cons, List.filterMap_nil, List.getElem?_toArray, List.getElem?_cons_succ, List.getElem?_cons_zero]
              change wpList _ _ _ [_, _, _, _, _] _ _
              go_wp2_with (first | (go_at_call 44; (with_reducible refine (spatch_any (hk6.get 1 rfl) _ _ sq tm ss f HP.out.1 HP.out.2.1 HP.out.2.2.1 HP.out.2.2.2).mono ?_); rintro e wk ⟨rfl, hX, hW⟩; have hk6 := hk6.sto 1 rfl hX (Grw.refl _ _) hW; obtain ⟨b0, b1⟩ := row2_cells (hk6.get 0 rfl); have hA6 := HA.out.below hk6.b; have c4 := hA6.k4; have c5 := hA6.k5; have c6 := hA6.k6; have c7 := hA6.k7; clear hA6) | (go_at_call 52; (with_reducible refine (rpatchS_any (hk6.get 2 rfl) _ _ sq tm ss f HP.out.1 HP.out.2.1 HP.out.2.2.1 HP.out.2.2.2).mono ?_); rintro e wk ⟨rfl, ⟨G6, hX, hG⟩, hW⟩; have hk6 := hk6.rto 2 rfl hX hG hW; obtain ⟨b0, b1⟩ := row2_cells (hk6.get 0 rfl); have hA6 := HA.out.below hk6.b; have c4 := hA6.k4; have c5 := hA6.k5; have c6 := hA6.k6; have c7 := hA6.k7; clear hA6))
              have HS := Lib.hid (fun s hs => Nat.le_succ_of_le (HS.out s hs) : ∀ s ∈ S, s.2 ≤ k + 1)
              go_meet
              exact ⟨_, _, _, _, _, _, _, _, _, _, _, rfl, rfl, rfl, by omega, HS, hk6⟩
          · refine wpPlan_fork fun PL1 hPL1 => ?_
            simp only [List.filterMap_cons, List.filterMap_nil, List.getElem?_toArray, List.getElem?_cons_succ, List.getElem?_cons_zero]
            go_wp2_with (first | (go_at_call 44; (with_reducible refine (spatch_any (hk6.get 1 rfl) _ _ sq tm ss f HP.out.1 HP.out.2.1 HP.out.2.2.1 HP.out.2.2.2).mono ?_); rintro e wk ⟨rfl, hX, hW⟩; have hk6 := hk6.sto 1 rfl hX (Grw.refl _ _) hW; obtain ⟨b0, b1⟩ := row2_cells (hk6.get 0 rfl); have hA6 := HA.out.below hk6.b; have c4 := hA6.k4; have c5 := hA6.k5; have c6 := hA6.k6; have c7 := hA6.k7; clear hA6) | (go_at_call 52; (with_reducible refine (rpatchS_any (hk6.get 2 rfl) _ _ sq tm ss f HP.out.1 HP.out.2.1 HP.out.2.2.1 HP.out.2.2.2).mono ?_); rintro e wk ⟨rfl, ⟨G6, hX, hG⟩, hW⟩; have hk6 := hk6.rto 2 rfl hX hG hW; obtain ⟨b0, b1⟩ := row2_cells (hk6.get 0 rfl); have hA6 := HA.out.below hk6.b; have c4 := hA6.k4; have c5 := hA6.k5; have c6 := hA6.k6; have c7 := hA6.k7; clear hA6))
            refine hPL1 _ _ ?_ ?_
            · refine wpPlan_fork fun PL2 hPL2 => ?_
              simp only [List.filterMap_cons, List.filterMap_nil, List.getElem?_toArray, List.getElem?_cons_succ, List.getElem?_cons_zero]
              change wpList _ _ _ [_] _ _
              go_wp2_with (first | (go_at_call 44; (with_reducible refine (spatch_any (hk6.get 1 rfl) _ _ sq tm ss f HP.out.1 HP.out.2.1 HP.out.2.2.1 HP.out.2.2.2).mono ?_); rintro e wk ⟨rfl, hX, hW⟩; have hk6 := hk6.sto 1 rfl hX (Grw.refl _ _) hW; obtain ⟨b0, b1⟩ := row2_cells (hk6.get 0 rfl); have hA6 := HA.out.below hk6.b; have c4 := hA6.k4; have c5 := hA6.k5; have c6 := hA6.k6; have c7 := hA6.k7; clear hA6) | (go_at_call 52; (with_reducible refine (rpatchS_any (hk6.get 2 rfl) _ _ sq tm ss f HP.out.1 HP.out.2.1 HP.out.2.2.1 HP.out.2.2.2).mono ?_); rintro e wk ⟨rfl, ⟨G6, hX, hG⟩, hW⟩; have hk6 := hk6.rto 2 rfl hX hG hW; obtain ⟨b0, b1⟩ := row2_cells (hk6.get 0 rfl); have hA6 := HA.out.below hk6.b; have c4 := hA6.k4; have c5 := hA6.k5; have c6 := hA6.k6; have c7 := hA6.k7; clear hA6))
              refine hPL2 _ _ ?_ ?_
              · refine wpPlan_leaf fun PL3 hPL3 => ?_
                simp only [List.filterMap_cons, List.filterMap_nil, List.getElem?_toArray, List.getElem?_cons_succ, List.getElem?_cons_zero]
                change wpList _ _ _ [_, _, _, _, _] _ _
                go_wp2_with (first | (go_at_call 44; (with_reducible refine (spatch_any (hk6.get 1 rfl) _ _ sq tm ss f HP.out.1 HP.out.2.1 HP.out.2.2.1 HP.out.2.2.2).mono ?_); rintro e wk ⟨rfl, hX, hW⟩; have hk6 := hk6.sto 1 rfl hX (Grw.refl _ _) hW; obtain ⟨b0, b1⟩ := row2_cells (hk6.get 0 rfl); have hA6 := HA.out.below hk6.b; have c4 := hA6.k4; have c5 := hA6.k5; have c6 := hA6.k6; have c7 := hA6.k7; clear hA6) | (go_at_call 52; (with_reducible refine (rpatchS_any (hk6.get 2 rfl) _ _ sq tm ss f HP.out.1 HP.out.2.1 HP.out.2.2.1 HP.out.2.2.2).mono ?_); rintro e wk ⟨rfl, ⟨G6, hX, hG⟩, hW⟩; have hk6 := hk6.rto 2 rfl hX hG hW; obtain ⟨b0, b1⟩ := row2_cells (hk6.get 0 rfl); have hA6 := HA.out.below hk6.b; have c4 := hA6.k4; have c5 := hA6.k5; have c6 := hA6.k6; have c7 := hA6.k7; clear hA6))
                have HS := Lib.hid (fun s hs => Nat.le_succ_of_le (HS.out s hs) : ∀ s ∈ S, s.2 ≤ k + 1)
                go_meet
                exact ⟨_, _, _, _, _, _, _, _, _, _, _, rfl, rfl, rfl, by omega, HS, hk6⟩
              · refine wpPlan_leaf fun PL3 hPL3 => ?_
                simp only [List.filterMap_cons, List.filterMap_nil, List.getElem?_toArray, List.getElem?_cons_succ, List.getElem?_cons_zero]
                change wpList _ _ _ [_, _, _, _, _] _ _
                go_wp2_with (first | (go_at_call 44; (with_reducible refine (spatch_any (hk6.get 1 rfl) _ _ sq tm ss f HP.out.1 HP.out.2.1 HP.out.2.2.1 HP.out.2.2.2).mono ?_); rintro e wk ⟨rfl, hX, hW⟩; have hk6 := hk6.sto 1 rfl hX (Grw.refl _ _) hW; obtain ⟨b0, b1⟩ := row2_cells (hk6.get 0 rfl); have hA6 := HA.out.below hk6.b; have c4 := hA6.k4; have c5 := hA6.k5; have c6 := hA6.k6; have c7 := hA6.k7; clear hA6) | (go_at_call 52; (with_reducible refine (rpatchS_any (hk6.get 2 rfl) _ _ sq tm ss f HP.out.1 HP.out.2.1 HP.out.2.2.1 HP.out.2.2.2).mono ?_); rintro e wk ⟨rfl, ⟨G6, hX, hG⟩, hW⟩; have hk6 := hk6.rto 2 rfl hX hG hW; obtain ⟨b0, b1⟩ := row2_cells (hk6.get 0 rfl); have hA6 := HA.out.below hk6.b; have c4 := hA6.k4; have c5 := hA6.k5; have c6 := hA6.k6; have c7 := hA6.k7; clear hA6))
                have HS := Lib.hid (fun s hs => Nat.le_succ_of_le (HS.out s hs) : ∀ s ∈ S, s.2 ≤ k + 1)
                go_meet
                exact ⟨_, _, _, _, _, _, _, _, _, _, _, rfl, rfl, rfl, by omega, HS, hk6⟩
            · refine wpPlan_leaf fun PL2 hPL2 => ?_
              simp only [List.filterMap_cons, List.filterMap_nil, List.getElem?_toArray, List.getElem?_cons_succ, List.getElem?_cons_zero]
              change wpList _ _ _ [_, _, _, _, _, _] _ _
              go_wp2_with (first | (go_at_call 44; (with_reducible refine (spatch_any (hk6.get 1 rfl) _ _ sq tm ss f HP.out.1 HP.out.2.1 HP.out.2.2.1 HP.out.2.2.2).mono ?_); rintro e wk ⟨rfl, hX, hW⟩; have hk6 := hk6.sto 1 rfl hX (Grw.refl _ _) hW; obtain ⟨b0, b1⟩ := row2_cells (hk6.get 0 rfl); have hA6 := HA.out.below hk6.b; have c4 := hA6.k4; have c5 := hA6.k5; have c6 := hA6.k6; have c7 := hA6.k7; clear hA6) | (go_at_call 52; (with_reducible refine (rpatchS_any (hk6.get 2 rfl) _ _ sq tm ss f HP.out.1 HP.out.2.1 HP.out.2.2.1 HP.out.2.2.2).mono ?_); rintro e wk ⟨rfl, ⟨G6, hX, hG⟩, hW⟩; have hk6 := hk6.rto 2 rfl hX hG hW; obtain ⟨b0, b1⟩ := row2_cells (hk6.get 0 rfl); have hA6 := HA.out.below hk6.b; have c4 := hA6.k4; have c5 := hA6.k5; have c6 := hA6.k6; have c7 := hA6.k7; clear hA6))
              have HS := Lib.hid (fun s hs => Nat.le_succ_of_le (HS.out s hs) : ∀ s ∈ S, s.2 ≤ k + 1)
              go_meet
              exact ⟨_, _, _, _, _, _, _, _, _, _, _, rfl, rfl, rfl, by omega, HS, hk6⟩
        · have hA5 := HA.out.below hk5.b
          have c2 := hA5.k2
          have c3 := hA5.k3
          have hkv := hk5
          go_upto_region 12 with (refine wpList_store_blk rfl 65 (.tmp 9) (.tmp 49) rfl w4.heap.size _ #[.int .i64 sl, .int .u32 gn] _ rfl rfl (hkv.get 0 rfl) rfl (by kernel_rfl) (by simp [Value.oneCell']) ?_; intro w6 hi6 hg6; have hk5 := hkv.var 0 rfl hg6 hi6)
          go_wp2_with fail
          refine region_plan (calmB_sound _) (.fork [0, 1, 2, 3, 4, 5, 6, 8, 10, 11, 12, 13] (.fork [9] (.leaf [14, 7, 15, 16, 17]) (.leaf [7, 14, 15, 16, 17])) (.fork [] (.fork [14] (.leaf [9, 7, 15, 16, 17]) (.leaf [7, 9, 15, 16, 17])) (.leaf [7, 9, 14, 15, 16, 17]))) (by kernel_rfl) (by kernel_rfl) (by kernel_rfl) ?_
          have hk6 := hk5.drew
          obtain ⟨b0, b1⟩ := row2_cells (hk6.get 0 rfl)
          have hA6 := HA.out.below hk6.b
          have c4 := hA6.k4
          have c5 := hA6.k5
          have c6 := hA6.k6
          have c7 := hA6.k7
          clear hA6
          refine wpPlan_fork fun PL0 hPL0 => ?_
          simp only [List.filterMap_cons, List.filterMap_nil, List.getElem?_toArray, List.getElem?_cons_succ, List.getElem?_cons_zero]
          change wpList _ _ _ [_, _, _, _, _, _, _, _, _, _, _, _] _ _
          go_wp2_with (first | (go_at_call 44; (with_reducible refine (spatch_any (hk6.get 1 rfl) _ _ sq tm ss f HP.out.1 HP.out.2.1 HP.out.2.2.1 HP.out.2.2.2).mono ?_); rintro e wk ⟨rfl, hX, hW⟩; have hk6 := hk6.sto 1 rfl hX (Grw.refl _ _) hW; obtain ⟨b0, b1⟩ := row2_cells (hk6.get 0 rfl); have hA6 := HA.out.below hk6.b; have c4 := hA6.k4; have c5 := hA6.k5; have c6 := hA6.k6; have c7 := hA6.k7; clear hA6) | (go_at_call 52; (with_reducible refine (rpatchS_any (hk6.get 2 rfl) _ _ sq tm ss f HP.out.1 HP.out.2.1 HP.out.2.2.1 HP.out.2.2.2).mono ?_); rintro e wk ⟨rfl, ⟨G6, hX, hG⟩, hW⟩; have hk6 := hk6.rto 2 rfl hX hG hW; obtain ⟨b0, b1⟩ := row2_cells (hk6.get 0 rfl); have hA6 := HA.out.below hk6.b; have c4 := hA6.k4; have c5 := hA6.k5; have c6 := hA6.k6; have c7 := hA6.k7; clear hA6))
          refine hPL0 _ _ ?_ ?_
          · refine wpPlan_fork fun PL1 hPL1 => ?_
            simp only [List.filterMap_cons, List.filterMap_nil, List.getElem?_toArray, List.getElem?_cons_succ, List.getElem?_cons_zero]
            change wpList _ _ _ [_] _ _
            go_wp2_with (first | (go_at_call 44; (with_reducible refine (spatch_any (hk6.get 1 rfl) _ _ sq tm ss f HP.out.1 HP.out.2.1 HP.out.2.2.1 HP.out.2.2.2).mono ?_); rintro e wk ⟨rfl, hX, hW⟩; have hk6 := hk6.sto 1 rfl hX (Grw.refl _ _) hW; obtain ⟨b0, b1⟩ := row2_cells (hk6.get 0 rfl); have hA6 := HA.out.below hk6.b; have c4 := hA6.k4; have c5 := hA6.k5; have c6 := hA6.k6; have c7 := hA6.k7; clear hA6) | (go_at_call 52; (with_reducible refine (rpatchS_any (hk6.get 2 rfl) _ _ sq tm ss f HP.out.1 HP.out.2.1 HP.out.2.2.1 HP.out.2.2.2).mono ?_); rintro e wk ⟨rfl, ⟨G6, hX, hG⟩, hW⟩; have hk6 := hk6.rto 2 rfl hX hG hW; obtain ⟨b0, b1⟩ := row2_cells (hk6.get 0 rfl); have hA6 := HA.out.below hk6.b; have c4 := hA6.k4; have c5 := hA6.k5; have c6 := hA6.k6; have c7 := hA6.k7; clear hA6))
            refine hPL1 _ _ ?_ ?_
            · refine wpPlan_leaf fun PL2 hPL2 => ?_
              simp only [List.filterMap_cons, List.filterMap_nil, List.getElem?_toArray, List.getElem?_cons_succ, List.getElem?_cons_zero]
              change wpList _ _ _ [_, _, _, _, _] _ _
              go_wp2_with (first | (go_at_call 44; (with_reducible refine (spatch_any (hk6.get 1 rfl) _ _ sq tm ss f HP.out.1 HP.out.2.1 HP.out.2.2.1 HP.out.2.2.2).mono ?_); rintro e wk ⟨rfl, hX, hW⟩; have hk6 := hk6.sto 1 rfl hX (Grw.refl _ _) hW; obtain ⟨b0, b1⟩ := row2_cells (hk6.get 0 rfl); have hA6 := HA.out.below hk6.b; have c4 := hA6.k4; have c5 := hA6.k5; have c6 := hA6.k6; have c7 := hA6.k7; clear hA6) | (go_at_call 52; (with_reducible refine (rpatchS_any (hk6.get 2 rfl) _ _ sq tm ss f HP.out.1 HP.out.2.1 HP.out.2.2.1 HP.out.2.2.2).mono ?_); rintro e wk ⟨rfl, ⟨G6, hX, hG⟩, hW⟩; have hk6 := hk6.rto 2 rfl hX hG hW; obtain ⟨b0, b1⟩ := row2_cells (hk6.get 0 rfl); have hA6 := HA.out.below hk6.b; have c4 := hA6.k4; have c5 := hA6.k5; have c6 := hA6.k6; have c7 := hA6.k7; clear hA6))
              have HS := Lib.hid (fun s hs => Nat.le_succ_of_le (HS.out s hs) : ∀ s ∈ S, s.2 ≤ k + 1)
              go_meet
              exact ⟨_, _, _, _, _, _, _, _, _, _, _, rfl, rfl, rfl, by omega, HS, hk6⟩
            · refine wpPlan_leaf fun PL2 hPL2 => ?_
              simp only [List.filterMap_cons, List.filterMap_nil, List.getElem?_toArray, List.getElem?_cons_succ, List.getElem?_cons_zero]
              change wpList _ _ _ [_, _, _, _, _] _ _
              go_wp2_with (first | (go_at_call 44; (with_reducible refine (spatch_any (hk6.get 1 rfl) _ _ sq tm ss f HP.out.1 HP.out.2.1 HP.out.2.2.1 HP.out.2.2.2).mono ?_); rintro e wk ⟨rfl, hX, hW⟩; have hk6 := hk6.sto 1 rfl hX (Grw.refl _ _) hW; obtain ⟨b0, b1⟩ := row2_cells (hk6.get 0 rfl); have hA6 := HA.out.below hk6.b; have c4 := hA6.k4; have c5 := hA6.k5; have c6 := hA6.k6; have c7 := hA6.k7; clear hA6) | (go_at_call 52; (with_reducible refine (rpatchS_any (hk6.get 2 rfl) _ _ sq tm ss f HP.out.1 HP.out.2.1 HP.out.2.2.1 HP.out.2.2.2).mono ?_); rintro e wk ⟨rfl, ⟨G6, hX, hG⟩, hW⟩; have hk6 := hk6.rto 2 rfl hX hG hW; obtain ⟨b0, b1⟩ := row2_cells (hk6.get 0 rfl); have hA6 := HA.out.below hk6.b; have c4 := hA6.k4; have c5 := hA6.k5; have c6 := hA6.k6; have c7 := hA6.k7; clear hA6))
              have HS := Lib.hid (fun s hs => Nat.le_succ_of_le (HS.out s hs) : ∀ s ∈ S, s.2 ≤ k + 1)
              go_meet
              exact ⟨_, _, _, _, _, _, _, _, _, _, _, rfl, rfl, rfl, by omega, HS, hk6⟩
          · refine wpPlan_fork fun PL1 hPL1 => ?_
            simp only [List.filterMap_cons, List.filterMap_nil, List.getElem?_toArray, List.getElem?_cons_succ, List.getElem?_cons_zero]
            go_wp2_with (first | (go_at_call 44; (with_reducible refine (spatch_any (hk6.get 1 rfl) _ _ sq tm ss f HP.out.1 HP.out.2.1 HP.out.2.2.1 HP.out.2.2.2).mono ?_); rintro e wk ⟨rfl, hX, hW⟩; have hk6 := hk6.sto 1 rfl hX (Grw.refl _ _) hW; obtain ⟨b0, b1⟩ := row2_cells (hk6.get 0 rfl); have hA6 := HA.out.below hk6.b; have c4 := hA6.k4; have c5 := hA6.k5; have c6 := hA6.k6; have c7 := hA6.k7; clear hA6) | (go_at_call 52; (with_reducible refine (rpatchS_any (hk6.get 2 rfl) _ _ sq tm ss f HP.out.1 HP.out.2.1 HP.out.2.2.1 HP.out.2.2.2).mono ?_); rintro e wk ⟨rfl, ⟨G6, hX, hG⟩, hW⟩; have hk6 := hk6.rto 2 rfl hX hG hW; obtain ⟨b0, b1⟩ := row2_cells (hk6.get 0 rfl); have hA6 := HA.out.below hk6.b; have c4 := hA6.k4; have c5 := hA6.k5; have c6 := hA6.k6; have c7 := hA6.k7; clear hA6))
            refine hPL1 _ _ ?_ ?_
            · refine wpPlan_fork fun PL2 hPL2 => ?_
              simp only [List.filterMap_cons, List.filterMap_nil, List.getElem?_toArray, List.getElem?_cons_succ, List.getElem?_cons_zero]
              change wpList _ _ _ [_] _ _
              go_wp2_with (first | (go_at_call 44; (with_reducible refine (spatch_any (hk6.get 1 rfl) _ _ sq tm ss f HP.out.1 HP.out.2.1 HP.out.2.2.1 HP.out.2.2.2).mono ?_); rintro e wk ⟨rfl, hX, hW⟩; have hk6 := hk6.sto 1 rfl hX (Grw.refl _ _) hW; obtain ⟨b0, b1⟩ := row2_cells (hk6.get 0 rfl); have hA6 := HA.out.below hk6.b; have c4 := hA6.k4; have c5 := hA6.k5; have c6 := hA6.k6; have c7 := hA6.k7; clear hA6) | (go_at_call 52; (with_reducible refine (rpatchS_any (hk6.get 2 rfl) _ _ sq tm ss f HP.out.1 HP.out.2.1 HP.out.2.2.1 HP.out.2.2.2).mono ?_); rintro e wk ⟨rfl, ⟨G6, hX, hG⟩, hW⟩; have hk6 := hk6.rto 2 rfl hX hG hW; obtain ⟨b0, b1⟩ := row2_cells (hk6.get 0 rfl); have hA6 := HA.out.below hk6.b; have c4 := hA6.k4; have c5 := hA6.k5; have c6 := hA6.k6; have c7 := hA6.k7; clear hA6))
              refine hPL2 _ _ ?_ ?_
              · refine wpPlan_leaf fun PL3 hPL3 => ?_
                simp only [List.filterMap_cons, List.filterMap_nil, List.getElem?_toArray, List.getElem?_cons_succ, List.getElem?_cons_zero]
                change wpList _ _ _ [_, _, _, _, _] _ _
                go_wp2_with (first | (go_at_call 44; (with_reducible refine (spatch_any (hk6.get 1 rfl) _ _ sq tm ss f HP.out.1 HP.out.2.1 HP.out.2.2.1 HP.out.2.2.2).mono ?_); rintro e wk ⟨rfl, hX, hW⟩; have hk6 := hk6.sto 1 rfl hX (Grw.refl _ _) hW; obtain ⟨b0, b1⟩ := row2_cells (hk6.get 0 rfl); have hA6 := HA.out.below hk6.b; have c4 := hA6.k4; have c5 := hA6.k5; have c6 := hA6.k6; have c7 := hA6.k7; clear hA6) | (go_at_call 52; (with_reducible refine (rpatchS_any (hk6.get 2 rfl) _ _ sq tm ss f HP.out.1 HP.out.2.1 HP.out.2.2.1 HP.out.2.2.2).mono ?_); rintro e wk ⟨rfl, ⟨G6, hX, hG⟩, hW⟩; have hk6 := hk6.rto 2 rfl hX hG hW; obtain ⟨b0, b1⟩ := row2_cells (hk6.get 0 rfl); have hA6 := HA.out.below hk6.b; have c4 := hA6.k4; have c5 := hA6.k5; have c6 := hA6.k6; have c7 := hA6.k7; clear hA6))
                have HS := Lib.hid (fun s hs => Nat.le_succ_of_le (HS.out s hs) : ∀ s ∈ S, s.2 ≤ k + 1)
                go_meet
                exact ⟨_, _, _, _, _, _, _, _, _, _, _, rfl, rfl, rfl, by omega, HS, hk6⟩
              · refine wpPlan_leaf fun PL3 hPL3 => ?_
                simp only [List.filterMap_cons, List.filterMap_nil, List.getElem?_toArray, List.getElem?_cons_succ, List.getElem?_cons_zero]
                change wpList _ _ _ [_, _, _, _, _] _ _
                go_wp2_with (first | (go_at_call 44; (with_reducible refine (spatch_any (hk6.get 1 rfl) _ _ sq tm ss f HP.out.1 HP.out.2.1 HP.out.2.2.1 HP.out.2.2.2).mono ?_); rintro e wk ⟨rfl, hX, hW⟩; have hk6 := hk6.sto 1 rfl hX (Grw.refl _ _) hW; obtain ⟨b0, b1⟩ := row2_cells (hk6.get 0 rfl); have hA6 := HA.out.below hk6.b; have c4 := hA6.k4; have c5 := hA6.k5; have c6 := hA6.k6; have c7 := hA6.k7; clear hA6) | (go_at_call 52; (with_reducible refine (rpatchS_any (hk6.get 2 rfl) _ _ sq tm ss f HP.out.1 HP.out.2.1 HP.out.2.2.1 HP.out.2.2.2).mono ?_); rintro e wk ⟨rfl, ⟨G6, hX, hG⟩, hW⟩; have hk6 := hk6.rto 2 rfl hX hG hW; obtain ⟨b0, b1⟩ := row2_cells (hk6.get 0 rfl); have hA6 := HA.out.below hk6.b; have c4 := hA6.k4; have c5 := hA6.k5; have c6 := hA6.k6; have c7 := hA6.k7; clear hA6))
                have HS := Lib.hid (fun s hs => Nat.le_succ_of_le (HS.out s hs) : ∀ s ∈ S, s.2 ≤ k + 1)
                go_meet
                exact ⟨_, _, _, _, _, _, _, _, _, _, _, rfl, rfl, rfl, by omega, HS, hk6⟩
            · refine wpPlan_leaf fun PL2 hPL2 => ?_
              simp only [List.filterMap_cons, List.filterMap_nil, List.getElem?_toArray, List.getElem?_cons_succ, List.getElem?_cons_zero]
              change wpList _ _ _ [_, _, _, _, _, _] _ _
              go_wp2_with (first | (go_at_call 44; (with_reducible refine (spatch_any (hk6.get 1 rfl) _ _ sq tm ss f HP.out.1 HP.out.2.1 HP.out.2.2.1 HP.out.2.2.2).mono ?_); rintro e wk ⟨rfl, hX, hW⟩; have hk6 := hk6.sto 1 rfl hX (Grw.refl _ _) hW; obtain ⟨b0, b1⟩ := row2_cells (hk6.get 0 rfl); have hA6 := HA.out.below hk6.b; have c4 := hA6.k4; have c5 := hA6.k5; have c6 := hA6.k6; have c7 := hA6.k7; clear hA6) | (go_at_call 52; (with_reducible refine (rpatchS_any (hk6.get 2 rfl) _ _ sq tm ss f HP.out.1 HP.out.2.1 HP.out.2.2.1 HP.out.2.2.2).mono ?_); rintro e wk ⟨rfl, ⟨G6, hX, hG⟩, hW⟩; have hk6 := hk6.rto 2 rfl hX hG hW; obtain ⟨b0, b1⟩ := row2_cells (hk6.get 0 rfl); have hA6 := HA.out.below hk6.b; have c4 := hA6.k4; have c5 := hA6.k5; have c6 := hA6.k6; have c7 := hA6.k7; clear hA6))
              have HS := Lib.hid (fun s hs => Nat.le_succ_of_le (HS.out s hs) : ∀ s ∈ S, s.2 ≤ k + 1)
              go_meet
              exact ⟨_, _, _, _, _, _, _, _, _, _, _, rfl, rfl, rfl, by omega, HS, hk6⟩
      case rest => as_aux_lemma =>
        obtain ⟨e, t', ct', A', S', L', hds', F', G', i', g', rfl, rfl, rfl, ht', HS, hk⟩ := hcut
        clear Hbig hcase c0 c1 hsome HA HP hk4 hk5 hi5 hg5 hb4
        obtain ⟨q, c, gg, dd, V, hk⟩ := hk.open_ 2 rfl
        obtain ⟨b0, b1⟩ := row2_cells (hk.get 0 rfl)
        go_wp2_with (first
          | (go_at_call 42; (with_reducible refine (sbytes_any (hk.get 1 rfl) _ _).mono ?_); rintro e w6 ⟨A6, n6, c6, rfl, ho6, hb6⟩; have hk6 := hk.rnew ho6 hb6; obtain ⟨b0, b1⟩ := row2_cells (hk6.get 1 rfl))
          | (go_at_call 53; (with_reducible refine (rbytesS_any (Core.rto (hk6.get 3 rfl)) _ _).mono ?_); rintro e w7 ⟨A7, n7, c7, rfl, ho7, hb7⟩; have hk7 := hk6.rnew ho7 hb7))
        refine region_plan (calmB_sound _) (.fork [0, 1, 2, 3, 4, 5, 6, 7, 8, 9, 10, 11, 12, 13, 14, 15, 16, 17, 19] (.fork [20, 18, 21, 22, 23, 24, 25, 27, 26, 28, 29, 30, 31, 32, 34] (.fork [35, 36] (.leaf [37, 33, 38, 39, 40]) (.leaf [33, 37, 38, 39, 40])) (.leaf [33, 35, 36, 37, 38, 39, 40])) (.fork [18, 20, 21, 22, 23, 24, 25, 27, 26, 28, 29, 30, 31, 32, 34] (.fork [35, 36] (.leaf [37, 33, 38, 39, 40]) (.leaf [33, 37, 38, 39, 40])) (.leaf [33, 35, 36, 37, 38, 39, 40]))) (by kernel_rfl) (by kernel_rfl) (by kernel_rfl) ?_
        have hk8 := hk7.drew
        generalize w7.drew = w8 at *
        obtain ⟨b0, b1⟩ := row2_cells (hk8.get 2 rfl)
        have l0 := (Core.ar (hk8.get 4 rfl)).at_
        have hcb := cv_own (hk8.get 1 rfl)
        have hcc := cv_own (hk8.get 0 rfl)
        refine wpPlan_fork fun PL0 hPL0 => ?_
        simp only [List.filterMap_cons, List.filterMap_nil, List.getElem?_toArray, List.getElem?_cons_succ, List.getElem?_cons_zero]
        change wpList _ _ _ [_, _, _, _, _, _, _, _, _, _, _, _, _, _, _, _, _, _, _] _ _
        go_wp2_with (first | (go_at_call 46; (with_reducible refine (srefs_any (hk8.get 3 rfl) _ _).mono ?_); rintro e wb ⟨rfl, hX⟩; have hk8 := hk8.below hX; obtain ⟨b0, b1⟩ := row2_cells (hk8.get 2 rfl); have l0 := (Core.ar (hk8.get 4 rfl)).at_; have hcb := cv_own (hk8.get 1 rfl); have hcc := cv_own (hk8.get 0 rfl)) | (go_at_call 54; (with_reducible refine (Rto.refs (Core.rto (hk8.get 4 rfl)) _ _).mono ?_); rintro e wb ⟨rfl, hX⟩; have hk8 := hk8.below hX; obtain ⟨b0, b1⟩ := row2_cells (hk8.get 2 rfl); have l0 := (Core.ar (hk8.get 4 rfl)).at_; have hcb := cv_own (hk8.get 1 rfl); have hcc := cv_own (hk8.get 0 rfl)) | (go_at_call 41; (with_reducible refine (sfree_any (hk8.get 3 rfl)).mono ?_); rintro e wb ⟨rfl, hX⟩; have hk8 := hk8.below hX; obtain ⟨b0, b1⟩ := row2_cells (hk8.get 2 rfl); have l0 := (Core.ar (hk8.get 4 rfl)).at_; have hcb := cv_own (hk8.get 1 rfl); have hcc := cv_own (hk8.get 0 rfl)) | (go_at_call 55; (with_reducible refine (Rto.free (Core.rto (hk8.get 4 rfl))).mono ?_); rintro e wb ⟨rfl, hX⟩; have hk8 := hk8.below hX; obtain ⟨b0, b1⟩ := row2_cells (hk8.get 2 rfl); have l0 := (Core.ar (hk8.get 4 rfl)).at_; have hcb := cv_own (hk8.get 1 rfl); have hcc := cv_own (hk8.get 0 rfl)) | (go_at_call 57; (with_reducible refine (sslots_any (hk8.get 3 rfl)).mono ?_); rintro e wb ⟨g9, c9, rfl, ho9, hX⟩; have hk8 := hk8.below hX; obtain ⟨b0, b1⟩ := row2_cells (hk8.get 2 rfl); have l0 := (Core.ar (hk8.get 4 rfl)).at_; have hcb := cv_own (hk8.get 1 rfl); have hcc := cv_own (hk8.get 0 rfl)) | (go_at_call 56; (with_reducible refine (same_any g9 q n c9 c _ _ (Core.ar (hk8.get 4 rfl)).len (Core.ar (hk8.get 4 rfl)).top (rd_row ho9) (rd_row (Core.ar (hk8.get 4 rfl)).own)).mono ?_); rintro e wz ⟨rfl, hX⟩; have hk8 := hk8.below hX; obtain ⟨b0, b1⟩ := row2_cells (hk8.get 2 rfl); have l0 := (Core.ar (hk8.get 4 rfl)).at_; have hcb := cv_own (hk8.get 1 rfl); have hcc := cv_own (hk8.get 0 rfl)))
        refine hPL0 _ _ ?_ ?_
        · refine wpPlan_fork fun PL1 hPL1 => ?_
          simp only [List.filterMap_cons, List.filterMap_nil, List.getElem?_toArray, List.getElem?_cons_succ, List.getElem?_cons_zero]
          change wpList _ _ _ [_, _, _, _, _, _, _, _, _, _, _, _, _, _, _] _ _
          go_wp2_with (first | (go_at_call 46; (with_reducible refine (srefs_any (hk8.get 3 rfl) _ _).mono ?_); rintro e wb ⟨rfl, hX⟩; have hk8 := hk8.below hX; obtain ⟨b0, b1⟩ := row2_cells (hk8.get 2 rfl); have l0 := (Core.ar (hk8.get 4 rfl)).at_; have hcb := cv_own (hk8.get 1 rfl); have hcc := cv_own (hk8.get 0 rfl)) | (go_at_call 54; (with_reducible refine (Rto.refs (Core.rto (hk8.get 4 rfl)) _ _).mono ?_); rintro e wb ⟨rfl, hX⟩; have hk8 := hk8.below hX; obtain ⟨b0, b1⟩ := row2_cells (hk8.get 2 rfl); have l0 := (Core.ar (hk8.get 4 rfl)).at_; have hcb := cv_own (hk8.get 1 rfl); have hcc := cv_own (hk8.get 0 rfl)) | (go_at_call 41; (with_reducible refine (sfree_any (hk8.get 3 rfl)).mono ?_); rintro e wb ⟨rfl, hX⟩; have hk8 := hk8.below hX; obtain ⟨b0, b1⟩ := row2_cells (hk8.get 2 rfl); have l0 := (Core.ar (hk8.get 4 rfl)).at_; have hcb := cv_own (hk8.get 1 rfl); have hcc := cv_own (hk8.get 0 rfl)) | (go_at_call 55; (with_reducible refine (Rto.free (Core.rto (hk8.get 4 rfl))).mono ?_); rintro e wb ⟨rfl, hX⟩; have hk8 := hk8.below hX; obtain ⟨b0, b1⟩ := row2_cells (hk8.get 2 rfl); have l0 := (Core.ar (hk8.get 4 rfl)).at_; have hcb := cv_own (hk8.get 1 rfl); have hcc := cv_own (hk8.get 0 rfl)) | (go_at_call 57; (with_reducible refine (sslots_any (hk8.get 3 rfl)).mono ?_); rintro e wb ⟨g9, c9, rfl, ho9, hX⟩; have hk8 := hk8.below hX; obtain ⟨b0, b1⟩ := row2_cells (hk8.get 2 rfl); have l0 := (Core.ar (hk8.get 4 rfl)).at_; have hcb := cv_own (hk8.get 1 rfl); have hcc := cv_own (hk8.get 0 rfl)) | (go_at_call 56; (with_reducible refine (same_any g9 q n c9 c _ _ (Core.ar (hk8.get 4 rfl)).len (Core.ar (hk8.get 4 rfl)).top (rd_row ho9) (rd_row (Core.ar (hk8.get 4 rfl)).own)).mono ?_); rintro e wz ⟨rfl, hX⟩; have hk8 := hk8.below hX; obtain ⟨b0, b1⟩ := row2_cells (hk8.get 2 rfl); have l0 := (Core.ar (hk8.get 4 rfl)).at_; have hcb := cv_own (hk8.get 1 rfl); have hcc := cv_own (hk8.get 0 rfl)))
          refine hPL1 _ _ ?_ ?_
          · refine wpPlan_fork fun PL2 hPL2 => ?_
            simp only [List.filterMap_cons, List.filterMap_nil, List.getElem?_toArray, List.getElem?_cons_succ, List.getElem?_cons_zero]
            change wpList _ _ _ [_, _] _ _
            go_wp2_with (first | (go_at_call 46; (with_reducible refine (srefs_any (hk8.get 3 rfl) _ _).mono ?_); rintro e wb ⟨rfl, hX⟩; have hk8 := hk8.below hX; obtain ⟨b0, b1⟩ := row2_cells (hk8.get 2 rfl); have l0 := (Core.ar (hk8.get 4 rfl)).at_; have hcb := cv_own (hk8.get 1 rfl); have hcc := cv_own (hk8.get 0 rfl)) | (go_at_call 54; (with_reducible refine (Rto.refs (Core.rto (hk8.get 4 rfl)) _ _).mono ?_); rintro e wb ⟨rfl, hX⟩; have hk8 := hk8.below hX; obtain ⟨b0, b1⟩ := row2_cells (hk8.get 2 rfl); have l0 := (Core.ar (hk8.get 4 rfl)).at_; have hcb := cv_own (hk8.get 1 rfl); have hcc := cv_own (hk8.get 0 rfl)) | (go_at_call 41; (with_reducible refine (sfree_any (hk8.get 3 rfl)).mono ?_); rintro e wb ⟨rfl, hX⟩; have hk8 := hk8.below hX; obtain ⟨b0, b1⟩ := row2_cells (hk8.get 2 rfl); have l0 := (Core.ar (hk8.get 4 rfl)).at_; have hcb := cv_own (hk8.get 1 rfl); have hcc := cv_own (hk8.get 0 rfl)) | (go_at_call 55; (with_reducible refine (Rto.free (Core.rto (hk8.get 4 rfl))).mono ?_); rintro e wb ⟨rfl, hX⟩; have hk8 := hk8.below hX; obtain ⟨b0, b1⟩ := row2_cells (hk8.get 2 rfl); have l0 := (Core.ar (hk8.get 4 rfl)).at_; have hcb := cv_own (hk8.get 1 rfl); have hcc := cv_own (hk8.get 0 rfl)) | (go_at_call 57; (with_reducible refine (sslots_any (hk8.get 3 rfl)).mono ?_); rintro e wb ⟨g9, c9, rfl, ho9, hX⟩; have hk8 := hk8.below hX; obtain ⟨b0, b1⟩ := row2_cells (hk8.get 2 rfl); have l0 := (Core.ar (hk8.get 4 rfl)).at_; have hcb := cv_own (hk8.get 1 rfl); have hcc := cv_own (hk8.get 0 rfl)) | (go_at_call 56; (with_reducible refine (same_any g9 q n c9 c _ _ (Core.ar (hk8.get 4 rfl)).len (Core.ar (hk8.get 4 rfl)).top (rd_row ho9) (rd_row (Core.ar (hk8.get 4 rfl)).own)).mono ?_); rintro e wz ⟨rfl, hX⟩; have hk8 := hk8.below hX; obtain ⟨b0, b1⟩ := row2_cells (hk8.get 2 rfl); have l0 := (Core.ar (hk8.get 4 rfl)).at_; have hcb := cv_own (hk8.get 1 rfl); have hcc := cv_own (hk8.get 0 rfl)))
            refine hPL2 _ _ ?_ ?_
            · refine wpPlan_leaf fun PL3 hPL3 => ?_
              simp only [List.filterMap_cons, List.filterMap_nil, List.getElem?_toArray, List.getElem?_cons_succ, List.getElem?_cons_zero]
              change wpList _ _ _ [_, _, _, _, _] _ _
              go_wp2_with (first | (go_at_call 46; (with_reducible refine (srefs_any (hk8.get 3 rfl) _ _).mono ?_); rintro e wb ⟨rfl, hX⟩; have hk8 := hk8.below hX; obtain ⟨b0, b1⟩ := row2_cells (hk8.get 2 rfl); have l0 := (Core.ar (hk8.get 4 rfl)).at_; have hcb := cv_own (hk8.get 1 rfl); have hcc := cv_own (hk8.get 0 rfl)) | (go_at_call 54; (with_reducible refine (Rto.refs (Core.rto (hk8.get 4 rfl)) _ _).mono ?_); rintro e wb ⟨rfl, hX⟩; have hk8 := hk8.below hX; obtain ⟨b0, b1⟩ := row2_cells (hk8.get 2 rfl); have l0 := (Core.ar (hk8.get 4 rfl)).at_; have hcb := cv_own (hk8.get 1 rfl); have hcc := cv_own (hk8.get 0 rfl)) | (go_at_call 41; (with_reducible refine (sfree_any (hk8.get 3 rfl)).mono ?_); rintro e wb ⟨rfl, hX⟩; have hk8 := hk8.below hX; obtain ⟨b0, b1⟩ := row2_cells (hk8.get 2 rfl); have l0 := (Core.ar (hk8.get 4 rfl)).at_; have hcb := cv_own (hk8.get 1 rfl); have hcc := cv_own (hk8.get 0 rfl)) | (go_at_call 55; (with_reducible refine (Rto.free (Core.rto (hk8.get 4 rfl))).mono ?_); rintro e wb ⟨rfl, hX⟩; have hk8 := hk8.below hX; obtain ⟨b0, b1⟩ := row2_cells (hk8.get 2 rfl); have l0 := (Core.ar (hk8.get 4 rfl)).at_; have hcb := cv_own (hk8.get 1 rfl); have hcc := cv_own (hk8.get 0 rfl)) | (go_at_call 57; (with_reducible refine (sslots_any (hk8.get 3 rfl)).mono ?_); rintro e wb ⟨g9, c9, rfl, ho9, hX⟩; have hk8 := hk8.below hX; obtain ⟨b0, b1⟩ := row2_cells (hk8.get 2 rfl); have l0 := (Core.ar (hk8.get 4 rfl)).at_; have hcb := cv_own (hk8.get 1 rfl); have hcc := cv_own (hk8.get 0 rfl)) | (go_at_call 56; (with_reducible refine (same_any g9 q n c9 c _ _ (Core.ar (hk8.get 4 rfl)).len (Core.ar (hk8.get 4 rfl)).top (rd_row ho9) (rd_row (Core.ar (hk8.get 4 rfl)).own)).mono ?_); rintro e wz ⟨rfl, hX⟩; have hk8 := hk8.below hX; obtain ⟨b0, b1⟩ := row2_cells (hk8.get 2 rfl); have l0 := (Core.ar (hk8.get 4 rfl)).at_; have hcb := cv_own (hk8.get 1 rfl); have hcc := cv_own (hk8.get 0 rfl)))
              exact ⟨⟨k + 1, _, _, _, _, _, _, _, _, rfl, rfl, by omega, by omega, by omega, HS, (((hk8.tail).tail).tail).shut 1 rfl⟩, by simp [intOf]; omega⟩
            · refine wpPlan_leaf fun PL3 hPL3 => ?_
              simp only [List.filterMap_cons, List.filterMap_nil, List.getElem?_toArray, List.getElem?_cons_succ, List.getElem?_cons_zero]
              change wpList _ _ _ [_, _, _, _, _] _ _
              go_wp2_with (first | (go_at_call 46; (with_reducible refine (srefs_any (hk8.get 3 rfl) _ _).mono ?_); rintro e wb ⟨rfl, hX⟩; have hk8 := hk8.below hX; obtain ⟨b0, b1⟩ := row2_cells (hk8.get 2 rfl); have l0 := (Core.ar (hk8.get 4 rfl)).at_; have hcb := cv_own (hk8.get 1 rfl); have hcc := cv_own (hk8.get 0 rfl)) | (go_at_call 54; (with_reducible refine (Rto.refs (Core.rto (hk8.get 4 rfl)) _ _).mono ?_); rintro e wb ⟨rfl, hX⟩; have hk8 := hk8.below hX; obtain ⟨b0, b1⟩ := row2_cells (hk8.get 2 rfl); have l0 := (Core.ar (hk8.get 4 rfl)).at_; have hcb := cv_own (hk8.get 1 rfl); have hcc := cv_own (hk8.get 0 rfl)) | (go_at_call 41; (with_reducible refine (sfree_any (hk8.get 3 rfl)).mono ?_); rintro e wb ⟨rfl, hX⟩; have hk8 := hk8.below hX; obtain ⟨b0, b1⟩ := row2_cells (hk8.get 2 rfl); have l0 := (Core.ar (hk8.get 4 rfl)).at_; have hcb := cv_own (hk8.get 1 rfl); have hcc := cv_own (hk8.get 0 rfl)) | (go_at_call 55; (with_reducible refine (Rto.free (Core.rto (hk8.get 4 rfl))).mono ?_); rintro e wb ⟨rfl, hX⟩; have hk8 := hk8.below hX; obtain ⟨b0, b1⟩ := row2_cells (hk8.get 2 rfl); have l0 := (Core.ar (hk8.get 4 rfl)).at_; have hcb := cv_own (hk8.get 1 rfl); have hcc := cv_own (hk8.get 0 rfl)) | (go_at_call 57; (with_reducible refine (sslots_any (hk8.get 3 rfl)).mono ?_); rintro e wb ⟨g9, c9, rfl, ho9, hX⟩; have hk8 := hk8.below hX; obtain ⟨b0, b1⟩ := row2_cells (hk8.get 2 rfl); have l0 := (Core.ar (hk8.get 4 rfl)).at_; have hcb := cv_own (hk8.get 1 rfl); have hcc := cv_own (hk8.get 0 rfl)) | (go_at_call 56; (with_reducible refine (same_any g9 q n c9 c _ _ (Core.ar (hk8.get 4 rfl)).len (Core.ar (hk8.get 4 rfl)).top (rd_row ho9) (rd_row (Core.ar (hk8.get 4 rfl)).own)).mono ?_); rintro e wz ⟨rfl, hX⟩; have hk8 := hk8.below hX; obtain ⟨b0, b1⟩ := row2_cells (hk8.get 2 rfl); have l0 := (Core.ar (hk8.get 4 rfl)).at_; have hcb := cv_own (hk8.get 1 rfl); have hcc := cv_own (hk8.get 0 rfl)))
              exact ⟨⟨k + 1, _, _, _, _, _, _, _, _, rfl, rfl, by omega, by omega, by omega, HS, (((hk8.tail).tail).tail).shut 1 rfl⟩, by simp [intOf]; omega⟩
          · refine wpPlan_leaf fun PL2 hPL2 => ?_
            simp only [List.filterMap_cons, List.filterMap_nil, List.getElem?_toArray, List.getElem?_cons_succ, List.getElem?_cons_zero]
            change wpList _ _ _ [_, _, _, _, _, _, _] _ _
            go_wp2_with (first | (go_at_call 46; (with_reducible refine (srefs_any (hk8.get 3 rfl) _ _).mono ?_); rintro e wb ⟨rfl, hX⟩; have hk8 := hk8.below hX; obtain ⟨b0, b1⟩ := row2_cells (hk8.get 2 rfl); have l0 := (Core.ar (hk8.get 4 rfl)).at_; have hcb := cv_own (hk8.get 1 rfl); have hcc := cv_own (hk8.get 0 rfl)) | (go_at_call 54; (with_reducible refine (Rto.refs (Core.rto (hk8.get 4 rfl)) _ _).mono ?_); rintro e wb ⟨rfl, hX⟩; have hk8 := hk8.below hX; obtain ⟨b0, b1⟩ := row2_cells (hk8.get 2 rfl); have l0 := (Core.ar (hk8.get 4 rfl)).at_; have hcb := cv_own (hk8.get 1 rfl); have hcc := cv_own (hk8.get 0 rfl)) | (go_at_call 41; (with_reducible refine (sfree_any (hk8.get 3 rfl)).mono ?_); rintro e wb ⟨rfl, hX⟩; have hk8 := hk8.below hX; obtain ⟨b0, b1⟩ := row2_cells (hk8.get 2 rfl); have l0 := (Core.ar (hk8.get 4 rfl)).at_; have hcb := cv_own (hk8.get 1 rfl); have hcc := cv_own (hk8.get 0 rfl)) | (go_at_call 55; (with_reducible refine (Rto.free (Core.rto (hk8.get 4 rfl))).mono ?_); rintro e wb ⟨rfl, hX⟩; have hk8 := hk8.below hX; obtain ⟨b0, b1⟩ := row2_cells (hk8.get 2 rfl); have l0 := (Core.ar (hk8.get 4 rfl)).at_; have hcb := cv_own (hk8.get 1 rfl); have hcc := cv_own (hk8.get 0 rfl)) | (go_at_call 57; (with_reducible refine (sslots_any (hk8.get 3 rfl)).mono ?_); rintro e wb ⟨g9, c9, rfl, ho9, hX⟩; have hk8 := hk8.below hX; obtain ⟨b0, b1⟩ := row2_cells (hk8.get 2 rfl); have l0 := (Core.ar (hk8.get 4 rfl)).at_; have hcb := cv_own (hk8.get 1 rfl); have hcc := cv_own (hk8.get 0 rfl)) | (go_at_call 56; (with_reducible refine (same_any g9 q n c9 c _ _ (Core.ar (hk8.get 4 rfl)).len (Core.ar (hk8.get 4 rfl)).top (rd_row ho9) (rd_row (Core.ar (hk8.get 4 rfl)).own)).mono ?_); rintro e wz ⟨rfl, hX⟩; have hk8 := hk8.below hX; obtain ⟨b0, b1⟩ := row2_cells (hk8.get 2 rfl); have l0 := (Core.ar (hk8.get 4 rfl)).at_; have hcb := cv_own (hk8.get 1 rfl); have hcc := cv_own (hk8.get 0 rfl)))
            exact ⟨⟨k + 1, _, _, _, _, _, _, _, _, rfl, rfl, by omega, by omega, by omega, HS, (((hk8.tail).tail).tail).shut 1 rfl⟩, by simp [intOf]; omega⟩
        · refine wpPlan_fork fun PL1 hPL1 => ?_
          simp only [List.filterMap_cons, List.filterMap_nil, List.getElem?_toArray, List.getElem?_cons_succ, List.getElem?_cons_zero]
          change wpList _ _ _ [_, _, _, _, _, _, _, _, _, _, _, _, _, _, _] _ _
          go_wp2_with (first | (go_at_call 46; (with_reducible refine (srefs_any (hk8.get 3 rfl) _ _).mono ?_); rintro e wb ⟨rfl, hX⟩; have hk8 := hk8.below hX; obtain ⟨b0, b1⟩ := row2_cells (hk8.get 2 rfl); have l0 := (Core.ar (hk8.get 4 rfl)).at_; have hcb := cv_own (hk8.get 1 rfl); have hcc := cv_own (hk8.get 0 rfl)) | (go_at_call 54; (with_reducible refine (Rto.refs (Core.rto (hk8.get 4 rfl)) _ _).mono ?_); rintro e wb ⟨rfl, hX⟩; have hk8 := hk8.below hX; obtain ⟨b0, b1⟩ := row2_cells (hk8.get 2 rfl); have l0 := (Core.ar (hk8.get 4 rfl)).at_; have hcb := cv_own (hk8.get 1 rfl); have hcc := cv_own (hk8.get 0 rfl)) | (go_at_call 41; (with_reducible refine (sfree_any (hk8.get 3 rfl)).mono ?_); rintro e wb ⟨rfl, hX⟩; have hk8 := hk8.below hX; obtain ⟨b0, b1⟩ := row2_cells (hk8.get 2 rfl); have l0 := (Core.ar (hk8.get 4 rfl)).at_; have hcb := cv_own (hk8.get 1 rfl); have hcc := cv_own (hk8.get 0 rfl)) | (go_at_call 55; (with_reducible refine (Rto.free (Core.rto (hk8.get 4 rfl))).mono ?_); rintro e wb ⟨rfl, hX⟩; have hk8 := hk8.below hX; obtain ⟨b0, b1⟩ := row2_cells (hk8.get 2 rfl); have l0 := (Core.ar (hk8.get 4 rfl)).at_; have hcb := cv_own (hk8.get 1 rfl); have hcc := cv_own (hk8.get 0 rfl)) | (go_at_call 57; (with_reducible refine (sslots_any (hk8.get 3 rfl)).mono ?_); rintro e wb ⟨g9, c9, rfl, ho9, hX⟩; have hk8 := hk8.below hX; obtain ⟨b0, b1⟩ := row2_cells (hk8.get 2 rfl); have l0 := (Core.ar (hk8.get 4 rfl)).at_; have hcb := cv_own (hk8.get 1 rfl); have hcc := cv_own (hk8.get 0 rfl)) | (go_at_call 56; (with_reducible refine (same_any g9 q n c9 c _ _ (Core.ar (hk8.get 4 rfl)).len (Core.ar (hk8.get 4 rfl)).top (rd_row ho9) (rd_row (Core.ar (hk8.get 4 rfl)).own)).mono ?_); rintro e wz ⟨rfl, hX⟩; have hk8 := hk8.below hX; obtain ⟨b0, b1⟩ := row2_cells (hk8.get 2 rfl); have l0 := (Core.ar (hk8.get 4 rfl)).at_; have hcb := cv_own (hk8.get 1 rfl); have hcc := cv_own (hk8.get 0 rfl)))
          refine hPL1 _ _ ?_ ?_
          · refine wpPlan_fork fun PL2 hPL2 => ?_
            simp only [List.filterMap_cons, List.filterMap_nil, List.getElem?_toArray, List.getElem?_cons_succ, List.getElem?_cons_zero]
            change wpList _ _ _ [_, _] _ _
            go_wp2_with (first | (go_at_call 46; (with_reducible refine (srefs_any (hk8.get 3 rfl) _ _).mono ?_); rintro e wb ⟨rfl, hX⟩; have hk8 := hk8.below hX; obtain ⟨b0, b1⟩ := row2_cells (hk8.get 2 rfl); have l0 := (Core.ar (hk8.get 4 rfl)).at_; have hcb := cv_own (hk8.get 1 rfl); have hcc := cv_own (hk8.get 0 rfl)) | (go_at_call 54; (with_reducible refine (Rto.refs (Core.rto (hk8.get 4 rfl)) _ _).mono ?_); rintro e wb ⟨rfl, hX⟩; have hk8 := hk8.below hX; obtain ⟨b0, b1⟩ := row2_cells (hk8.get 2 rfl); have l0 := (Core.ar (hk8.get 4 rfl)).at_; have hcb := cv_own (hk8.get 1 rfl); have hcc := cv_own (hk8.get 0 rfl)) | (go_at_call 41; (with_reducible refine (sfree_any (hk8.get 3 rfl)).mono ?_); rintro e wb ⟨rfl, hX⟩; have hk8 := hk8.below hX; obtain ⟨b0, b1⟩ := row2_cells (hk8.get 2 rfl); have l0 := (Core.ar (hk8.get 4 rfl)).at_; have hcb := cv_own (hk8.get 1 rfl); have hcc := cv_own (hk8.get 0 rfl)) | (go_at_call 55; (with_reducible refine (Rto.free (Core.rto (hk8.get 4 rfl))).mono ?_); rintro e wb ⟨rfl, hX⟩; have hk8 := hk8.below hX; obtain ⟨b0, b1⟩ := row2_cells (hk8.get 2 rfl); have l0 := (Core.ar (hk8.get 4 rfl)).at_; have hcb := cv_own (hk8.get 1 rfl); have hcc := cv_own (hk8.get 0 rfl)) | (go_at_call 57; (with_reducible refine (sslots_any (hk8.get 3 rfl)).mono ?_); rintro e wb ⟨g9, c9, rfl, ho9, hX⟩; have hk8 := hk8.below hX; obtain ⟨b0, b1⟩ := row2_cells (hk8.get 2 rfl); have l0 := (Core.ar (hk8.get 4 rfl)).at_; have hcb := cv_own (hk8.get 1 rfl); have hcc := cv_own (hk8.get 0 rfl)) | (go_at_call 56; (with_reducible refine (same_any g9 q n c9 c _ _ (Core.ar (hk8.get 4 rfl)).len (Core.ar (hk8.get 4 rfl)).top (rd_row ho9) (rd_row (Core.ar (hk8.get 4 rfl)).own)).mono ?_); rintro e wz ⟨rfl, hX⟩; have hk8 := hk8.below hX; obtain ⟨b0, b1⟩ := row2_cells (hk8.get 2 rfl); have l0 := (Core.ar (hk8.get 4 rfl)).at_; have hcb := cv_own (hk8.get 1 rfl); have hcc := cv_own (hk8.get 0 rfl)))
            refine hPL2 _ _ ?_ ?_
            · refine wpPlan_leaf fun PL3 hPL3 => ?_
              simp only [List.filterMap_cons, List.filterMap_nil, List.getElem?_toArray, List.getElem?_cons_succ, List.getElem?_cons_zero]
              change wpList _ _ _ [_, _, _, _, _] _ _
              go_wp2_with (first | (go_at_call 46; (with_reducible refine (srefs_any (hk8.get 3 rfl) _ _).mono ?_); rintro e wb ⟨rfl, hX⟩; have hk8 := hk8.below hX; obtain ⟨b0, b1⟩ := row2_cells (hk8.get 2 rfl); have l0 := (Core.ar (hk8.get 4 rfl)).at_; have hcb := cv_own (hk8.get 1 rfl); have hcc := cv_own (hk8.get 0 rfl)) | (go_at_call 54; (with_reducible refine (Rto.refs (Core.rto (hk8.get 4 rfl)) _ _).mono ?_); rintro e wb ⟨rfl, hX⟩; have hk8 := hk8.below hX; obtain ⟨b0, b1⟩ := row2_cells (hk8.get 2 rfl); have l0 := (Core.ar (hk8.get 4 rfl)).at_; have hcb := cv_own (hk8.get 1 rfl); have hcc := cv_own (hk8.get 0 rfl)) | (go_at_call 41; (with_reducible refine (sfree_any (hk8.get 3 rfl)).mono ?_); rintro e wb ⟨rfl, hX⟩; have hk8 := hk8.below hX; obtain ⟨b0, b1⟩ := row2_cells (hk8.get 2 rfl); have l0 := (Core.ar (hk8.get 4 rfl)).at_; have hcb := cv_own (hk8.get 1 rfl); have hcc := cv_own (hk8.get 0 rfl)) | (go_at_call 55; (with_reducible refine (Rto.free (Core.rto (hk8.get 4 rfl))).mono ?_); rintro e wb ⟨rfl, hX⟩; have hk8 := hk8.below hX; obtain ⟨b0, b1⟩ := row2_cells (hk8.get 2 rfl); have l0 := (Core.ar (hk8.get 4 rfl)).at_; have hcb := cv_own (hk8.get 1 rfl); have hcc := cv_own (hk8.get 0 rfl)) | (go_at_call 57; (with_reducible refine (sslots_any (hk8.get 3 rfl)).mono ?_); rintro e wb ⟨g9, c9, rfl, ho9, hX⟩; have hk8 := hk8.below hX; obtain ⟨b0, b1⟩ := row2_cells (hk8.get 2 rfl); have l0 := (Core.ar (hk8.get 4 rfl)).at_; have hcb := cv_own (hk8.get 1 rfl); have hcc := cv_own (hk8.get 0 rfl)) | (go_at_call 56; (with_reducible refine (same_any g9 q n c9 c _ _ (Core.ar (hk8.get 4 rfl)).len (Core.ar (hk8.get 4 rfl)).top (rd_row ho9) (rd_row (Core.ar (hk8.get 4 rfl)).own)).mono ?_); rintro e wz ⟨rfl, hX⟩; have hk8 := hk8.below hX; obtain ⟨b0, b1⟩ := row2_cells (hk8.get 2 rfl); have l0 := (Core.ar (hk8.get 4 rfl)).at_; have hcb := cv_own (hk8.get 1 rfl); have hcc := cv_own (hk8.get 0 rfl)))
              exact ⟨⟨k + 1, _, _, _, _, _, _, _, _, rfl, rfl, by omega, by omega, by omega, HS, (((hk8.tail).tail).tail).shut 1 rfl⟩, by simp [intOf]; omega⟩
            · refine wpPlan_leaf fun PL3 hPL3 => ?_
              simp only [List.filterMap_cons, List.filterMap_nil, List.getElem?_toArray, List.getElem?_cons_succ, List.getElem?_cons_zero]
              change wpList _ _ _ [_, _, _, _, _] _ _
              go_wp2_with (first | (go_at_call 46; (with_reducible refine (srefs_any (hk8.get 3 rfl) _ _).mono ?_); rintro e wb ⟨rfl, hX⟩; have hk8 := hk8.below hX; obtain ⟨b0, b1⟩ := row2_cells (hk8.get 2 rfl); have l0 := (Core.ar (hk8.get 4 rfl)).at_; have hcb := cv_own (hk8.get 1 rfl); have hcc := cv_own (hk8.get 0 rfl)) | (go_at_call 54; (with_reducible refine (Rto.refs (Core.rto (hk8.get 4 rfl)) _ _).mono ?_); rintro e wb ⟨rfl, hX⟩; have hk8 := hk8.below hX; obtain ⟨b0, b1⟩ := row2_cells (hk8.get 2 rfl); have l0 := (Core.ar (hk8.get 4 rfl)).at_; have hcb := cv_own (hk8.get 1 rfl); have hcc := cv_own (hk8.get 0 rfl)) | (go_at_call 41; (with_reducible refine (sfree_any (hk8.get 3 rfl)).mono ?_); rintro e wb ⟨rfl, hX⟩; have hk8 := hk8.below hX; obtain ⟨b0, b1⟩ := row2_cells (hk8.get 2 rfl); have l0 := (Core.ar (hk8.get 4 rfl)).at_; have hcb := cv_own (hk8.get 1 rfl); have hcc := cv_own (hk8.get 0 rfl)) | (go_at_call 55; (with_reducible refine (Rto.free (Core.rto (hk8.get 4 rfl))).mono ?_); rintro e wb ⟨rfl, hX⟩; have hk8 := hk8.below hX; obtain ⟨b0, b1⟩ := row2_cells (hk8.get 2 rfl); have l0 := (Core.ar (hk8.get 4 rfl)).at_; have hcb := cv_own (hk8.get 1 rfl); have hcc := cv_own (hk8.get 0 rfl)) | (go_at_call 57; (with_reducible refine (sslots_any (hk8.get 3 rfl)).mono ?_); rintro e wb ⟨g9, c9, rfl, ho9, hX⟩; have hk8 := hk8.below hX; obtain ⟨b0, b1⟩ := row2_cells (hk8.get 2 rfl); have l0 := (Core.ar (hk8.get 4 rfl)).at_; have hcb := cv_own (hk8.get 1 rfl); have hcc := cv_own (hk8.get 0 rfl)) | (go_at_call 56; (with_reducible refine (same_any g9 q n c9 c _ _ (Core.ar (hk8.get 4 rfl)).len (Core.ar (hk8.get 4 rfl)).top (rd_row ho9) (rd_row (Core.ar (hk8.get 4 rfl)).own)).mono ?_); rintro e wz ⟨rfl, hX⟩; have hk8 := hk8.below hX; obtain ⟨b0, b1⟩ := row2_cells (hk8.get 2 rfl); have l0 := (Core.ar (hk8.get 4 rfl)).at_; have hcb := cv_own (hk8.get 1 rfl); have hcc := cv_own (hk8.get 0 rfl)))
              exact ⟨⟨k + 1, _, _, _, _, _, _, _, _, rfl, rfl, by omega, by omega, by omega, HS, (((hk8.tail).tail).tail).shut 1 rfl⟩, by simp [intOf]; omega⟩
          · refine wpPlan_leaf fun PL2 hPL2 => ?_
            simp only [List.filterMap_cons, List.filterMap_nil, List.getElem?_toArray, List.getElem?_cons_succ, List.getElem?_cons_zero]
            change wpList _ _ _ [_, _, _, _, _, _, _] _ _
            go_wp2_with (first | (go_at_call 46; (with_reducible refine (srefs_any (hk8.get 3 rfl) _ _).mono ?_); rintro e wb ⟨rfl, hX⟩; have hk8 := hk8.below hX; obtain ⟨b0, b1⟩ := row2_cells (hk8.get 2 rfl); have l0 := (Core.ar (hk8.get 4 rfl)).at_; have hcb := cv_own (hk8.get 1 rfl); have hcc := cv_own (hk8.get 0 rfl)) | (go_at_call 54; (with_reducible refine (Rto.refs (Core.rto (hk8.get 4 rfl)) _ _).mono ?_); rintro e wb ⟨rfl, hX⟩; have hk8 := hk8.below hX; obtain ⟨b0, b1⟩ := row2_cells (hk8.get 2 rfl); have l0 := (Core.ar (hk8.get 4 rfl)).at_; have hcb := cv_own (hk8.get 1 rfl); have hcc := cv_own (hk8.get 0 rfl)) | (go_at_call 41; (with_reducible refine (sfree_any (hk8.get 3 rfl)).mono ?_); rintro e wb ⟨rfl, hX⟩; have hk8 := hk8.below hX; obtain ⟨b0, b1⟩ := row2_cells (hk8.get 2 rfl); have l0 := (Core.ar (hk8.get 4 rfl)).at_; have hcb := cv_own (hk8.get 1 rfl); have hcc := cv_own (hk8.get 0 rfl)) | (go_at_call 55; (with_reducible refine (Rto.free (Core.rto (hk8.get 4 rfl))).mono ?_); rintro e wb ⟨rfl, hX⟩; have hk8 := hk8.below hX; obtain ⟨b0, b1⟩ := row2_cells (hk8.get 2 rfl); have l0 := (Core.ar (hk8.get 4 rfl)).at_; have hcb := cv_own (hk8.get 1 rfl); have hcc := cv_own (hk8.get 0 rfl)) | (go_at_call 57; (with_reducible refine (sslots_any (hk8.get 3 rfl)).mono ?_); rintro e wb ⟨g9, c9, rfl, ho9, hX⟩; have hk8 := hk8.below hX; obtain ⟨b0, b1⟩ := row2_cells (hk8.get 2 rfl); have l0 := (Core.ar (hk8.get 4 rfl)).at_; have hcb := cv_own (hk8.get 1 rfl); have hcc := cv_own (hk8.get 0 rfl)) | (go_at_call 56; (with_reducible refine (same_any g9 q n c9 c _ _ (Core.ar (hk8.get 4 rfl)).len (Core.ar (hk8.get 4 rfl)).top (rd_row ho9) (rd_row (Core.ar (hk8.get 4 rfl)).own)).mono ?_); rintro e wz ⟨rfl, hX⟩; have hk8 := hk8.below hX; obtain ⟨b0, b1⟩ := row2_cells (hk8.get 2 rfl); have l0 := (Core.ar (hk8.get 4 rfl)).at_; have hcb := cv_own (hk8.get 1 rfl); have hcc := cv_own (hk8.get 0 rfl)))
            exact ⟨⟨k + 1, _, _, _, _, _, _, _, _, rfl, rfl, by omega, by omega, by omega, HS, (((hk8.tail).tail).tail).shut 1 rfl⟩, by simp [intOf]; omega⟩
    · go_wp2
      all_goals
        go_ret
        exact ⟨rfl, hk.b⟩
namespace storePlays
open Go.ChangeShapes Go.WideShapes Go.ChangeAt Go.RowKit
open Go.ChangeMaps (open_string shut_string)
set_option linter.unusedVariables false

theorem own : ownKnob Try.prog.godebug = none := by kernel_rfl
theorem laidOut : laidOutB Try.prog = true := by kernel_rfl

set_option maxRecDepth 100000 in
theorem lifted (os : Os) (started : os.Started) (H : Type) (enc : TypeId × Value → H) :
    ReturnsInHanded {} Try.checked os 10 .any (Rows.storePlaysSpec.pre6 enc Try.prog Try.f10 Rows.storePlaysRow.domain false) (Rows.storePlaysSpec.post enc Try.prog Try.f10 false true false false) := by
  refine returnsInHanded_of_change_sized (C := Try.checked) own started (by kernel_rfl) Try.func10
    (ChangeSpec.witness6 (enc := enc) (C := Try.checked) false ⟨#[], #[.int .i64 0, .slice none 0 0], []⟩ 8 (by kernel_rfl) (by kernel_rfl) (by kernel_rfl) (by kernel_rfl)) ?_
  intro W base args ds gs before hval0 hW hcnd hsz0 _
  have hsz : (DataW.weightsEach Try.prog (Try.f10.params.toList ++ Rows.storePlaysSpec.plain.varTypes Try.prog) (ds ++ gs)).all (· ≤ reachBytes) = true := hsz0
  have hval : ∀ (j : Nat) t v, Try.f10.params[j]? = some t → args[j]? = some v → Value.okWide Try.prog W .any base t v := hval0
  have hW' := hW
  obtain ⟨p, q, hA0, hV, rfl, hfz, hnd⟩ := hW
  have hA : DataW.TrodAll enc Try.prog W 0 (fun _ => true) true Try.f10.params.toList args.toList ds p := hA0
  rw [Try.params10] at hA hval hsz
  obtain ⟨v0, vs0, d0, ds0, p0, q0, hargs, rfl, rfl, h0, r0⟩ := trodAll_cons hA
  obtain ⟨v1, vs1, d1, ds1, p1, q1, rfl, rfl, rfl, h1, r1⟩ := trodAll_cons r0
  obtain ⟨rfl, rfl, rfl⟩ := trodAll_nil r1
  obtain rfl : args = #[v0, v1] := by cases args; simp_all
  obtain ⟨rfl, rfl⟩ := trodVars_none hV
  obtain ⟨x0, rfl, rfl, rfl, w0⟩ := open_int Try.underlying3 (hval 0 3 v0 rfl rfl) h0
  obtain ⟨a1, len1, cap1, rfl⟩ := okWide_slice Try.underlying75 (hval 1 75 v1 rfl rfl)
  have k1 := h1
  have lt1 : ∀ x ∈ p1, x.block < W.heap.size := by obtain ⟨m, hm⟩ := k1; exact DataW.trod_lt m _ _ _ hm
  have ac1 : Acts12 W a1 len1 := by obtain ⟨fuel, hf⟩ := h1; exact open_acts12 hf
  clear hA0 hval0 hsz0
  refine (storePlays_walk x0 a1 len1 cap1 W (bounds_i64 w0) ac1).mono fun e W' ⟨he, bel⟩ => ?_
  subst he
  exact ⟨_, rfl, _, _, _, [], _, [], hW', trodAll_mk1 (shut_bool Try.underlying4 _), (trodAll_cons_mk (shut_int Try.underlying3 w0) (trodAll_cons_mk (Below.trod laidOut (by kernel_rfl) (of_decide_eq_true (by kernel_rfl)) k1 bel lt1) trodAll_mk0)), rfl, bel.frame _, fun h => by cases h⟩

/-- The statement. -/
theorem proved : Rows.StorePlaysSaid :=
  OpenClaim.holds_of_wide 10 Try.f10 rfl rfl rfl rfl rfl rfl rfl ⟨rfl, rfl, rfl, rfl, rfl⟩ rfl rfl rfl rfl rfl (by kernel_rfl) Try.func10 (by kernel_rfl)
    (of_decide_eq_true (by kernel_rfl)) (by unfold Func.isWrapper; rw [if_neg (of_decide_eq_false (by kernel_rfl))]; exact ⟨rfl, rfl⟩)
    (fun os started H enc _ => lifted os started H enc)
#print axioms proved
end storePlays
end Go.Proofs.Ytnkgkiiagifnmaa
