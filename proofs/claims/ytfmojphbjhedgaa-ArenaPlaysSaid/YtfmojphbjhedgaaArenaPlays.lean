/-
ArenaPlays: any calls tell what the document's own store tells, and leave the same slots. For every number and every list of calls, of which the first sixty are made.
-/
import Derived.Test.YtfmojphbjhedgaaArP
import Derived.Test.YtfmojphbjhedgaaHandFrame
import Derived.Test.YtfmojphbjhedgaaRows
import Derived.Deep.CutBlock
namespace Go.Proofs.Ytfmojphbjhedgaa
set_option linter.unusedVariables false
set_option linter.unusedSimpArgs false
open Go.RowKit

theorem ArAt.mono {T : TypeId} {r : List Value} {w : World} {base base' p q n c : Nat} {S : List Slo} (h : ArAt T r w base p q n c S) (hb : base' ≤ base) : ArAt T r w base' p q n c S :=
  ⟨h.ne, Nat.le_trans hb h.hp, h.head, own_mono h.own hb, h.len, h.top, h.bot, h.gens⟩
theorem some_all {w : World} {B : Nat} {A : Option Addr} {t ct : Nat} {hds : List Slo} (ho : w.ownsRow B 31 2 (.slice A t ct) t (rowH hds)) (ht : t ≤ 60) (x : Int) (hx : -9223372036854775808 ≤ x ∧ x ≤ 9223372036854775807) :
    Calls Try.prog 10 #[.slice A t ct, .int .i64 x] w fun e w' => (∃ i g : Int, e = .returned (.agg #[.int .i64 i, .int .u32 g])) ∧ Below w.heap.size w w' := by
  by_cases h0 : t = 0
  · subst h0
    exact some_none A ct x w
  · obtain ⟨g, cap, hv, _⟩ := ho.form (by omega)
    injection hv with hA
    subst hA
    have hl := ho.1
    rw [rowH_length] at hl
    exact some_any g t ct hds x w hx (by omega) (by omega) ht (rd_row ho)
theorem act_at {w : World} {ad : Addr} {a j : Nat} {v : Value} (h : w.cell? (ad.add (a + (j + 1))) = some v) : w.cell? ⟨(ad.add a).block, (ad.add a).off + (j + 1), none⟩ = some v := by
  rw [← add_add] at h
  exact h
set_option maxRecDepth 20000 in
set_option maxHeartbeats 4000000 in
theorem arenaPlays_walk (N : Int) (X : Option Addr) (m d : Nat) (w : World) (h0 : -9223372036854775808 ≤ N ∧ N ≤ 9223372036854775807) (ha : Acts w X m) :
    Calls Try.prog 3 #[.int .i64 N, .slice X m d] w fun e w' => e = .returned (.bool true) ∧ Below w.heap.size w w' := by
  have HAct := Lib.hid ha
  obtain ⟨n, hn⟩ : ∃ n, n = sizeS N := ⟨_, rfl⟩
  obtain ⟨hn0, hn1, hn2⟩ := sizeS_is N
  rw [← hn] at hn0 hn1 hn2
  have HN := Lib.hid hn
  obtain ⟨M, hM⟩ : ∃ M, M = max N 1 := ⟨_, rfl⟩
  have hmx : ∀ wx, (Builtin.max_ #[3, 3] 3 #[.int .i64 N, .int .i64 1]).run Try.prog wx = .ok (.int .i64 M) wx := fun wx => by rw [hM]; exact run_max2 N 1 wx
  have hmn : ∀ wx, (Builtin.min_ #[3, 3] 3 #[.int .i64 M, .int .i64 1024]).run Try.prog wx = .ok (.int .i64 n) wx := fun wx => by rw [show (n : Int) = min M 1024 by rw [hn0, hM]; omega]; exact run_min2 M 1024 wx
  clear ha hn hM hn0
  go_enter Try.func3, Try.ntmps3
  go_wp2_with (first
    | (go_at_call 7; (with_reducible refine (shown11_any _).mono ?_); rintro e w1 ⟨rfl, hb1⟩)
    | (go_at_call 8; (with_reducible refine (new_any N _ h0).mono ?_); rintro e w2 ⟨p, rfl, ⟨q, c, hA⟩, hb2⟩; rw [← HN.out] at hA)
    | (go_at_call 9; (with_reducible refine (rnew_any N _ h0).mono ?_); rintro e w3 ⟨p', rfl, ⟨q', c', r, hR⟩, hb3⟩; rw [← HN.out] at hR))
  have hq := hA.qlt
  have hq' := hR.qlt
  have hs1 := hb1.size
  have hs2 := hb2.size
  have hB2 := hb1.trans (hb2.mono hs1)
  have hP0 : Play w w3 w1.heap.size p q n c p' q' c' r (List.replicate n (1, 0)) (List.replicate n (1, 0)) none 0 0 [] :=
    ⟨hA.below hb3, hR.mono hs2, by omega, World.ownsRow_nil _ _ _ _, hB2.trans (hb3.mono hB2.size), hs1⟩
  go_loopw [7, 8] (fun tl i wr => ∃ (k t ct : Nat) (A : Option Addr) (S hds : List Slo), i = .int .i64 k ∧ tl = .slice A t ct ∧ k ≤ m ∧ k ≤ 60 ∧ t ≤ k ∧ Hid (∀ s ∈ S, s.2 ≤ k) ∧ Play w wr w1.heap.size p q n c p' q' c' r S S A t ct hds) (fun _ i _ => m - (intOf i).toNat)
  case atStart => exact ⟨0, 0, 0, none, _, [], rfl, rfl, Nat.zero_le _, Nat.zero_le _, Nat.le_refl _, (by intro s hs; rw [List.eq_of_mem_replicate hs]; decide : ∀ s ∈ List.replicate n ((1, 0) : Slo), s.2 ≤ 0), hP0⟩
  case round =>
    clear hA hR hP0 hb1 hb2 hb3 hB2
    obtain ⟨k, t, ct, A, S, hds, rfl, rfl, hkm, hk60, htk, HS, hP⟩ := hrel
    by_cases hlt : k < m ∧ k < 60
    · obtain ⟨hl1, hl2⟩ := hlt
      obtain ⟨ad, K, x, sl, gn, rfl, cK, cx, cs, cg, hx⟩ := (HAct.out.below hP.b) k hl1
      have hsome := some_all hP.told (by omega) x hx
      replace cx := act_at (j := 0) cx
      replace cs := act_at (j := 1) cs
      replace cg := act_at (j := 2) cg
      simp only [Nat.zero_add] at cx
      have hbig : ∀ s ∈ S, s.2 < 9223372036854775807 := fun s hs => by have := HS.out s hs; omega
      have Hbig := Lib.hid hbig
      clear hbig
      have hcase : K = 0 ∨ K = 1 ∨ K = 2 ∨ ((K == 0) = false ∧ (K == 1) = false ∧ (K == 2) = false) := by simp; omega
      go_upto_block 2 with (go_at_call 10; (with_reducible refine hsome.mono ?_); rintro e w4 ⟨⟨i, g, rfl⟩, hb4⟩; have hP4 := hP.below hb4; have hah := hP4.ahead; have hle4 := (hP.below hb4).le; have hP := (hP.below hb4).alloc (.cells #[.int .i64 i, .int .u32 g] 31); have hh : HBlk (w4.alloc (.cells #[.int .i64 i, .int .u32 g] 31)) w4.heap.size i g := heap_alloc_new w4 _; have hb5 := hb4.alloc hb4.size (.cells #[.int .i64 i, .int .u32 g] 31); have cK := below_cell hb5 cK; have cs := below_cell hb5 cs; have cg := below_cell hb5 cg)
      simp only [Nat.reduceAdd] at cs cg
      go_cut [7, 10, 11, 12, 13] from 20 to 128 (fun s7 s10 s11 s12 s13 wx => ∃ (t' ct' : Nat) (A' : Option Addr) (S' hds' : List Slo) (i' g' : Int), s7 = .slice A' t' ct' ∧ t' ≤ k + 1 ∧ Hid (∀ s ∈ S', s.2 ≤ k + 1) ∧ Play w wx w1.heap.size p q n c p' q' c' r S' S' A' t' ct' hds' ∧ HBlk wx w4.heap.size i' g')
      case first =>
        rcases hcase with rfl | rfl | rfl | ⟨k0, k1, k2⟩
        ·
          go_wp2_with (first | (go_at_call 11; (with_reducible refine (take_any hP.a).mono ?_); rintro e wk ⟨rfl, hX, hg⟩; have hh := (hh.stepA hP hg).alloc (.cells #[.int .i64 (takeSlot S), .int .u32 (takeGen S)] 31); have hP := (hP.stepA hX hg).alloc (.cells #[.int .i64 (takeSlot S), .int .u32 (takeGen S)] 31); have hx : HBlk (wk.alloc (.cells #[.int .i64 (takeSlot S), .int .u32 (takeGen S)] 31)) wk.heap.size (takeSlot S) (takeGen S) := heap_alloc_new wk _) | (go_at_call 12; (with_reducible refine (rtake_any hP.s).mono ?_); rintro e wy ⟨rfl, hX, hg⟩; have hh := (hh.stepR hP hg).alloc (.cells #[.int .i64 (takeSlot S), .int .u32 (takeGen S)] 31); have hx := (hx.stepR hP hg).alloc (.cells #[.int .i64 (takeSlot S), .int .u32 (takeGen S)] 31); have hP := (hP.stepR hX hg).alloc (.cells #[.int .i64 (takeSlot S), .int .u32 (takeGen S)] 31); have hy : HBlk (wy.alloc (.cells #[.int .i64 (takeSlot S), .int .u32 (takeGen S)] 31)) wy.heap.size (takeSlot S) (takeGen S) := heap_alloc_new wy _; obtain ⟨xa, xb⟩ := hx.cells; obtain ⟨ya, yb⟩ := hy.cells) | (at_builtin; refine wpList_app slH rfl _ _ rfl w1.heap.size A t ct (rowH hds) rfl (hP.told.alloc _) (some ⟨wy.heap.size + 1, 0, none⟩) 1 1 (rowH [(takeSlot S, takeGen S)]) rfl rfl (lit_rd wy _ (takeSlot S) (takeGen S)) (rowH_one _) (by omega) (hP.alloc _).le ?_; intro A1 c1 w7 ho7 hg7 hA7; have hh := hh.app hg7 hah; have hP := hP.app hg7 ho7))
          have HS := Lib.hid (takeS_le HS.out)
          go_meet
          exact ⟨_, _, _, _, _, i, g, rfl, by omega, HS, hP, hh⟩
        ·
          go_wp2_with fail
          refine region_plan (calmB_sound _) (.fork [0, 1, 3] (.leaf [4, 2, 5, 6]) (.leaf [2, 4, 5, 6])) (by kernel_rfl) (by kernel_rfl) (by kernel_rfl) ?_
          have hP := hP.drew
          have hh := hh.drew
          generalize (w4.alloc (.cells #[.int .i64 i, .int .u32 g] 31)).drew = w5 at *
          obtain ⟨h0, h1⟩ := hh.cells
          refine wpPlan_fork fun K1 hK1 => ?_
          simp only [List.filterMap_cons, List.filterMap_nil, List.getElem?_toArray, List.getElem?_cons_succ, List.getElem?_cons_zero]
          go_wp2
          refine hK1 _ _ ?_ ?_
          all_goals
            refine wpPlan_leaf fun K2 hK2 => ?_
            simp only [List.filterMap_cons, List.filterMap_nil, List.getElem?_toArray, List.getElem?_cons_succ, List.getElem?_cons_zero]
            go_wp2_with (first | (go_at_call 13; (with_reducible refine (keep_any hP.a _ _ Hbig.out).mono ?_); rintro e wk ⟨rfl, hX, hg⟩; have hh := hh.stepA hP hg; have hP := hP.stepA hX hg; obtain ⟨h0, h1⟩ := hh.cells) | (go_at_call 14; (with_reducible refine (rkeep_any hP.s _ _ Hbig.out).mono ?_); rintro e wk ⟨rfl, hX, hg⟩; have hh := hh.stepR hP hg; have hP := hP.stepR hX hg; obtain ⟨h0, h1⟩ := hh.cells))
            have HS := Lib.hid (keepS_le HS.out i g)
            go_meet
            exact ⟨_, _, _, _, _, i, g, rfl, by omega, HS, hP, hh⟩
        ·
          go_wp2_with fail
          refine region_plan (calmB_sound _) (.fork [0, 1, 3] (.leaf [4, 2, 5, 6]) (.leaf [2, 4, 5, 6])) (by kernel_rfl) (by kernel_rfl) (by kernel_rfl) ?_
          have hP := hP.drew
          have hh := hh.drew
          generalize (w4.alloc (.cells #[.int .i64 i, .int .u32 g] 31)).drew = w5 at *
          obtain ⟨h0, h1⟩ := hh.cells
          refine wpPlan_fork fun K1 hK1 => ?_
          simp only [List.filterMap_cons, List.filterMap_nil, List.getElem?_toArray, List.getElem?_cons_succ, List.getElem?_cons_zero]
          go_wp2
          refine hK1 _ _ ?_ ?_
          all_goals
            refine wpPlan_leaf fun K2 hK2 => ?_
            simp only [List.filterMap_cons, List.filterMap_nil, List.getElem?_toArray, List.getElem?_cons_succ, List.getElem?_cons_zero]
            go_wp2_with (first | (go_at_call 15; (with_reducible refine (drop_any hP.a _ _ Hbig.out).mono ?_); rintro e wk ⟨rfl, hX, hg⟩; have hh := hh.stepA hP hg; have hP := hP.stepA hX hg; obtain ⟨h0, h1⟩ := hh.cells) | (go_at_call 16; (with_reducible refine (rdrop_any hP.s _ _ Hbig.out).mono ?_); rintro e wk ⟨rfl, hX, hg⟩; have hh := hh.stepR hP hg; have hP := hP.stepR hX hg; obtain ⟨h0, h1⟩ := hh.cells))
            have HS := Lib.hid (fun s hs => Nat.le_succ_of_le (dropS_le HS.out i g s hs) : ∀ s ∈ dropS S i g, s.2 ≤ k + 1)
            go_meet
            exact ⟨_, _, _, _, _, i, g, rfl, by omega, HS, hP, hh⟩
        ·
          have hP := hP4.alloc (.cells #[.int .i64 sl, .int .u32 gn] 31)
          have hh : HBlk (w4.alloc (.cells #[.int .i64 sl, .int .u32 gn] 31)) w4.heap.size sl gn := heap_alloc_new w4 _
          have Hbig2 : Hid (∀ s ∈ keepS S sl gn, s.2 < 9223372036854775807) := fun s hs => by have := keepS_le HS.out sl gn s hs; omega
          go_wp2_with fail
          refine region_plan (calmB_sound _) (.fork [0, 1, 3] (.fork [4, 2, 5, 6, 7, 8, 9, 11] (.leaf [12, 10, 13, 14, 15]) (.leaf [10, 12, 13, 14, 15])) (.fork [2, 4, 5, 6, 7, 8, 9, 11] (.leaf [12, 10, 13, 14, 15]) (.leaf [10, 12, 13, 14, 15]))) (by kernel_rfl) (by kernel_rfl) (by kernel_rfl) ?_
          have hP := hP.drew
          have hh := hh.drew
          generalize (w4.alloc (.cells #[.int .i64 sl, .int .u32 gn] 31)).drew = w6 at *
          obtain ⟨h0, h1⟩ := hh.cells
          refine wpPlan_fork fun K1 hK1 => ?_
          simp only [List.filterMap_cons, List.filterMap_nil, List.getElem?_toArray, List.getElem?_cons_succ, List.getElem?_cons_zero]
          go_wp2
          refine hK1 _ _ ?_ ?_
          all_goals
            refine wpPlan_fork fun K2 hK2 => ?_
            simp only [List.filterMap_cons, List.filterMap_nil, List.getElem?_toArray, List.getElem?_cons_succ, List.getElem?_cons_zero]
            go_wp2_with (first | (go_at_call 13; (with_reducible refine (keep_any hP.a _ _ Hbig.out).mono ?_); rintro e wk ⟨rfl, hX, hg⟩; have hh := hh.stepA hP hg; have hP := hP.stepA hX hg; obtain ⟨h0, h1⟩ := hh.cells) | (go_at_call 14; (with_reducible refine (rkeep_any hP.s _ _ Hbig.out).mono ?_); rintro e wk ⟨rfl, hX, hg⟩; have hh := hh.stepR hP hg; have hP := hP.stepR hX hg; obtain ⟨h0, h1⟩ := hh.cells))
            refine hK2 _ _ ?_ ?_
            all_goals
              refine wpPlan_leaf fun K3 hK3 => ?_
              simp only [List.filterMap_cons, List.filterMap_nil, List.getElem?_toArray, List.getElem?_cons_succ, List.getElem?_cons_zero]
              go_wp2_with (first | (go_at_call 15; (with_reducible refine (drop_any hP.a _ _ Hbig2.out).mono ?_); rintro e wk ⟨rfl, hX, hg⟩; have hh := hh.stepA hP hg; have hP := hP.stepA hX hg; obtain ⟨h0, h1⟩ := hh.cells) | (go_at_call 16; (with_reducible refine (rdrop_any hP.s _ _ Hbig2.out).mono ?_); rintro e wk ⟨rfl, hX, hg⟩; have hh := hh.stepR hP hg; have hP := hP.stepR hX hg; obtain ⟨h0, h1⟩ := hh.cells))
              have HS := Lib.hid (dropS_le (keepS_le HS.out sl gn) sl gn)
              go_meet
              exact ⟨_, _, _, _, _, sl, gn, rfl, by omega, HS, hP, hh⟩
      case rest =>
        obtain ⟨t', ct', A', S', hds', i', g', rfl, ht', HS, hP, hh⟩ := hcut
        clear Hbig hcase cK cx cs cg hsome
        go_wp2_with fail
        refine region_plan (calmB_sound _) (.fork [0, 1, 3] (.fork [4, 2, 5, 6, 7, 8, 10, 9, 11, 12, 13, 14, 15, 17] (.fork [18, 19] (.leaf [20, 16, 21, 22, 23]) (.leaf [16, 20, 21, 22, 23])) (.leaf [16, 18, 19, 20, 21, 22, 23])) (.fork [2, 4, 5, 6, 7, 8, 10, 9, 11, 12, 13, 14, 15, 17] (.fork [18, 19] (.leaf [20, 16, 21, 22, 23]) (.leaf [16, 20, 21, 22, 23])) (.leaf [16, 18, 19, 20, 21, 22, 23]))) (by kernel_rfl) (by kernel_rfl) (by kernel_rfl) ?_
        have hP := hP.drew
        have hh := hh.drew
        generalize wc.drew = w6 at *
        obtain ⟨h0, h1⟩ := hh.cells
        have l0 := hP.s.at_
        refine wpPlan_fork fun K3 hK3 => ?_
        simp only [List.filterMap_cons, List.filterMap_nil, List.getElem?_toArray, List.getElem?_cons_succ, List.getElem?_cons_zero]
        go_wp2
        refine hK3 _ _ ?_ ?_
        all_goals
          refine wpPlan_fork fun K4 hK4 => ?_
          simp only [List.filterMap_cons, List.filterMap_nil, List.getElem?_toArray, List.getElem?_cons_succ, List.getElem?_cons_zero]
          go_wp2_with (first | (go_at_call 17; (with_reducible refine (refs_any hP.a _ _).mono ?_); rintro e wb ⟨rfl, hX⟩; have hh := hh.below hX; have hP := hP.below hX; obtain ⟨h0, h1⟩ := hh.cells; have l0 := hP.s.at_) | (go_at_call 18; (with_reducible refine (rrefs_any hP.s _ _).mono ?_); rintro e wb ⟨rfl, hX⟩; have hh := hh.below hX; have hP := hP.below hX; obtain ⟨h0, h1⟩ := hh.cells; have l0 := hP.s.at_) | (go_at_call 19; (with_reducible refine (free_any hP.a).mono ?_); rintro e wb ⟨rfl, hX⟩; have hh := hh.below hX; have hP := hP.below hX; obtain ⟨h0, h1⟩ := hh.cells; have l0 := hP.s.at_) | (go_at_call 20; (with_reducible refine (rfree_any hP.s).mono ?_); rintro e wb ⟨rfl, hX⟩; have hh := hh.below hX; have hP := hP.below hX; obtain ⟨h0, h1⟩ := hh.cells; have l0 := hP.s.at_))
          refine hK4 _ _ ?_ ?_
          · refine wpPlan_fork fun K5 hK5 => ?_
            simp only [List.filterMap_cons, List.filterMap_nil, List.getElem?_toArray, List.getElem?_cons_succ, List.getElem?_cons_zero]
            go_wp2
            refine hK5 _ _ ?_ ?_
            all_goals
              refine wpPlan_leaf fun K6 hK6 => ?_
              simp only [List.filterMap_cons, List.filterMap_nil, List.getElem?_toArray, List.getElem?_cons_succ, List.getElem?_cons_zero]
              go_wp2_with (first | (go_at_call 22; (with_reducible refine (slots_any hP.a).mono ?_); rintro e wb ⟨g9, c9, rfl, ho9, hX⟩; have hP := hP.below hX; have l0 := hP.s.at_) | (go_at_call 21; (with_reducible refine (same_any g9 q' n c9 c' _ _ hP.s.len hP.s.top (rd_row ho9) (rd_row hP.s.own)).mono ?_); rintro e wz ⟨rfl, hX⟩; have hP := hP.below hX))
              exact ⟨⟨k + 1, _, _, _, _, _, rfl, rfl, by omega, by omega, by omega, HS, hP⟩, by simp [intOf]; omega⟩
          · refine wpPlan_leaf fun K6 hK6 => ?_
            simp only [List.filterMap_cons, List.filterMap_nil, List.getElem?_toArray, List.getElem?_cons_succ, List.getElem?_cons_zero]
            go_wp2_with (first | (go_at_call 22; (with_reducible refine (slots_any hP.a).mono ?_); rintro e wb ⟨g9, c9, rfl, ho9, hX⟩; have hP := hP.below hX; have l0 := hP.s.at_) | (go_at_call 21; (with_reducible refine (same_any g9 q' n c9 c' _ _ hP.s.len hP.s.top (rd_row ho9) (rd_row hP.s.own)).mono ?_); rintro e wz ⟨rfl, hX⟩; have hP := hP.below hX))
            exact ⟨⟨k + 1, _, _, _, _, _, rfl, rfl, by omega, by omega, by omega, HS, hP⟩, by simp [intOf]; omega⟩
    · go_wp2_with (go_at_call 22; (with_reducible refine (slots_any hP.a).mono ?_); rintro e wb ⟨g9, c9, rfl, ho9, hX⟩; have hP := hP.below hX)
      all_goals
        go_ret
        exact ⟨rfl, hP.b⟩
end Go.Proofs.Ytfmojphbjhedgaa
