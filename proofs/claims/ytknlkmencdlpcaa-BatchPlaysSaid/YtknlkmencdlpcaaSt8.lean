/-
The walk of the document's own store: Patch.
-/
import Derived.Test.YtknlkmencdlpcaaSt7
namespace Go.Proofs.Ytknlkmencdlpcaa
set_option linter.unusedVariables false
set_option linter.unusedSimpArgs false
open Go Go.RowKit

theorem upd_id {α : Type} (f : Nat → α) (i : Nat) : upd f i (f i) = f := by
  funext j
  by_cases e : j = i
  · subst e; rw [upd_same]
  · rw [upd_ne _ _ e]
set_option maxRecDepth 20000 in
set_option maxHeartbeats 2000000 in
theorem rpatchS_any {w : World} {base : Nat} {F : Nat → Prop} {P n : Nat} {S : List Slo} {L : Nat → List UInt8} (h : Rto w base F P n S L) (i gn : Int) (sq tm ss f : Nat) (hsq : sq < 65536) (htm : tm < 4294967296) (hss : ss < 4294967296) (hf : f < 65536) :
    Calls Try.prog 48 #[.pointer (some ⟨P, 0, none⟩), .agg #[.int .i64 i, .int .u32 gn], .agg #[.int .u16 sq, .int .u32 tm, .int .u32 ss, .int .u16 f]] w fun e w' =>
      e = .returned (.int .i64 (patchE S L i gn)) ∧ (∃ F', Rto w' base F' P n S (patchL S L i gn sq tm ss f) ∧ Grw F F' w.heap.size) ∧ Wen w w' F := by
  have hb0 := ((Below.refl w.heap.size w).alloc (Nat.le_refl _) (hdl i gn)).alloc (by simp) (.cells #[.int .u16 sq, .int .u32 tm, .int .u32 ss, .int .u16 f] 26)
  have hlt := h.lt
  obtain ⟨q, c, g, d, V, hC⟩ := h
  have hK := Kp.start hC hC.headR (by decide) hC.inp (Wen.of_below hb0 _) (alloc_heap (o' := (.cells #[.int .u16 sq, .int .u32 tm, .int .u32 ss, .int .u16 f] 26)) (hdl_new w i gn))
  obtain ⟨a0, a1⟩ := row2_cells hK.res
  have hlen := hC.ar.len
  have hF := hC.inp
  have hbase : base ≤ w.heap.size := Nat.le_of_lt (Nat.lt_of_le_of_lt (hlt P hF).1 (hlt P hF).2)
  have hpb := heap_alloc_new (w.alloc (hdl i gn)) (.cells #[.int .u16 sq, .int .u32 tm, .int .u32 ss, .int .u16 f] 26)
  rw [show (w.alloc (hdl i gn)).heap.size = w.heap.size + 1 by simp] at hpb
  have hlv := rlive_any hK.core.ar i gn
  clear hC hlt
  cases hv : liveS S i gn
  · have hz := (live_refs S i gn).2 hv
    have HF := Lib.hid (And.intro (show patchE S L i gn = 7 by unfold patchE; rw [if_pos hz]) (show patchL S L i gn sq tm ss f = L by unfold patchL; rw [if_neg (by omega)]))
    rw [hv] at hlv
    clear hv hz
    go_enter Try.func48, Try.ntmps48
    go_wp2_with (go_at_call 104; (with_reducible refine hlv.mono ?_); rintro e w2 ⟨rfl, hb2⟩)
    go_ret
    have hk := hK.below hb2
    rw [HF.out.1, HF.out.2]
    exact ⟨rfl, ⟨F, ⟨q, c, g, d, V, hk.core⟩, Grw.refl _ _⟩, hk.wen⟩
  · obtain ⟨s, hs, rfl, h3, hg⟩ := liveS_yes hv
    have hrs : refsS S s gn = S[s].2 := refsS_yes hs hv
    rw [hv] at hlv
    have hsn : s < n := by omega
    have hsc : n ≤ d := own_cap' hK.core.rw.own
    have hqc : n ≤ c := own_cap' hK.core.ar.own
    have htop := hK.core.rw.top s hsn
    have hsm := hK.core.small hsn
    have hrf := hK.core.ar.ref s hs
    clear hv hg
    by_cases h1 : S[s].2 = 1
    · have HAL := Lib.hid (ap_len (L s) hsq htm hss hf)
      have h1' : ((S[s].2 : Int) == 1) = true := by simp; omega
      have hE : patchE S L s gn = if okD (L s) then 0 else 1 := by unfold patchE; rw [hrs, if_neg (by omega), if_neg (by omega)]; rfl
      have HF := Lib.hid (And.intro hE (show patchL S L s gn sq tm ss f = upd L s (apP (L s) sq tm ss f) by unfold patchL; rw [hrs, if_pos h1]; rfl))
      clear hE hrs h3
      cases hok : okD (L s)
      · have HOK := Lib.hid hok
        clear hok
        go_enter Try.func48, Try.ntmps48
        go_wp2_with (go_at_call 104; (with_reducible refine hlv.mono ?_); rintro e w2 ⟨rfl, hb2⟩)
        have hKd := (hK.below hb2).drew
        have hpd : w2.drew.heap[w.heap.size + 1]? = some (.cells #[.int .u16 sq, .int .u32 tm, .int .u32 ss, .int .u16 f] 26 (0, 0)) := (hb2.block _ (block_lt hpb)).trans hpb
        obtain ⟨b0, b1⟩ := row2_cells hKd.res
        have x0 := (row2_cells hKd.head).1
        have x3 := hKd.core.ar.ref s hs
        refine region_plan (calmB_sound _) (.fork [0, 4] (.leaf [5, 1, 2, 3, 6, 7, 8, 9]) (.leaf [1, 2, 3, 5, 6, 7, 8, 9])) (by kernel_rfl) (by kernel_rfl) (by kernel_rfl) ?_
        refine wpPlan_fork fun PL0 hPL0 => ?_
        simp only [List.filterMap_cons, List.filterMap_nil, List.getElem?_toArray, List.getElem?_cons_succ, List.getElem?_cons_zero]
        change wpList _ _ _ [_, _] _ _
        go_wp2_with (fail)
        refine hPL0 _ _ ?_ ?_
        · refine wpPlan_leaf fun PL1 hPL1 => ?_
          simp only [List.filterMap_cons, List.filterMap_nil, List.getElem?_toArray, List.getElem?_cons_succ, List.getElem?_cons_zero]
          change wpList _ _ _ [_, _, _, _, _, _, _, _] _ _
          go_wp2_with (fail)
          have hKe := hKd.drew
          have x4 := (row2_cells hKe.head).2
          have x5 := hKe.core.atV hsn
          obtain ⟨b2, b3⟩ := row2_cells hKe.res
          obtain ⟨q0, q1, q2, q3⟩ := row4_cells (show w2.drew.drew.heap[w.heap.size + 1]? = _ from hpd)
          refine region_plan (calmB_sound _) (.fork [0, 4] (.fork [5] (.leaf [8, 1, 2, 3, 6, 7, 9, 10, 11, 12, 13, 14]) (.leaf [1, 2, 3, 6, 7, 8, 9, 10, 11, 12, 13, 14])) (.fork [] (.fork [8] (.leaf [5, 1, 2, 3, 6, 7, 9, 10, 11, 12, 13, 14]) (.leaf [1, 2, 3, 5, 6, 7, 9, 10, 11, 12, 13, 14])) (.leaf [1, 2, 3, 5, 6, 7, 8, 9, 10, 11, 12, 13, 14]))) (by kernel_rfl) (by kernel_rfl) (by kernel_rfl) ?_
          refine wpPlan_fork fun PL0 hPL0 => ?_
          simp only [List.filterMap_cons, List.filterMap_nil, List.getElem?_toArray, List.getElem?_cons_succ, List.getElem?_cons_zero]
          change wpList _ _ _ [_, _] _ _
          go_wp2_with ((go_at_call 18; (with_reducible refine (rapply_any _ _ _ (L s) sq tm ss f hsq htm hss hf _ (hKe.core.bts hsn) (by omega)).mono ?_); rintro e w5 ⟨B, cB, rfl, hoB, hbB⟩; rw [HOK.out]))
          refine hPL0 _ _ ?_ ?_
          · refine wpPlan_fork fun PL1 hPL1 => ?_
            simp only [List.filterMap_cons, List.filterMap_nil, List.getElem?_toArray, List.getElem?_cons_succ, List.getElem?_cons_zero]
            change wpList _ _ _ [_] _ _
            go_wp2_with ((go_at_call 18; (with_reducible refine (rapply_any _ _ _ (L s) sq tm ss f hsq htm hss hf _ (hKe.core.bts hsn) (by omega)).mono ?_); rintro e w5 ⟨B, cB, rfl, hoB, hbB⟩; rw [HOK.out]))
            refine hPL1 _ _ ?_ ?_
            · refine wpPlan_leaf fun PL2 hPL2 => ?_
              simp only [List.filterMap_cons, List.filterMap_nil, List.getElem?_toArray, List.getElem?_cons_succ, List.getElem?_cons_zero]
              change wpList _ _ _ [_, _, _, _, _, _, _, _, _, _, _, _] _ _
              go_wp2_with ((go_at_call 18; (with_reducible refine (rapply_any _ _ _ (L s) sq tm ss f hsq htm hss hf _ (hKe.core.bts hsn) (by omega)).mono ?_); rintro e w5 ⟨B, cB, rfl, hoB, hbB⟩; rw [HOK.out]))
              go_ret
              have hKf := hKe.below hbB
              rw [HF.out.1, HF.out.2, HOK.out, ap_no HOK.out, upd_id]
              exact ⟨rfl, ⟨F, ⟨q, c, g, d, V, hKf.core⟩, Grw.refl _ _⟩, hKf.wen⟩
            · refine wpPlan_leaf fun PL2 hPL2 => ?_
              simp only [List.filterMap_cons, List.filterMap_nil, List.getElem?_toArray, List.getElem?_cons_succ, List.getElem?_cons_zero]
              change wpList _ _ _ [_, _, _, _, _, _, _, _, _, _, _, _] _ _
              go_wp2_with ((go_at_call 18; (with_reducible refine (rapply_any _ _ _ (L s) sq tm ss f hsq htm hss hf _ (hKe.core.bts hsn) (by omega)).mono ?_); rintro e w5 ⟨B, cB, rfl, hoB, hbB⟩; rw [HOK.out]))
              go_ret
              have hKf := hKe.below hbB
              rw [HF.out.1, HF.out.2, HOK.out, ap_no HOK.out, upd_id]
              exact ⟨rfl, ⟨F, ⟨q, c, g, d, V, hKf.core⟩, Grw.refl _ _⟩, hKf.wen⟩
          · refine wpPlan_fork fun PL1 hPL1 => ?_
            simp only [List.filterMap_cons, List.filterMap_nil, List.getElem?_toArray, List.getElem?_cons_succ, List.getElem?_cons_zero]
            go_wp2_with ((go_at_call 18; (with_reducible refine (rapply_any _ _ _ (L s) sq tm ss f hsq htm hss hf _ (hKe.core.bts hsn) (by omega)).mono ?_); rintro e w5 ⟨B, cB, rfl, hoB, hbB⟩; rw [HOK.out]))
            refine hPL1 _ _ ?_ ?_
            · refine wpPlan_fork fun PL2 hPL2 => ?_
              simp only [List.filterMap_cons, List.filterMap_nil, List.getElem?_toArray, List.getElem?_cons_succ, List.getElem?_cons_zero]
              change wpList _ _ _ [_] _ _
              go_wp2_with ((go_at_call 18; (with_reducible refine (rapply_any _ _ _ (L s) sq tm ss f hsq htm hss hf _ (hKe.core.bts hsn) (by omega)).mono ?_); rintro e w5 ⟨B, cB, rfl, hoB, hbB⟩; rw [HOK.out]))
              refine hPL2 _ _ ?_ ?_
              · refine wpPlan_leaf fun PL3 hPL3 => ?_
                simp only [List.filterMap_cons, List.filterMap_nil, List.getElem?_toArray, List.getElem?_cons_succ, List.getElem?_cons_zero]
                change wpList _ _ _ [_, _, _, _, _, _, _, _, _, _, _, _] _ _
                go_wp2_with ((go_at_call 18; (with_reducible refine (rapply_any _ _ _ (L s) sq tm ss f hsq htm hss hf _ (hKe.core.bts hsn) (by omega)).mono ?_); rintro e w5 ⟨B, cB, rfl, hoB, hbB⟩; rw [HOK.out]))
                go_ret
                have hKf := hKe.below hbB
                rw [HF.out.1, HF.out.2, HOK.out, ap_no HOK.out, upd_id]
                exact ⟨rfl, ⟨F, ⟨q, c, g, d, V, hKf.core⟩, Grw.refl _ _⟩, hKf.wen⟩
              · refine wpPlan_leaf fun PL3 hPL3 => ?_
                simp only [List.filterMap_cons, List.filterMap_nil, List.getElem?_toArray, List.getElem?_cons_succ, List.getElem?_cons_zero]
                change wpList _ _ _ [_, _, _, _, _, _, _, _, _, _, _, _] _ _
                go_wp2_with ((go_at_call 18; (with_reducible refine (rapply_any _ _ _ (L s) sq tm ss f hsq htm hss hf _ (hKe.core.bts hsn) (by omega)).mono ?_); rintro e w5 ⟨B, cB, rfl, hoB, hbB⟩; rw [HOK.out]))
                go_ret
                have hKf := hKe.below hbB
                rw [HF.out.1, HF.out.2, HOK.out, ap_no HOK.out, upd_id]
                exact ⟨rfl, ⟨F, ⟨q, c, g, d, V, hKf.core⟩, Grw.refl _ _⟩, hKf.wen⟩
            · refine wpPlan_leaf fun PL2 hPL2 => ?_
              simp only [List.filterMap_cons, List.filterMap_nil, List.getElem?_toArray, List.getElem?_cons_succ, List.getElem?_cons_zero]
              change wpList _ _ _ [_, _, _, _, _, _, _, _, _, _, _, _, _] _ _
              go_wp2_with ((go_at_call 18; (with_reducible refine (rapply_any _ _ _ (L s) sq tm ss f hsq htm hss hf _ (hKe.core.bts hsn) (by omega)).mono ?_); rintro e w5 ⟨B, cB, rfl, hoB, hbB⟩; rw [HOK.out]))
              go_ret
              have hKf := hKe.below hbB
              rw [HF.out.1, HF.out.2, HOK.out, ap_no HOK.out, upd_id]
              exact ⟨rfl, ⟨F, ⟨q, c, g, d, V, hKf.core⟩, Grw.refl _ _⟩, hKf.wen⟩
        · refine wpPlan_leaf fun PL1 hPL1 => ?_
          simp only [List.filterMap_cons, List.filterMap_nil, List.getElem?_toArray, List.getElem?_cons_succ, List.getElem?_cons_zero]
          change wpList _ _ _ [_, _, _, _, _, _, _, _] _ _
          go_wp2_with (fail)
          have hKe := hKd.drew
          have x4 := (row2_cells hKe.head).2
          have x5 := hKe.core.atV hsn
          obtain ⟨b2, b3⟩ := row2_cells hKe.res
          obtain ⟨q0, q1, q2, q3⟩ := row4_cells (show w2.drew.drew.heap[w.heap.size + 1]? = _ from hpd)
          refine region_plan (calmB_sound _) (.fork [0, 4] (.fork [5] (.leaf [8, 1, 2, 3, 6, 7, 9, 10, 11, 12, 13, 14]) (.leaf [1, 2, 3, 6, 7, 8, 9, 10, 11, 12, 13, 14])) (.fork [] (.fork [8] (.leaf [5, 1, 2, 3, 6, 7, 9, 10, 11, 12, 13, 14]) (.leaf [1, 2, 3, 5, 6, 7, 9, 10, 11, 12, 13, 14])) (.leaf [1, 2, 3, 5, 6, 7, 8, 9, 10, 11, 12, 13, 14]))) (by kernel_rfl) (by kernel_rfl) (by kernel_rfl) ?_
          refine wpPlan_fork fun PL0 hPL0 => ?_
          simp only [List.filterMap_cons, List.filterMap_nil, List.getElem?_toArray, List.getElem?_cons_succ, List.getElem?_cons_zero]
          change wpList _ _ _ [_, _] _ _
          go_wp2_with ((go_at_call 18; (with_reducible refine (rapply_any _ _ _ (L s) sq tm ss f hsq htm hss hf _ (hKe.core.bts hsn) (by omega)).mono ?_); rintro e w5 ⟨B, cB, rfl, hoB, hbB⟩; rw [HOK.out]))
          refine hPL0 _ _ ?_ ?_
          · refine wpPlan_fork fun PL1 hPL1 => ?_
            simp only [List.filterMap_cons, List.filterMap_nil, List.getElem?_toArray, List.getElem?_cons_succ, List.getElem?_cons_zero]
            change wpList _ _ _ [_] _ _
            go_wp2_with ((go_at_call 18; (with_reducible refine (rapply_any _ _ _ (L s) sq tm ss f hsq htm hss hf _ (hKe.core.bts hsn) (by omega)).mono ?_); rintro e w5 ⟨B, cB, rfl, hoB, hbB⟩; rw [HOK.out]))
            refine hPL1 _ _ ?_ ?_
            · refine wpPlan_leaf fun PL2 hPL2 => ?_
              simp only [List.filterMap_cons, List.filterMap_nil, List.getElem?_toArray, List.getElem?_cons_succ, List.getElem?_cons_zero]
              change wpList _ _ _ [_, _, _, _, _, _, _, _, _, _, _, _] _ _
              go_wp2_with ((go_at_call 18; (with_reducible refine (rapply_any _ _ _ (L s) sq tm ss f hsq htm hss hf _ (hKe.core.bts hsn) (by omega)).mono ?_); rintro e w5 ⟨B, cB, rfl, hoB, hbB⟩; rw [HOK.out]))
              go_ret
              have hKf := hKe.below hbB
              rw [HF.out.1, HF.out.2, HOK.out, ap_no HOK.out, upd_id]
              exact ⟨rfl, ⟨F, ⟨q, c, g, d, V, hKf.core⟩, Grw.refl _ _⟩, hKf.wen⟩
            · refine wpPlan_leaf fun PL2 hPL2 => ?_
              simp only [List.filterMap_cons, List.filterMap_nil, List.getElem?_toArray, List.getElem?_cons_succ, List.getElem?_cons_zero]
              change wpList _ _ _ [_, _, _, _, _, _, _, _, _, _, _, _] _ _
              go_wp2_with ((go_at_call 18; (with_reducible refine (rapply_any _ _ _ (L s) sq tm ss f hsq htm hss hf _ (hKe.core.bts hsn) (by omega)).mono ?_); rintro e w5 ⟨B, cB, rfl, hoB, hbB⟩; rw [HOK.out]))
              go_ret
              have hKf := hKe.below hbB
              rw [HF.out.1, HF.out.2, HOK.out, ap_no HOK.out, upd_id]
              exact ⟨rfl, ⟨F, ⟨q, c, g, d, V, hKf.core⟩, Grw.refl _ _⟩, hKf.wen⟩
          · refine wpPlan_fork fun PL1 hPL1 => ?_
            simp only [List.filterMap_cons, List.filterMap_nil, List.getElem?_toArray, List.getElem?_cons_succ, List.getElem?_cons_zero]
            go_wp2_with ((go_at_call 18; (with_reducible refine (rapply_any _ _ _ (L s) sq tm ss f hsq htm hss hf _ (hKe.core.bts hsn) (by omega)).mono ?_); rintro e w5 ⟨B, cB, rfl, hoB, hbB⟩; rw [HOK.out]))
            refine hPL1 _ _ ?_ ?_
            · refine wpPlan_fork fun PL2 hPL2 => ?_
              simp only [List.filterMap_cons, List.filterMap_nil, List.getElem?_toArray, List.getElem?_cons_succ, List.getElem?_cons_zero]
              change wpList _ _ _ [_] _ _
              go_wp2_with ((go_at_call 18; (with_reducible refine (rapply_any _ _ _ (L s) sq tm ss f hsq htm hss hf _ (hKe.core.bts hsn) (by omega)).mono ?_); rintro e w5 ⟨B, cB, rfl, hoB, hbB⟩; rw [HOK.out]))
              refine hPL2 _ _ ?_ ?_
              · refine wpPlan_leaf fun PL3 hPL3 => ?_
                simp only [List.filterMap_cons, List.filterMap_nil, List.getElem?_toArray, List.getElem?_cons_succ, List.getElem?_cons_zero]
                change wpList _ _ _ [_, _, _, _, _, _, _, _, _, _, _, _] _ _
                go_wp2_with ((go_at_call 18; (with_reducible refine (rapply_any _ _ _ (L s) sq tm ss f hsq htm hss hf _ (hKe.core.bts hsn) (by omega)).mono ?_); rintro e w5 ⟨B, cB, rfl, hoB, hbB⟩; rw [HOK.out]))
                go_ret
                have hKf := hKe.below hbB
                rw [HF.out.1, HF.out.2, HOK.out, ap_no HOK.out, upd_id]
                exact ⟨rfl, ⟨F, ⟨q, c, g, d, V, hKf.core⟩, Grw.refl _ _⟩, hKf.wen⟩
              · refine wpPlan_leaf fun PL3 hPL3 => ?_
                simp only [List.filterMap_cons, List.filterMap_nil, List.getElem?_toArray, List.getElem?_cons_succ, List.getElem?_cons_zero]
                change wpList _ _ _ [_, _, _, _, _, _, _, _, _, _, _, _] _ _
                go_wp2_with ((go_at_call 18; (with_reducible refine (rapply_any _ _ _ (L s) sq tm ss f hsq htm hss hf _ (hKe.core.bts hsn) (by omega)).mono ?_); rintro e w5 ⟨B, cB, rfl, hoB, hbB⟩; rw [HOK.out]))
                go_ret
                have hKf := hKe.below hbB
                rw [HF.out.1, HF.out.2, HOK.out, ap_no HOK.out, upd_id]
                exact ⟨rfl, ⟨F, ⟨q, c, g, d, V, hKf.core⟩, Grw.refl _ _⟩, hKf.wen⟩
            · refine wpPlan_leaf fun PL2 hPL2 => ?_
              simp only [List.filterMap_cons, List.filterMap_nil, List.getElem?_toArray, List.getElem?_cons_succ, List.getElem?_cons_zero]
              change wpList _ _ _ [_, _, _, _, _, _, _, _, _, _, _, _, _] _ _
              go_wp2_with ((go_at_call 18; (with_reducible refine (rapply_any _ _ _ (L s) sq tm ss f hsq htm hss hf _ (hKe.core.bts hsn) (by omega)).mono ?_); rintro e w5 ⟨B, cB, rfl, hoB, hbB⟩; rw [HOK.out]))
              go_ret
              have hKf := hKe.below hbB
              rw [HF.out.1, HF.out.2, HOK.out, ap_no HOK.out, upd_id]
              exact ⟨rfl, ⟨F, ⟨q, c, g, d, V, hKf.core⟩, Grw.refl _ _⟩, hKf.wen⟩
      · have HOK := Lib.hid hok
        clear hok
        go_enter Try.func48, Try.ntmps48
        go_wp2_with (go_at_call 104; (with_reducible refine hlv.mono ?_); rintro e w2 ⟨rfl, hb2⟩)
        have hKd := (hK.below hb2).drew
        have hpd : w2.drew.heap[w.heap.size + 1]? = some (.cells #[.int .u16 sq, .int .u32 tm, .int .u32 ss, .int .u16 f] 26 (0, 0)) := (hb2.block _ (block_lt hpb)).trans hpb
        obtain ⟨b0, b1⟩ := row2_cells hKd.res
        have x0 := (row2_cells hKd.head).1
        have x3 := hKd.core.ar.ref s hs
        refine region_plan (calmB_sound _) (.fork [0, 4] (.leaf [5, 1, 2, 3, 6, 7, 8, 9]) (.leaf [1, 2, 3, 5, 6, 7, 8, 9])) (by kernel_rfl) (by kernel_rfl) (by kernel_rfl) ?_
        refine wpPlan_fork fun PL0 hPL0 => ?_
        simp only [List.filterMap_cons, List.filterMap_nil, List.getElem?_toArray, List.getElem?_cons_succ, List.getElem?_cons_zero]
        change wpList _ _ _ [_, _] _ _
        go_wp2_with (fail)
        refine hPL0 _ _ ?_ ?_
        · refine wpPlan_leaf fun PL1 hPL1 => ?_
          simp only [List.filterMap_cons, List.filterMap_nil, List.getElem?_toArray, List.getElem?_cons_succ, List.getElem?_cons_zero]
          change wpList _ _ _ [_, _, _, _, _, _, _, _] _ _
          go_wp2_with (fail)
          have hKe := hKd.drew
          have x4 := (row2_cells hKe.head).2
          have x5 := hKe.core.atV hsn
          obtain ⟨b2, b3⟩ := row2_cells hKe.res
          obtain ⟨q0, q1, q2, q3⟩ := row4_cells (show w2.drew.drew.heap[w.heap.size + 1]? = _ from hpd)
          refine region_plan (calmB_sound _) (.fork [0, 4] (.fork [5] (.leaf [8, 1, 2, 3, 6, 7, 9, 10, 11, 12, 13, 14]) (.leaf [1, 2, 3, 6, 7, 8, 9, 10, 11, 12, 13, 14])) (.fork [] (.fork [8] (.leaf [5, 1, 2, 3, 6, 7, 9, 10, 11, 12, 13, 14]) (.leaf [1, 2, 3, 5, 6, 7, 9, 10, 11, 12, 13, 14])) (.leaf [1, 2, 3, 5, 6, 7, 8, 9, 10, 11, 12, 13, 14]))) (by kernel_rfl) (by kernel_rfl) (by kernel_rfl) ?_
          refine wpPlan_fork fun PL0 hPL0 => ?_
          simp only [List.filterMap_cons, List.filterMap_nil, List.getElem?_toArray, List.getElem?_cons_succ, List.getElem?_cons_zero]
          change wpList _ _ _ [_, _] _ _
          go_wp2_with ((go_at_call 18; (with_reducible refine (rapply_any _ _ _ (L s) sq tm ss f hsq htm hss hf _ (hKe.core.bts hsn) (by omega)).mono ?_); rintro e w5 ⟨B, cB, rfl, hoB, hbB⟩; rw [HOK.out]))
          refine hPL0 _ _ ?_ ?_
          · refine wpPlan_fork fun PL1 hPL1 => ?_
            simp only [List.filterMap_cons, List.filterMap_nil, List.getElem?_toArray, List.getElem?_cons_succ, List.getElem?_cons_zero]
            change wpList _ _ _ [_] _ _
            go_wp2_with ((go_at_call 18; (with_reducible refine (rapply_any _ _ _ (L s) sq tm ss f hsq htm hss hf _ (hKe.core.bts hsn) (by omega)).mono ?_); rintro e w5 ⟨B, cB, rfl, hoB, hbB⟩; rw [HOK.out]))
            refine hPL1 _ _ ?_ ?_
            · refine wpPlan_leaf fun PL2 hPL2 => ?_
              simp only [List.filterMap_cons, List.filterMap_nil, List.getElem?_toArray, List.getElem?_cons_succ, List.getElem?_cons_zero]
              change wpList _ _ _ [_, _, _, _, _, _, _, _, _, _, _, _] _ _
              go_wp2_with ((go_at_call 18; (with_reducible refine (rapply_any _ _ _ (L s) sq tm ss f hsq htm hss hf _ (hKe.core.bts hsn) (by omega)).mono ?_); rintro e w5 ⟨B, cB, rfl, hoB, hbB⟩; rw [HOK.out]))
              have hKf := (hKe.below hbB).drew
              have y4 := (row2_cells hKf.head).2
              have y5 := hKf.core.atV hsn
              have y6 := hKf.core.rw.own.frozenAt s
              obtain ⟨b4, b5⟩ := row2_cells hKf.res
              have hnew : ∀ b, B.map Addr.block = some b → w.heap.size < b := (fun b hb => by have h1 := own_from hoB b hb; have h2 := hKe.size; omega)
              refine region_plan (calmB_sound _) (.fork [0, 4, 6] (.leaf [5, 1, 2, 3, 7, 8]) (.leaf [1, 2, 3, 5, 7, 8])) (by kernel_rfl) (by kernel_rfl) (by kernel_rfl) ?_
              refine wpPlan_fork fun PL0 hPL0 => ?_
              simp only [List.filterMap_cons, List.filterMap_nil, List.getElem?_toArray, List.getElem?_cons_succ, List.getElem?_cons_zero]
              change wpList _ _ _ [_, _, _] _ _
              go_wp2_with (fail)
              refine hPL0 _ _ ?_ ?_
              · refine wpPlan_leaf fun PL1 hPL1 => ?_
                simp only [List.filterMap_cons, List.filterMap_nil, List.getElem?_toArray, List.getElem?_cons_succ, List.getElem?_cons_zero]
                change wpList _ _ _ [_, _, _, _, _, _] _ _
                go_wp2_with (fail)
                go_ret
                obtain ⟨h1, h2, h3, h4, h5⟩ := hKf.put hsn (own_mono hoB (by have := hKe.size; omega)) hnew (by rw [HAL.out]; exact htop)
                rw [HF.out.1, HF.out.2, HOK.out]
                exact ⟨rfl, ⟨_, ⟨q, c, g, d, _, h1⟩, fun k hk => hk.elim .inl (fun hk => .inr (Nat.le_of_lt (hnew k hk)))⟩, h4⟩
              · refine wpPlan_leaf fun PL1 hPL1 => ?_
                simp only [List.filterMap_cons, List.filterMap_nil, List.getElem?_toArray, List.getElem?_cons_succ, List.getElem?_cons_zero]
                change wpList _ _ _ [_, _, _, _, _, _] _ _
                go_wp2_with (fail)
                go_ret
                obtain ⟨h1, h2, h3, h4, h5⟩ := hKf.put hsn (own_mono hoB (by have := hKe.size; omega)) hnew (by rw [HAL.out]; exact htop)
                rw [HF.out.1, HF.out.2, HOK.out]
                exact ⟨rfl, ⟨_, ⟨q, c, g, d, _, h1⟩, fun k hk => hk.elim .inl (fun hk => .inr (Nat.le_of_lt (hnew k hk)))⟩, h4⟩
            · refine wpPlan_leaf fun PL2 hPL2 => ?_
              simp only [List.filterMap_cons, List.filterMap_nil, List.getElem?_toArray, List.getElem?_cons_succ, List.getElem?_cons_zero]
              change wpList _ _ _ [_, _, _, _, _, _, _, _, _, _, _, _] _ _
              go_wp2_with ((go_at_call 18; (with_reducible refine (rapply_any _ _ _ (L s) sq tm ss f hsq htm hss hf _ (hKe.core.bts hsn) (by omega)).mono ?_); rintro e w5 ⟨B, cB, rfl, hoB, hbB⟩; rw [HOK.out]))
              have hKf := (hKe.below hbB).drew
              have y4 := (row2_cells hKf.head).2
              have y5 := hKf.core.atV hsn
              have y6 := hKf.core.rw.own.frozenAt s
              obtain ⟨b4, b5⟩ := row2_cells hKf.res
              have hnew : ∀ b, B.map Addr.block = some b → w.heap.size < b := (fun b hb => by have h1 := own_from hoB b hb; have h2 := hKe.size; omega)
              refine region_plan (calmB_sound _) (.fork [0, 4, 6] (.leaf [5, 1, 2, 3, 7, 8]) (.leaf [1, 2, 3, 5, 7, 8])) (by kernel_rfl) (by kernel_rfl) (by kernel_rfl) ?_
              refine wpPlan_fork fun PL0 hPL0 => ?_
              simp only [List.filterMap_cons, List.filterMap_nil, List.getElem?_toArray, List.getElem?_cons_succ, List.getElem?_cons_zero]
              change wpList _ _ _ [_, _, _] _ _
              go_wp2_with (fail)
              refine hPL0 _ _ ?_ ?_
              · refine wpPlan_leaf fun PL1 hPL1 => ?_
                simp only [List.filterMap_cons, List.filterMap_nil, List.getElem?_toArray, List.getElem?_cons_succ, List.getElem?_cons_zero]
                change wpList _ _ _ [_, _, _, _, _, _] _ _
                go_wp2_with (fail)
                go_ret
                obtain ⟨h1, h2, h3, h4, h5⟩ := hKf.put hsn (own_mono hoB (by have := hKe.size; omega)) hnew (by rw [HAL.out]; exact htop)
                rw [HF.out.1, HF.out.2, HOK.out]
                exact ⟨rfl, ⟨_, ⟨q, c, g, d, _, h1⟩, fun k hk => hk.elim .inl (fun hk => .inr (Nat.le_of_lt (hnew k hk)))⟩, h4⟩
              · refine wpPlan_leaf fun PL1 hPL1 => ?_
                simp only [List.filterMap_cons, List.filterMap_nil, List.getElem?_toArray, List.getElem?_cons_succ, List.getElem?_cons_zero]
                change wpList _ _ _ [_, _, _, _, _, _] _ _
                go_wp2_with (fail)
                go_ret
                obtain ⟨h1, h2, h3, h4, h5⟩ := hKf.put hsn (own_mono hoB (by have := hKe.size; omega)) hnew (by rw [HAL.out]; exact htop)
                rw [HF.out.1, HF.out.2, HOK.out]
                exact ⟨rfl, ⟨_, ⟨q, c, g, d, _, h1⟩, fun k hk => hk.elim .inl (fun hk => .inr (Nat.le_of_lt (hnew k hk)))⟩, h4⟩
          · refine wpPlan_fork fun PL1 hPL1 => ?_
            simp only [List.filterMap_cons, List.filterMap_nil, List.getElem?_toArray, List.getElem?_cons_succ, List.getElem?_cons_zero]
            go_wp2_with ((go_at_call 18; (with_reducible refine (rapply_any _ _ _ (L s) sq tm ss f hsq htm hss hf _ (hKe.core.bts hsn) (by omega)).mono ?_); rintro e w5 ⟨B, cB, rfl, hoB, hbB⟩; rw [HOK.out]))
            refine hPL1 _ _ ?_ ?_
            · refine wpPlan_fork fun PL2 hPL2 => ?_
              simp only [List.filterMap_cons, List.filterMap_nil, List.getElem?_toArray, List.getElem?_cons_succ, List.getElem?_cons_zero]
              change wpList _ _ _ [_] _ _
              go_wp2_with ((go_at_call 18; (with_reducible refine (rapply_any _ _ _ (L s) sq tm ss f hsq htm hss hf _ (hKe.core.bts hsn) (by omega)).mono ?_); rintro e w5 ⟨B, cB, rfl, hoB, hbB⟩; rw [HOK.out]))
              refine hPL2 _ _ ?_ ?_
              · refine wpPlan_leaf fun PL3 hPL3 => ?_
                simp only [List.filterMap_cons, List.filterMap_nil, List.getElem?_toArray, List.getElem?_cons_succ, List.getElem?_cons_zero]
                change wpList _ _ _ [_, _, _, _, _, _, _, _, _, _, _, _] _ _
                go_wp2_with ((go_at_call 18; (with_reducible refine (rapply_any _ _ _ (L s) sq tm ss f hsq htm hss hf _ (hKe.core.bts hsn) (by omega)).mono ?_); rintro e w5 ⟨B, cB, rfl, hoB, hbB⟩; rw [HOK.out]))
                have hKf := (hKe.below hbB).drew
                have y4 := (row2_cells hKf.head).2
                have y5 := hKf.core.atV hsn
                have y6 := hKf.core.rw.own.frozenAt s
                obtain ⟨b4, b5⟩ := row2_cells hKf.res
                have hnew : ∀ b, B.map Addr.block = some b → w.heap.size < b := (fun b hb => by have h1 := own_from hoB b hb; have h2 := hKe.size; omega)
                refine region_plan (calmB_sound _) (.fork [0, 4, 6] (.leaf [5, 1, 2, 3, 7, 8]) (.leaf [1, 2, 3, 5, 7, 8])) (by kernel_rfl) (by kernel_rfl) (by kernel_rfl) ?_
                refine wpPlan_fork fun PL0 hPL0 => ?_
                simp only [List.filterMap_cons, List.filterMap_nil, List.getElem?_toArray, List.getElem?_cons_succ, List.getElem?_cons_zero]
                change wpList _ _ _ [_, _, _] _ _
                go_wp2_with (fail)
                refine hPL0 _ _ ?_ ?_
                · refine wpPlan_leaf fun PL1 hPL1 => ?_
                  simp only [List.filterMap_cons, List.filterMap_nil, List.getElem?_toArray, List.getElem?_cons_succ, List.getElem?_cons_zero]
                  change wpList _ _ _ [_, _, _, _, _, _] _ _
                  go_wp2_with (fail)
                  go_ret
                  obtain ⟨h1, h2, h3, h4, h5⟩ := hKf.put hsn (own_mono hoB (by have := hKe.size; omega)) hnew (by rw [HAL.out]; exact htop)
                  rw [HF.out.1, HF.out.2, HOK.out]
                  exact ⟨rfl, ⟨_, ⟨q, c, g, d, _, h1⟩, fun k hk => hk.elim .inl (fun hk => .inr (Nat.le_of_lt (hnew k hk)))⟩, h4⟩
                · refine wpPlan_leaf fun PL1 hPL1 => ?_
                  simp only [List.filterMap_cons, List.filterMap_nil, List.getElem?_toArray, List.getElem?_cons_succ, List.getElem?_cons_zero]
                  change wpList _ _ _ [_, _, _, _, _, _] _ _
                  go_wp2_with (fail)
                  go_ret
                  obtain ⟨h1, h2, h3, h4, h5⟩ := hKf.put hsn (own_mono hoB (by have := hKe.size; omega)) hnew (by rw [HAL.out]; exact htop)
                  rw [HF.out.1, HF.out.2, HOK.out]
                  exact ⟨rfl, ⟨_, ⟨q, c, g, d, _, h1⟩, fun k hk => hk.elim .inl (fun hk => .inr (Nat.le_of_lt (hnew k hk)))⟩, h4⟩
              · refine wpPlan_leaf fun PL3 hPL3 => ?_
                simp only [List.filterMap_cons, List.filterMap_nil, List.getElem?_toArray, List.getElem?_cons_succ, List.getElem?_cons_zero]
                change wpList _ _ _ [_, _, _, _, _, _, _, _, _, _, _, _] _ _
                go_wp2_with ((go_at_call 18; (with_reducible refine (rapply_any _ _ _ (L s) sq tm ss f hsq htm hss hf _ (hKe.core.bts hsn) (by omega)).mono ?_); rintro e w5 ⟨B, cB, rfl, hoB, hbB⟩; rw [HOK.out]))
                have hKf := (hKe.below hbB).drew
                have y4 := (row2_cells hKf.head).2
                have y5 := hKf.core.atV hsn
                have y6 := hKf.core.rw.own.frozenAt s
                obtain ⟨b4, b5⟩ := row2_cells hKf.res
                have hnew : ∀ b, B.map Addr.block = some b → w.heap.size < b := (fun b hb => by have h1 := own_from hoB b hb; have h2 := hKe.size; omega)
                refine region_plan (calmB_sound _) (.fork [0, 4, 6] (.leaf [5, 1, 2, 3, 7, 8]) (.leaf [1, 2, 3, 5, 7, 8])) (by kernel_rfl) (by kernel_rfl) (by kernel_rfl) ?_
                refine wpPlan_fork fun PL0 hPL0 => ?_
                simp only [List.filterMap_cons, List.filterMap_nil, List.getElem?_toArray, List.getElem?_cons_succ, List.getElem?_cons_zero]
                change wpList _ _ _ [_, _, _] _ _
                go_wp2_with (fail)
                refine hPL0 _ _ ?_ ?_
                · refine wpPlan_leaf fun PL1 hPL1 => ?_
                  simp only [List.filterMap_cons, List.filterMap_nil, List.getElem?_toArray, List.getElem?_cons_succ, List.getElem?_cons_zero]
                  change wpList _ _ _ [_, _, _, _, _, _] _ _
                  go_wp2_with (fail)
                  go_ret
                  obtain ⟨h1, h2, h3, h4, h5⟩ := hKf.put hsn (own_mono hoB (by have := hKe.size; omega)) hnew (by rw [HAL.out]; exact htop)
                  rw [HF.out.1, HF.out.2, HOK.out]
                  exact ⟨rfl, ⟨_, ⟨q, c, g, d, _, h1⟩, fun k hk => hk.elim .inl (fun hk => .inr (Nat.le_of_lt (hnew k hk)))⟩, h4⟩
                · refine wpPlan_leaf fun PL1 hPL1 => ?_
                  simp only [List.filterMap_cons, List.filterMap_nil, List.getElem?_toArray, List.getElem?_cons_succ, List.getElem?_cons_zero]
                  change wpList _ _ _ [_, _, _, _, _, _] _ _
                  go_wp2_with (fail)
                  go_ret
                  obtain ⟨h1, h2, h3, h4, h5⟩ := hKf.put hsn (own_mono hoB (by have := hKe.size; omega)) hnew (by rw [HAL.out]; exact htop)
                  rw [HF.out.1, HF.out.2, HOK.out]
                  exact ⟨rfl, ⟨_, ⟨q, c, g, d, _, h1⟩, fun k hk => hk.elim .inl (fun hk => .inr (Nat.le_of_lt (hnew k hk)))⟩, h4⟩
            · refine wpPlan_leaf fun PL2 hPL2 => ?_
              simp only [List.filterMap_cons, List.filterMap_nil, List.getElem?_toArray, List.getElem?_cons_succ, List.getElem?_cons_zero]
              change wpList _ _ _ [_, _, _, _, _, _, _, _, _, _, _, _, _] _ _
              go_wp2_with ((go_at_call 18; (with_reducible refine (rapply_any _ _ _ (L s) sq tm ss f hsq htm hss hf _ (hKe.core.bts hsn) (by omega)).mono ?_); rintro e w5 ⟨B, cB, rfl, hoB, hbB⟩; rw [HOK.out]))
              have hKf := (hKe.below hbB).drew
              have y4 := (row2_cells hKf.head).2
              have y5 := hKf.core.atV hsn
              have y6 := hKf.core.rw.own.frozenAt s
              obtain ⟨b4, b5⟩ := row2_cells hKf.res
              have hnew : ∀ b, B.map Addr.block = some b → w.heap.size < b := (fun b hb => by have h1 := own_from hoB b hb; have h2 := hKe.size; omega)
              refine region_plan (calmB_sound _) (.fork [0, 4, 6] (.leaf [5, 1, 2, 3, 7, 8]) (.leaf [1, 2, 3, 5, 7, 8])) (by kernel_rfl) (by kernel_rfl) (by kernel_rfl) ?_
              refine wpPlan_fork fun PL0 hPL0 => ?_
              simp only [List.filterMap_cons, List.filterMap_nil, List.getElem?_toArray, List.getElem?_cons_succ, List.getElem?_cons_zero]
              change wpList _ _ _ [_, _, _] _ _
              go_wp2_with (fail)
              refine hPL0 _ _ ?_ ?_
              · refine wpPlan_leaf fun PL1 hPL1 => ?_
                simp only [List.filterMap_cons, List.filterMap_nil, List.getElem?_toArray, List.getElem?_cons_succ, List.getElem?_cons_zero]
                change wpList _ _ _ [_, _, _, _, _, _] _ _
                go_wp2_with (fail)
                go_ret
                obtain ⟨h1, h2, h3, h4, h5⟩ := hKf.put hsn (own_mono hoB (by have := hKe.size; omega)) hnew (by rw [HAL.out]; exact htop)
                rw [HF.out.1, HF.out.2, HOK.out]
                exact ⟨rfl, ⟨_, ⟨q, c, g, d, _, h1⟩, fun k hk => hk.elim .inl (fun hk => .inr (Nat.le_of_lt (hnew k hk)))⟩, h4⟩
              · refine wpPlan_leaf fun PL1 hPL1 => ?_
                simp only [List.filterMap_cons, List.filterMap_nil, List.getElem?_toArray, List.getElem?_cons_succ, List.getElem?_cons_zero]
                change wpList _ _ _ [_, _, _, _, _, _] _ _
                go_wp2_with (fail)
                go_ret
                obtain ⟨h1, h2, h3, h4, h5⟩ := hKf.put hsn (own_mono hoB (by have := hKe.size; omega)) hnew (by rw [HAL.out]; exact htop)
                rw [HF.out.1, HF.out.2, HOK.out]
                exact ⟨rfl, ⟨_, ⟨q, c, g, d, _, h1⟩, fun k hk => hk.elim .inl (fun hk => .inr (Nat.le_of_lt (hnew k hk)))⟩, h4⟩
        · refine wpPlan_leaf fun PL1 hPL1 => ?_
          simp only [List.filterMap_cons, List.filterMap_nil, List.getElem?_toArray, List.getElem?_cons_succ, List.getElem?_cons_zero]
          change wpList _ _ _ [_, _, _, _, _, _, _, _] _ _
          go_wp2_with (fail)
          have hKe := hKd.drew
          have x4 := (row2_cells hKe.head).2
          have x5 := hKe.core.atV hsn
          obtain ⟨b2, b3⟩ := row2_cells hKe.res
          obtain ⟨q0, q1, q2, q3⟩ := row4_cells (show w2.drew.drew.heap[w.heap.size + 1]? = _ from hpd)
          refine region_plan (calmB_sound _) (.fork [0, 4] (.fork [5] (.leaf [8, 1, 2, 3, 6, 7, 9, 10, 11, 12, 13, 14]) (.leaf [1, 2, 3, 6, 7, 8, 9, 10, 11, 12, 13, 14])) (.fork [] (.fork [8] (.leaf [5, 1, 2, 3, 6, 7, 9, 10, 11, 12, 13, 14]) (.leaf [1, 2, 3, 5, 6, 7, 9, 10, 11, 12, 13, 14])) (.leaf [1, 2, 3, 5, 6, 7, 8, 9, 10, 11, 12, 13, 14]))) (by kernel_rfl) (by kernel_rfl) (by kernel_rfl) ?_
          refine wpPlan_fork fun PL0 hPL0 => ?_
          simp only [List.filterMap_cons, List.filterMap_nil, List.getElem?_toArray, List.getElem?_cons_succ, List.getElem?_cons_zero]
          change wpList _ _ _ [_, _] _ _
          go_wp2_with ((go_at_call 18; (with_reducible refine (rapply_any _ _ _ (L s) sq tm ss f hsq htm hss hf _ (hKe.core.bts hsn) (by omega)).mono ?_); rintro e w5 ⟨B, cB, rfl, hoB, hbB⟩; rw [HOK.out]))
          refine hPL0 _ _ ?_ ?_
          · refine wpPlan_fork fun PL1 hPL1 => ?_
            simp only [List.filterMap_cons, List.filterMap_nil, List.getElem?_toArray, List.getElem?_cons_succ, List.getElem?_cons_zero]
            change wpList _ _ _ [_] _ _
            go_wp2_with ((go_at_call 18; (with_reducible refine (rapply_any _ _ _ (L s) sq tm ss f hsq htm hss hf _ (hKe.core.bts hsn) (by omega)).mono ?_); rintro e w5 ⟨B, cB, rfl, hoB, hbB⟩; rw [HOK.out]))
            refine hPL1 _ _ ?_ ?_
            · refine wpPlan_leaf fun PL2 hPL2 => ?_
              simp only [List.filterMap_cons, List.filterMap_nil, List.getElem?_toArray, List.getElem?_cons_succ, List.getElem?_cons_zero]
              change wpList _ _ _ [_, _, _, _, _, _, _, _, _, _, _, _] _ _
              go_wp2_with ((go_at_call 18; (with_reducible refine (rapply_any _ _ _ (L s) sq tm ss f hsq htm hss hf _ (hKe.core.bts hsn) (by omega)).mono ?_); rintro e w5 ⟨B, cB, rfl, hoB, hbB⟩; rw [HOK.out]))
              have hKf := (hKe.below hbB).drew
              have y4 := (row2_cells hKf.head).2
              have y5 := hKf.core.atV hsn
              have y6 := hKf.core.rw.own.frozenAt s
              obtain ⟨b4, b5⟩ := row2_cells hKf.res
              have hnew : ∀ b, B.map Addr.block = some b → w.heap.size < b := (fun b hb => by have h1 := own_from hoB b hb; have h2 := hKe.size; omega)
              refine region_plan (calmB_sound _) (.fork [0, 4, 6] (.leaf [5, 1, 2, 3, 7, 8]) (.leaf [1, 2, 3, 5, 7, 8])) (by kernel_rfl) (by kernel_rfl) (by kernel_rfl) ?_
              refine wpPlan_fork fun PL0 hPL0 => ?_
              simp only [List.filterMap_cons, List.filterMap_nil, List.getElem?_toArray, List.getElem?_cons_succ, List.getElem?_cons_zero]
              change wpList _ _ _ [_, _, _] _ _
              go_wp2_with (fail)
              refine hPL0 _ _ ?_ ?_
              · refine wpPlan_leaf fun PL1 hPL1 => ?_
                simp only [List.filterMap_cons, List.filterMap_nil, List.getElem?_toArray, List.getElem?_cons_succ, List.getElem?_cons_zero]
                change wpList _ _ _ [_, _, _, _, _, _] _ _
                go_wp2_with (fail)
                go_ret
                obtain ⟨h1, h2, h3, h4, h5⟩ := hKf.put hsn (own_mono hoB (by have := hKe.size; omega)) hnew (by rw [HAL.out]; exact htop)
                rw [HF.out.1, HF.out.2, HOK.out]
                exact ⟨rfl, ⟨_, ⟨q, c, g, d, _, h1⟩, fun k hk => hk.elim .inl (fun hk => .inr (Nat.le_of_lt (hnew k hk)))⟩, h4⟩
              · refine wpPlan_leaf fun PL1 hPL1 => ?_
                simp only [List.filterMap_cons, List.filterMap_nil, List.getElem?_toArray, List.getElem?_cons_succ, List.getElem?_cons_zero]
                change wpList _ _ _ [_, _, _, _, _, _] _ _
                go_wp2_with (fail)
                go_ret
                obtain ⟨h1, h2, h3, h4, h5⟩ := hKf.put hsn (own_mono hoB (by have := hKe.size; omega)) hnew (by rw [HAL.out]; exact htop)
                rw [HF.out.1, HF.out.2, HOK.out]
                exact ⟨rfl, ⟨_, ⟨q, c, g, d, _, h1⟩, fun k hk => hk.elim .inl (fun hk => .inr (Nat.le_of_lt (hnew k hk)))⟩, h4⟩
            · refine wpPlan_leaf fun PL2 hPL2 => ?_
              simp only [List.filterMap_cons, List.filterMap_nil, List.getElem?_toArray, List.getElem?_cons_succ, List.getElem?_cons_zero]
              change wpList _ _ _ [_, _, _, _, _, _, _, _, _, _, _, _] _ _
              go_wp2_with ((go_at_call 18; (with_reducible refine (rapply_any _ _ _ (L s) sq tm ss f hsq htm hss hf _ (hKe.core.bts hsn) (by omega)).mono ?_); rintro e w5 ⟨B, cB, rfl, hoB, hbB⟩; rw [HOK.out]))
              have hKf := (hKe.below hbB).drew
              have y4 := (row2_cells hKf.head).2
              have y5 := hKf.core.atV hsn
              have y6 := hKf.core.rw.own.frozenAt s
              obtain ⟨b4, b5⟩ := row2_cells hKf.res
              have hnew : ∀ b, B.map Addr.block = some b → w.heap.size < b := (fun b hb => by have h1 := own_from hoB b hb; have h2 := hKe.size; omega)
              refine region_plan (calmB_sound _) (.fork [0, 4, 6] (.leaf [5, 1, 2, 3, 7, 8]) (.leaf [1, 2, 3, 5, 7, 8])) (by kernel_rfl) (by kernel_rfl) (by kernel_rfl) ?_
              refine wpPlan_fork fun PL0 hPL0 => ?_
              simp only [List.filterMap_cons, List.filterMap_nil, List.getElem?_toArray, List.getElem?_cons_succ, List.getElem?_cons_zero]
              change wpList _ _ _ [_, _, _] _ _
              go_wp2_with (fail)
              refine hPL0 _ _ ?_ ?_
              · refine wpPlan_leaf fun PL1 hPL1 => ?_
                simp only [List.filterMap_cons, List.filterMap_nil, List.getElem?_toArray, List.getElem?_cons_succ, List.getElem?_cons_zero]
                change wpList _ _ _ [_, _, _, _, _, _] _ _
                go_wp2_with (fail)
                go_ret
                obtain ⟨h1, h2, h3, h4, h5⟩ := hKf.put hsn (own_mono hoB (by have := hKe.size; omega)) hnew (by rw [HAL.out]; exact htop)
                rw [HF.out.1, HF.out.2, HOK.out]
                exact ⟨rfl, ⟨_, ⟨q, c, g, d, _, h1⟩, fun k hk => hk.elim .inl (fun hk => .inr (Nat.le_of_lt (hnew k hk)))⟩, h4⟩
              · refine wpPlan_leaf fun PL1 hPL1 => ?_
                simp only [List.filterMap_cons, List.filterMap_nil, List.getElem?_toArray, List.getElem?_cons_succ, List.getElem?_cons_zero]
                change wpList _ _ _ [_, _, _, _, _, _] _ _
                go_wp2_with (fail)
                go_ret
                obtain ⟨h1, h2, h3, h4, h5⟩ := hKf.put hsn (own_mono hoB (by have := hKe.size; omega)) hnew (by rw [HAL.out]; exact htop)
                rw [HF.out.1, HF.out.2, HOK.out]
                exact ⟨rfl, ⟨_, ⟨q, c, g, d, _, h1⟩, fun k hk => hk.elim .inl (fun hk => .inr (Nat.le_of_lt (hnew k hk)))⟩, h4⟩
          · refine wpPlan_fork fun PL1 hPL1 => ?_
            simp only [List.filterMap_cons, List.filterMap_nil, List.getElem?_toArray, List.getElem?_cons_succ, List.getElem?_cons_zero]
            go_wp2_with ((go_at_call 18; (with_reducible refine (rapply_any _ _ _ (L s) sq tm ss f hsq htm hss hf _ (hKe.core.bts hsn) (by omega)).mono ?_); rintro e w5 ⟨B, cB, rfl, hoB, hbB⟩; rw [HOK.out]))
            refine hPL1 _ _ ?_ ?_
            · refine wpPlan_fork fun PL2 hPL2 => ?_
              simp only [List.filterMap_cons, List.filterMap_nil, List.getElem?_toArray, List.getElem?_cons_succ, List.getElem?_cons_zero]
              change wpList _ _ _ [_] _ _
              go_wp2_with ((go_at_call 18; (with_reducible refine (rapply_any _ _ _ (L s) sq tm ss f hsq htm hss hf _ (hKe.core.bts hsn) (by omega)).mono ?_); rintro e w5 ⟨B, cB, rfl, hoB, hbB⟩; rw [HOK.out]))
              refine hPL2 _ _ ?_ ?_
              · refine wpPlan_leaf fun PL3 hPL3 => ?_
                simp only [List.filterMap_cons, List.filterMap_nil, List.getElem?_toArray, List.getElem?_cons_succ, List.getElem?_cons_zero]
                change wpList _ _ _ [_, _, _, _, _, _, _, _, _, _, _, _] _ _
                go_wp2_with ((go_at_call 18; (with_reducible refine (rapply_any _ _ _ (L s) sq tm ss f hsq htm hss hf _ (hKe.core.bts hsn) (by omega)).mono ?_); rintro e w5 ⟨B, cB, rfl, hoB, hbB⟩; rw [HOK.out]))
                have hKf := (hKe.below hbB).drew
                have y4 := (row2_cells hKf.head).2
                have y5 := hKf.core.atV hsn
                have y6 := hKf.core.rw.own.frozenAt s
                obtain ⟨b4, b5⟩ := row2_cells hKf.res
                have hnew : ∀ b, B.map Addr.block = some b → w.heap.size < b := (fun b hb => by have h1 := own_from hoB b hb; have h2 := hKe.size; omega)
                refine region_plan (calmB_sound _) (.fork [0, 4, 6] (.leaf [5, 1, 2, 3, 7, 8]) (.leaf [1, 2, 3, 5, 7, 8])) (by kernel_rfl) (by kernel_rfl) (by kernel_rfl) ?_
                refine wpPlan_fork fun PL0 hPL0 => ?_
                simp only [List.filterMap_cons, List.filterMap_nil, List.getElem?_toArray, List.getElem?_cons_succ, List.getElem?_cons_zero]
                change wpList _ _ _ [_, _, _] _ _
                go_wp2_with (fail)
                refine hPL0 _ _ ?_ ?_
                · refine wpPlan_leaf fun PL1 hPL1 => ?_
                  simp only [List.filterMap_cons, List.filterMap_nil, List.getElem?_toArray, List.getElem?_cons_succ, List.getElem?_cons_zero]
                  change wpList _ _ _ [_, _, _, _, _, _] _ _
                  go_wp2_with (fail)
                  go_ret
                  obtain ⟨h1, h2, h3, h4, h5⟩ := hKf.put hsn (own_mono hoB (by have := hKe.size; omega)) hnew (by rw [HAL.out]; exact htop)
                  rw [HF.out.1, HF.out.2, HOK.out]
                  exact ⟨rfl, ⟨_, ⟨q, c, g, d, _, h1⟩, fun k hk => hk.elim .inl (fun hk => .inr (Nat.le_of_lt (hnew k hk)))⟩, h4⟩
                · refine wpPlan_leaf fun PL1 hPL1 => ?_
                  simp only [List.filterMap_cons, List.filterMap_nil, List.getElem?_toArray, List.getElem?_cons_succ, List.getElem?_cons_zero]
                  change wpList _ _ _ [_, _, _, _, _, _] _ _
                  go_wp2_with (fail)
                  go_ret
                  obtain ⟨h1, h2, h3, h4, h5⟩ := hKf.put hsn (own_mono hoB (by have := hKe.size; omega)) hnew (by rw [HAL.out]; exact htop)
                  rw [HF.out.1, HF.out.2, HOK.out]
                  exact ⟨rfl, ⟨_, ⟨q, c, g, d, _, h1⟩, fun k hk => hk.elim .inl (fun hk => .inr (Nat.le_of_lt (hnew k hk)))⟩, h4⟩
              · refine wpPlan_leaf fun PL3 hPL3 => ?_
                simp only [List.filterMap_cons, List.filterMap_nil, List.getElem?_toArray, List.getElem?_cons_succ, List.getElem?_cons_zero]
                change wpList _ _ _ [_, _, _, _, _, _, _, _, _, _, _, _] _ _
                go_wp2_with ((go_at_call 18; (with_reducible refine (rapply_any _ _ _ (L s) sq tm ss f hsq htm hss hf _ (hKe.core.bts hsn) (by omega)).mono ?_); rintro e w5 ⟨B, cB, rfl, hoB, hbB⟩; rw [HOK.out]))
                have hKf := (hKe.below hbB).drew
                have y4 := (row2_cells hKf.head).2
                have y5 := hKf.core.atV hsn
                have y6 := hKf.core.rw.own.frozenAt s
                obtain ⟨b4, b5⟩ := row2_cells hKf.res
                have hnew : ∀ b, B.map Addr.block = some b → w.heap.size < b := (fun b hb => by have h1 := own_from hoB b hb; have h2 := hKe.size; omega)
                refine region_plan (calmB_sound _) (.fork [0, 4, 6] (.leaf [5, 1, 2, 3, 7, 8]) (.leaf [1, 2, 3, 5, 7, 8])) (by kernel_rfl) (by kernel_rfl) (by kernel_rfl) ?_
                refine wpPlan_fork fun PL0 hPL0 => ?_
                simp only [List.filterMap_cons, List.filterMap_nil, List.getElem?_toArray, List.getElem?_cons_succ, List.getElem?_cons_zero]
                change wpList _ _ _ [_, _, _] _ _
                go_wp2_with (fail)
                refine hPL0 _ _ ?_ ?_
                · refine wpPlan_leaf fun PL1 hPL1 => ?_
                  simp only [List.filterMap_cons, List.filterMap_nil, List.getElem?_toArray, List.getElem?_cons_succ, List.getElem?_cons_zero]
                  change wpList _ _ _ [_, _, _, _, _, _] _ _
                  go_wp2_with (fail)
                  go_ret
                  obtain ⟨h1, h2, h3, h4, h5⟩ := hKf.put hsn (own_mono hoB (by have := hKe.size; omega)) hnew (by rw [HAL.out]; exact htop)
                  rw [HF.out.1, HF.out.2, HOK.out]
                  exact ⟨rfl, ⟨_, ⟨q, c, g, d, _, h1⟩, fun k hk => hk.elim .inl (fun hk => .inr (Nat.le_of_lt (hnew k hk)))⟩, h4⟩
                · refine wpPlan_leaf fun PL1 hPL1 => ?_
                  simp only [List.filterMap_cons, List.filterMap_nil, List.getElem?_toArray, List.getElem?_cons_succ, List.getElem?_cons_zero]
                  change wpList _ _ _ [_, _, _, _, _, _] _ _
                  go_wp2_with (fail)
                  go_ret
                  obtain ⟨h1, h2, h3, h4, h5⟩ := hKf.put hsn (own_mono hoB (by have := hKe.size; omega)) hnew (by rw [HAL.out]; exact htop)
                  rw [HF.out.1, HF.out.2, HOK.out]
                  exact ⟨rfl, ⟨_, ⟨q, c, g, d, _, h1⟩, fun k hk => hk.elim .inl (fun hk => .inr (Nat.le_of_lt (hnew k hk)))⟩, h4⟩
            · refine wpPlan_leaf fun PL2 hPL2 => ?_
              simp only [List.filterMap_cons, List.filterMap_nil, List.getElem?_toArray, List.getElem?_cons_succ, List.getElem?_cons_zero]
              change wpList _ _ _ [_, _, _, _, _, _, _, _, _, _, _, _, _] _ _
              go_wp2_with ((go_at_call 18; (with_reducible refine (rapply_any _ _ _ (L s) sq tm ss f hsq htm hss hf _ (hKe.core.bts hsn) (by omega)).mono ?_); rintro e w5 ⟨B, cB, rfl, hoB, hbB⟩; rw [HOK.out]))
              have hKf := (hKe.below hbB).drew
              have y4 := (row2_cells hKf.head).2
              have y5 := hKf.core.atV hsn
              have y6 := hKf.core.rw.own.frozenAt s
              obtain ⟨b4, b5⟩ := row2_cells hKf.res
              have hnew : ∀ b, B.map Addr.block = some b → w.heap.size < b := (fun b hb => by have h1 := own_from hoB b hb; have h2 := hKe.size; omega)
              refine region_plan (calmB_sound _) (.fork [0, 4, 6] (.leaf [5, 1, 2, 3, 7, 8]) (.leaf [1, 2, 3, 5, 7, 8])) (by kernel_rfl) (by kernel_rfl) (by kernel_rfl) ?_
              refine wpPlan_fork fun PL0 hPL0 => ?_
              simp only [List.filterMap_cons, List.filterMap_nil, List.getElem?_toArray, List.getElem?_cons_succ, List.getElem?_cons_zero]
              change wpList _ _ _ [_, _, _] _ _
              go_wp2_with (fail)
              refine hPL0 _ _ ?_ ?_
              · refine wpPlan_leaf fun PL1 hPL1 => ?_
                simp only [List.filterMap_cons, List.filterMap_nil, List.getElem?_toArray, List.getElem?_cons_succ, List.getElem?_cons_zero]
                change wpList _ _ _ [_, _, _, _, _, _] _ _
                go_wp2_with (fail)
                go_ret
                obtain ⟨h1, h2, h3, h4, h5⟩ := hKf.put hsn (own_mono hoB (by have := hKe.size; omega)) hnew (by rw [HAL.out]; exact htop)
                rw [HF.out.1, HF.out.2, HOK.out]
                exact ⟨rfl, ⟨_, ⟨q, c, g, d, _, h1⟩, fun k hk => hk.elim .inl (fun hk => .inr (Nat.le_of_lt (hnew k hk)))⟩, h4⟩
              · refine wpPlan_leaf fun PL1 hPL1 => ?_
                simp only [List.filterMap_cons, List.filterMap_nil, List.getElem?_toArray, List.getElem?_cons_succ, List.getElem?_cons_zero]
                change wpList _ _ _ [_, _, _, _, _, _] _ _
                go_wp2_with (fail)
                go_ret
                obtain ⟨h1, h2, h3, h4, h5⟩ := hKf.put hsn (own_mono hoB (by have := hKe.size; omega)) hnew (by rw [HAL.out]; exact htop)
                rw [HF.out.1, HF.out.2, HOK.out]
                exact ⟨rfl, ⟨_, ⟨q, c, g, d, _, h1⟩, fun k hk => hk.elim .inl (fun hk => .inr (Nat.le_of_lt (hnew k hk)))⟩, h4⟩
    · have h1' : ((S[s].2 : Int) == 1) = false := by simp; omega
      have hr : 1 < S[s].2 := by omega
      have HF := Lib.hid (And.intro (show patchE S L s gn = 11 by unfold patchE; rw [hrs, if_neg (by omega), if_pos hr]) (show patchL S L s gn sq tm ss f = L by unfold patchL; rw [hrs, if_neg h1]))
      clear hrs h3 h1 hr
      go_enter Try.func48, Try.ntmps48
      go_wp2_with (go_at_call 104; (with_reducible refine hlv.mono ?_); rintro e w2 ⟨rfl, hb2⟩)
      have hKd := (hK.below hb2).drew
      obtain ⟨b0, b1⟩ := row2_cells hKd.res
      have x0 := (row2_cells hKd.head).1
      have x3 := hKd.core.ar.ref s hs
      refine region_plan (calmB_sound _) (.fork [0, 4] (.leaf [5, 1, 2, 3, 6, 7, 8, 9]) (.leaf [1, 2, 3, 5, 6, 7, 8, 9])) (by kernel_rfl) (by kernel_rfl) (by kernel_rfl) ?_
      refine wpPlan_fork fun PL0 hPL0 => ?_
      simp only [List.filterMap_cons, List.filterMap_nil, List.getElem?_toArray, List.getElem?_cons_succ, List.getElem?_cons_zero]
      change wpList _ _ _ [_, _] _ _
      go_wp2_with (fail)
      refine hPL0 _ _ ?_ ?_
      · refine wpPlan_leaf fun PL1 hPL1 => ?_
        simp only [List.filterMap_cons, List.filterMap_nil, List.getElem?_toArray, List.getElem?_cons_succ, List.getElem?_cons_zero]
        change wpList _ _ _ [_, _, _, _, _, _, _, _] _ _
        go_wp2_with (fail)
        go_ret
        rw [HF.out.1, HF.out.2]
        exact ⟨rfl, ⟨F, ⟨q, c, g, d, V, hKd.core⟩, Grw.refl _ _⟩, hKd.wen⟩
      · refine wpPlan_leaf fun PL1 hPL1 => ?_
        simp only [List.filterMap_cons, List.filterMap_nil, List.getElem?_toArray, List.getElem?_cons_succ, List.getElem?_cons_zero]
        change wpList _ _ _ [_, _, _, _, _, _, _, _] _ _
        go_wp2_with (fail)
        go_ret
        rw [HF.out.1, HF.out.2]
        exact ⟨rfl, ⟨F, ⟨q, c, g, d, V, hKd.core⟩, Grw.refl _ _⟩, hKd.wen⟩
end Go.Proofs.Ytknlkmencdlpcaa
