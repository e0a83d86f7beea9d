/-
The walks of package store: Bytes, Patch, New.
-/
import Derived.Test.YtknlkmencdlpcaaSt2
import Derived.Test.YtknlkmencdlpcaaPat11
namespace Go.Proofs.Ytknlkmencdlpcaa
set_option linter.unusedVariables false
set_option linter.unusedSimpArgs false
open Go Go.RowKit

theorem refs_slot {S : List Slo} {i g : Int} (h : refsS S i g ≠ 0) : ∃ k : Nat, ∃ hk : k < S.length, i = k ∧ liveS S k g = true := by
  cases hv : liveS S i g
  · exact absurd (refsS_no hv) h
  · obtain ⟨k, hk, rfl, h3, rfl⟩ := liveS_yes hv
    exact ⟨k, hk, rfl, hv⟩
set_option maxRecDepth 20000 in
set_option maxHeartbeats 2000000 in
theorem sbytes_any {w : World} {base : Nat} {F : Nat → Prop} {P n : Nat} {S : List Slo} {L : Nat → List UInt8} (h : Sto w base F P n S L) (i gn : Int) :
    Calls Try.prog 49 #[.pointer (some ⟨P, 0, none⟩), .agg #[.int .i64 i, .int .u32 gn]] w fun e w' => ∃ A m c', e = .returned (.tuple #[.slice A m c', .int .i64 (staleS S i gn)]) ∧
      w'.ownsRow w.heap.size 5 1 (.slice A m c') m (bys (bytesL S L i gn)) ∧ Below w.heap.size w w' := by
  have hS := h.below ((Below.refl w.heap.size w).alloc (Nat.le_refl _) (hdl i gn))
  have hrf := srefs_any hS i gn
  have hb0 := (Below.refl w.heap.size w).alloc (Nat.le_refl _) (hdl i gn)
  obtain ⟨p, q, c, g, d, V, hC, hF, hP⟩ := h
  have hK := Kp.start hC hP (by decide) hF (Wen.of_below hb0 _) (hdl_new w i gn)
  obtain ⟨a0, a1⟩ := row2_cells hK.res
  have hlen := hC.ar.len
  clear hC hP hS
  by_cases hz : refsS S i gn = 0
  · have hz' : ((refsS S i gn : Int) == 0) = true := by simp; omega
    have hv : liveS S i gn = false := by
      cases e : liveS S i gn
      · rfl
      · have := (live_refs S i gn).1 e; omega
    have HF := Lib.hid (And.intro (staleS_no hv) (show bytesL S L i gn = [] by unfold bytesL; rw [hv]; rfl))
    clear hv hz
    go_enter Try.func49, Try.ntmps49
    go_wp2_with (go_at_call 51; (with_reducible refine hrf.mono ?_); rintro e w2 ⟨rfl, hb2⟩)
    exact bodyPost_ret (v := .tuple #[.slice none 0 0, .int .i64 7]) (by simp [results, Try.results49, go_sem]) rfl (by
      rw [HF.out.1, HF.out.2]
      exact ⟨none, 0, 0, rfl, World.ownsRow_nil _ _ _ _, hb0.trans (hb2.mono hb0.size)⟩)
  · have hz' : ((refsS S i gn : Int) == 0) = false := by simp; omega
    obtain ⟨s, hs, rfl, hv⟩ := refs_slot hz
    have HF := Lib.hid (And.intro (staleS_yes hv) (show bytesL S L s gn = L s by unfold bytesL; rw [hv]; rfl))
    clear hz hv
    have hsn : s < n := by omega
    have hsc : n ≤ d := own_cap' hK.core.rw.own
    have hsm := hK.core.small hsn
    go_enter Try.func49, Try.ntmps49
    go_wp2_with (go_at_call 51; (with_reducible refine hrf.mono ?_); rintro e w2 ⟨rfl, hb2⟩)
    have hKd := (hK.below hb2).drew
    obtain ⟨b0, b1⟩ := row2_cells hKd.res
    have x0 := (row2_cells hKd.head).2
    have x3 := hKd.core.atV hsn
    have hbt := hKd.core.bts hsn
    refine still_tail2 8 (by kernel_rfl) (by kernel_rfl) ?_
    simp only [List.take_succ_cons, List.take_zero, List.drop_succ_cons, List.drop_zero]
    repeat still_step
    refine wpStill_nil ?_
    go_wp2_with (go_at_call 101; (with_reducible refine (cloneB_any _ _ _ (L s) _ hbt.len (by omega) (own_nil' (hKd.core.rw.row s hsn)) hbt.rd).mono ?_); rintro e w5 ⟨A5, c5, rfl, ho5, hb5⟩)
    exact bodyPost_ret (v := .tuple #[.slice A5 (V s).2.1 c5, .int .i64 0]) (by simp [results, Try.results49, go_sem]) rfl (by
      rw [HF.out.1, HF.out.2]
      have hbb : Below w.heap.size w w2.drew := (hb0.trans (hb2.mono hb0.size)).drew
      exact ⟨A5, _, c5, rfl, own_mono ho5 hbb.size, hbb.trans (hb5.mono hbb.size)⟩)
set_option maxRecDepth 20000 in
set_option maxHeartbeats 2000000 in
theorem spatch_any {w : World} {base : Nat} {F : Nat → Prop} {P n : Nat} {S : List Slo} {L : Nat → List UInt8} (h : Sto w base F P n S L) (i gn : Int) (sq tm ss f : Nat) (hsq : sq < 65536) (htm : tm < 4294967296) (hss : ss < 4294967296) (hf : f < 65536) :
    Calls Try.prog 47 #[.pointer (some ⟨P, 0, none⟩), .agg #[.int .i64 i, .int .u32 gn], .agg #[.int .u16 sq, .int .u32 tm, .int .u32 ss, .int .u16 f]] w fun e w' =>
      e = .returned (.int .i64 (patchE S L i gn)) ∧ Sto w' base F P n S (patchL S L i gn sq tm ss f) ∧ Wen w w' F := by
  have hb0 := ((Below.refl w.heap.size w).alloc (Nat.le_refl _) (hdl i gn)).alloc (by simp) (.cells #[.int .u16 sq, .int .u32 tm, .int .u32 ss, .int .u16 f] 26)
  have hS := h.below hb0
  have hrf := srefs_any hS i gn
  obtain ⟨p, q, c, g, d, V, hC, hF, hP⟩ := h
  have hK := Kp.start hC hP (by decide) hF (Wen.of_below hb0 _) (alloc_heap (o' := (.cells #[.int .u16 sq, .int .u32 tm, .int .u32 ss, .int .u16 f] 26)) (hdl_new w i gn))
  obtain ⟨a0, a1⟩ := row2_cells hK.res
  have hlen := hC.ar.len
  have hpb := heap_alloc_new (w.alloc (hdl i gn)) (.cells #[.int .u16 sq, .int .u32 tm, .int .u32 ss, .int .u16 f] 26)
  rw [show (w.alloc (hdl i gn)).heap.size = w.heap.size + 1 by simp] at hpb
  clear hC hP hS
  by_cases hz : refsS S i gn = 0
  · have hz' : ((refsS S i gn : Int) == 0) = true := by simp; omega
    have HF := Lib.hid (And.intro (show patchE S L i gn = 7 by unfold patchE; rw [if_pos hz]) (show patchL S L i gn sq tm ss f = L by unfold patchL; rw [if_neg (by omega)]))
    clear hz
    go_enter Try.func47, Try.ntmps47
    go_wp2_with (go_at_call 51; (with_reducible refine hrf.mono ?_); rintro e w2 ⟨rfl, hb2⟩)
    go_ret
    have hk := hK.below hb2
    rw [HF.out.1, HF.out.2]
    exact ⟨rfl, ⟨p, q, c, g, d, V, hk.core, hF, hk.head⟩, hk.wen⟩
  · have hz' : ((refsS S i gn : Int) == 0) = false := by simp; omega
    by_cases h1 : 1 < refsS S i gn
    · have h1' : decide ((1 : Int) < (refsS S i gn : Int)) = true := by simp; omega
      have HF := Lib.hid (And.intro (show patchE S L i gn = 11 by unfold patchE; rw [if_neg hz, if_pos h1]) (show patchL S L i gn sq tm ss f = L by unfold patchL; rw [if_neg (by omega)]))
      clear hz h1
      go_enter Try.func47, Try.ntmps47
      go_wp2_with (go_at_call 51; (with_reducible refine hrf.mono ?_); rintro e w2 ⟨rfl, hb2⟩)
      go_ret
      have hk := hK.below hb2
      rw [HF.out.1, HF.out.2]
      exact ⟨rfl, ⟨p, q, c, g, d, V, hk.core, hF, hk.head⟩, hk.wen⟩
    · have h1' : decide ((1 : Int) < (refsS S i gn : Int)) = false := by simp; omega
      have hr1 : refsS S i gn = 1 := by omega
      obtain ⟨s, hs, rfl, hv⟩ := refs_slot hz
      have hE : patchE S L s gn = if okD (L s) then 0 else 1 := by unfold patchE; rw [if_neg hz, if_neg h1]; rfl
      have HF := Lib.hid (And.intro hE (show patchL S L s gn sq tm ss f = upd L s (apP (L s) sq tm ss f) by unfold patchL; rw [if_pos hr1]; rfl))
      clear hz h1 hv hr1 hE
      have hsn : s < n := by omega
      have hsc : n ≤ d := own_cap' hK.core.rw.own
      have htop := hK.core.rw.top s hsn
      have hal := ap_len (L s) hsq htm hss hf
      have HAL := Lib.hid hal
      clear hal
      cases hok : okD (L s)
      all_goals
        have HOK := Lib.hid hok
        have hap := fun (wx : World) (hx : wx.ownsRow base 5 1 (.slice (V s).1 (V s).2.1 (V s).2.2) (V s).2.1 (bys (L s))) => apply_any base (V s).1 (V s).2.1 (V s).2.2 (L s) sq tm ss f hsq htm hss hf wx hx
        simp only [hok] at hap
        clear hok
        go_enter Try.func47, Try.ntmps47
        go_wp2_with (go_at_call 51; (with_reducible refine hrf.mono ?_); rintro e w2 ⟨rfl, hb2⟩)
        have hKd := (hK.below hb2).drew
        have hpd : w2.drew.heap[w.heap.size + 1]? = some (.cells #[.int .u16 sq, .int .u32 tm, .int .u32 ss, .int .u16 f] 26 (0, 0)) := (hb2.block _ (block_lt hpb)).trans hpb
        obtain ⟨q0, q1, q2, q3⟩ := row4_cells hpd
        obtain ⟨b0, b1⟩ := row2_cells hKd.res
        have x0 := (row2_cells hKd.head).2
        have x3 := hKd.core.atV hsn
        refine still_tail2 9 (by kernel_rfl) (by kernel_rfl) ?_
        simp only [List.take_succ_cons, List.take_zero, List.drop_succ_cons, List.drop_zero]
        repeat still_step
        refine wpStill_nil ?_
        go_wp2_with (go_at_call 16; (with_reducible refine (hap _ (hKd.core.rw.row s hsn)).mono ?_); rintro e w5 ⟨rfl, ho5, hg5⟩)
        go_ret
        obtain ⟨h1, h2, h3⟩ := hKd.patch hsn (by rw [HAL.out]; exact htop) hg5 ho5
        rw [HF.out.1, HF.out.2, HOK.out]
        exact ⟨rfl, ⟨p, q, c, g, d, V, h1, hF, h2⟩, h3⟩
theorem freeS_all (k g : Nat) : freeS (List.replicate k (g, 0)) = k := by
  unfold freeS
  rw [List.filter_eq_self.2 (fun s hs => by rw [List.eq_of_mem_replicate hs]; rfl), List.length_replicate]
set_option maxRecDepth 20000 in
set_option maxHeartbeats 1000000 in
theorem snew_any (N : Int) (w : World) (hN : -9223372036854775808 ≤ N ∧ N ≤ 9223372036854775807) :
    Calls Try.prog 38 #[.int .i64 N] w fun e w' => ∃ P, e = .returned (.pointer (some ⟨P, 0, none⟩)) ∧
      Sto w' w.heap.size (fun k => w.heap.size ≤ k ∧ k < w'.heap.size) P (sizeS N) (List.replicate (sizeS N) (1, 0)) (fun _ => []) ∧ Below w.heap.size w w' := by
  obtain ⟨h1, h2, h3⟩ := sizeS_is N
  have hnw := new_any N w hN
  generalize sizeS N = n at *
  have hmk := fun wx => run_mk (P := Try.prog) slB (by simp [Value.cells]) n (by omega) .i64 .i64 wx
  have n1 : ¬ (n : Int) < 0 := by omega
  clear h1
  go_enter Try.func38, Try.ntmps38
  go_wp2_with (first
    | (go_at_call 97; (with_reducible refine hnw.mono ?_); rintro e w1 ⟨p, rfl, ⟨q, c, hA⟩, hb1⟩)
    | (go_at_call 98; (with_reducible refine (free_any hA).mono ?_); rintro e w2 ⟨rfl, hb2⟩; rw [freeS_all]))
  go_ret
  have hb12 := hb1.trans (hb2.mono hb1.size)
  have hA2 := hA.below hb2
  have ho := own_made (.slice none 0 0) w2 n 22 (by unfold maxLen; omega) w.heap.size hb12.size
  rw [rowX_nils] at ho
  have hbr := (Below.refl w2.heap.size w2).alloc (Nat.le_refl _) (.cells (madeCells #[.slice none 0 0] n) 22)
  have hA3 := hA2.below hbr
  generalize hwr : w2.alloc (.cells (madeCells #[.slice none 0 0] n) 22) = w3 at *
  have hsz : w3.heap.size = w2.heap.size + 1 := by rw [← hwr]; simp
  have hbs := (Below.refl w3.heap.size w3).alloc (Nat.le_refl _) (.cells #[.pointer (some ⟨p, 0, none⟩), .slice (some ⟨w2.heap.size, 0, none⟩) n n] 148)
  have hw2 := hb12.size
  have hp1 := hA2.hp
  have hp2 := hA2.plt
  have hq1 := hA2.qlt
  refine ⟨w3.heap.size, by simp [hsz], ⟨p, q, c, w2.heap.size, n, fun _ => (none, 0, 0), ⟨hA3.below hbs, ⟨ho.kept (own_below hbs) (own_none _), fun i hi => World.ownsRow_nil _ _ _ _, fun i j hi hj hij b hb => by simp at hb, fun i hi => by simp⟩, by decide, ?_, ?_, ?_, fun i hi b hb => by simp at hb, fun k hk => hk⟩, ?_, heap_alloc_new w3 _⟩, (hb12.trans (hbr.mono hb12.size)).trans (hbs.mono (by omega))⟩
  · simp; omega
  · simp; omega
  · simp; omega
  · simp; omega
end Go.Proofs.Ytknlkmencdlpcaa
