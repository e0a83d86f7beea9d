/-
The walks of the document's own store (sluicegateref11): Put, Bytes, Patch.
-/
import Derived.Test.YtknlkmencdlpcaaSt3
namespace Go.Proofs.Ytknlkmencdlpcaa
set_option linter.unusedVariables false
set_option linter.unusedSimpArgs false
open Go Go.RowKit

/-- At P lies the document's own store; all that is its own is at the blocks F. -/
def Rto (w : World) (base : Nat) (F : Nat → Prop) (P n : Nat) (S : List Slo) (L : Nat → List UInt8) : Prop :=
  ∃ q c g d V, Core 85 [.slice (some ⟨g, 0, none⟩) n d] w base F P q n c g d S V L
section
variable {w w' : World} {base : Nat} {F X : Nat → Prop} {P n : Nat} {S : List Slo} {L : Nat → List UInt8}
theorem Rto.wen (h : Rto w base F P n S L) (hw : Wen w w' X) (hx : ∀ k, F k → ¬ X k) : Rto w' base F P n S L := by
  obtain ⟨q, c, g, d, V, hC⟩ := h
  exact ⟨q, c, g, d, V, hC.wen hw hx⟩
theorem Rto.below (h : Rto w base F P n S L) (hw : Below w.heap.size w w') : Rto w' base F P n S L :=
  h.wen (Wen.of_below hw (fun _ => False)) (fun _ _ hf => hf)
theorem Rto.lt (h : Rto w base F P n S L) : ∀ k, F k → base ≤ k ∧ k < w.heap.size := by
  obtain ⟨q, c, g, d, V, hC⟩ := h
  exact hC.lt
theorem Rto.keep (h : Rto w base F P n S L) (hbig : ∀ s ∈ S, s.2 < 9223372036854775807) (i gn : Int) :
    Calls Try.prog 44 #[.pointer (some ⟨P, 0, none⟩), .agg #[.int .i64 i, .int .u32 gn]] w fun e w' => e = .returned (.int .i64 (staleS S i gn)) ∧ Rto w' base F P n (keepS S i gn) L ∧ Wen w w' F := by
  obtain ⟨q, c, g, d, V, hC⟩ := h
  refine (rkeep_any hC.ar i gn hbig).mono ?_
  rintro e w' ⟨rfl, hA, hg⟩
  exact ⟨rfl, ⟨q, c, g, d, V, hC.stepA hA hg⟩, (Wen.of_grown hg).mono (fun k _ e => by injection e with e; rw [← e]; exact hC.inq)⟩
theorem Rto.drop (h : Rto w base F P n S L) (hbig : ∀ s ∈ S, s.2 < 9223372036854775807) (i gn : Int) :
    Calls Try.prog 46 #[.pointer (some ⟨P, 0, none⟩), .agg #[.int .i64 i, .int .u32 gn]] w fun e w' => e = .returned (.int .i64 (staleS S i gn)) ∧ Rto w' base F P n (dropS S i gn) L ∧ Wen w w' F := by
  obtain ⟨q, c, g, d, V, hC⟩ := h
  refine (rdrop_any hC.ar i gn hbig).mono ?_
  rintro e w' ⟨rfl, hA, hg⟩
  exact ⟨rfl, ⟨q, c, g, d, V, hC.stepA hA hg⟩, (Wen.of_grown hg).mono (fun k _ e => by injection e with e; rw [← e]; exact hC.inq)⟩
end
theorem Rto.new (N : Int) (w : World) (hN : -9223372036854775808 ≤ N ∧ N ≤ 9223372036854775807) :
    Calls Try.prog 39 #[.int .i64 N] w fun e w' => ∃ P, e = .returned (.pointer (some ⟨P, 0, none⟩)) ∧
      Rto w' w.heap.size (fun k => w.heap.size ≤ k ∧ k < w'.heap.size) P (sizeS N) (List.replicate (sizeS N) (1, 0)) (fun _ => []) ∧ Below w.heap.size w w' := by
  obtain ⟨h1, h2, h3⟩ := sizeS_is N
  refine (rnew_full N w hN).mono ?_
  rintro e w' ⟨p, rfl, ⟨q, c, B, d, hA, hB⟩, hb⟩
  obtain ⟨g, cap, hv, _⟩ := hB.form (by omega)
  injection hv with e1 e2 e3
  subst e1
  have hp := hA.plt
  have hp1 := hA.hp
  have hq := hA.qlt
  have hg := hB.lt g rfl
  rw [rowX_nils] at hB
  exact ⟨p, rfl, ⟨q, c, g, d, fun _ => (none, 0, 0), hA, ⟨hB, fun i hi => World.ownsRow_nil _ _ _ _, fun i j hi hj hij b hb => by simp at hb, fun i hi => by simp⟩, by decide, ⟨hp1, hp⟩, hq, hg, fun i hi b hb => by simp at hb, fun k hk => hk⟩, hb⟩
theorem Core.headR {w : World} {base : Nat} {F : Nat → Prop} {P n q c g d : Nat} {S : List Slo} {V : Nat → Bx} {L : Nat → List UInt8} (h : Core 85 [.slice (some ⟨g, 0, none⟩) n d] w base F P q n c g d S V L) :
    w.heap[P]? = some (.cells #[.slice (some ⟨q, 0, none⟩) n c, .slice (some ⟨g, 0, none⟩) n d] 85 (0, 0)) := h.ar.head
set_option maxRecDepth 20000 in
set_option maxHeartbeats 2000000 in
theorem rbytesS_any {w : World} {base : Nat} {F : Nat → Prop} {P n : Nat} {S : List Slo} {L : Nat → List UInt8} (h : Rto w base F P n S L) (i gn : Int) :
    Calls Try.prog 50 #[.pointer (some ⟨P, 0, none⟩), .agg #[.int .i64 i, .int .u32 gn]] w fun e w' => ∃ A m c', e = .returned (.tuple #[.slice A m c', .int .i64 (staleS S i gn)]) ∧
      w'.ownsRow w.heap.size 5 1 (.slice A m c') m (bys (bytesL S L i gn)) ∧ Below w.heap.size w w' := by
  have hb0 := (Below.refl w.heap.size w).alloc (Nat.le_refl _) (hdl i gn)
  obtain ⟨q, c, g, d, V, hC⟩ := h
  have hK := Kp.start hC hC.headR (by decide) hC.inp (Wen.of_below hb0 _) (hdl_new w i gn)
  obtain ⟨a0, a1⟩ := row2_cells hK.res
  have hlen := hC.ar.len
  have hlv := rlive_any hK.core.ar i gn
  clear hC
  cases hv : liveS S i gn
  · have HF := Lib.hid (And.intro (staleS_no hv) (show bytesL S L i gn = [] by unfold bytesL; rw [hv]; rfl))
    rw [hv] at hlv
    clear hv
    go_enter Try.func50, Try.ntmps50
    go_wp2_with (go_at_call 104; (with_reducible refine hlv.mono ?_); rintro e w2 ⟨rfl, hb2⟩)
    exact bodyPost_ret (v := .tuple #[.slice none 0 0, .int .i64 7]) (by simp [results, Try.results50, go_sem]) rfl (by
      rw [HF.out.1, HF.out.2]
      exact ⟨none, 0, 0, rfl, World.ownsRow_nil _ _ _ _, hb0.trans (hb2.mono hb0.size)⟩)
  · obtain ⟨s, hs, rfl, h3, rfl⟩ := liveS_yes hv
    have HF := Lib.hid (And.intro (staleS_yes hv) (show bytesL S L s S[s].1 = L s by unfold bytesL; rw [hv]; rfl))
    rw [hv] at hlv
    have hsn : s < n := by omega
    have hsc : n ≤ d := own_cap' hK.core.rw.own
    have hsm := hK.core.small hsn
    clear hv h3
    generalize (S[s].1 : Int) = gn at *
    go_enter Try.func50, Try.ntmps50
    go_wp2_with (go_at_call 104; (with_reducible refine hlv.mono ?_); rintro e w2 ⟨rfl, hb2⟩)
    have hKd := (hK.below hb2).drew
    obtain ⟨b0, b1⟩ := row2_cells hKd.res
    have x0 := (row2_cells hKd.head).2
    have x3 := hKd.core.atV hsn
    have hbt := hKd.core.bts hsn
    refine still_tail2 8 (by kernel_rfl) (by kernel_rfl) ?_
    simp only [List.take_succ_cons, List.take_zero, List.drop_succ_cons, List.drop_zero]
    repeat still_step
    refine wpStill_nil ?_
    go_wp2_with (at_builtin; refine wpList_app slU8 rfl _ _ rfl w2.heap.size none 0 0 [] rfl (World.ownsRow_nil _ _ _ _) _ _ _ (bys (L s)) rfl (by rw [bys_length, hbt.len]; omega) hbt.rd (bys_one _) (by omega) (Nat.le_refl _) ?_; intro A5 c5 w5 ho5 hg5 hA5; rw [Nat.zero_add, List.nil_append] at ho5; have hb5 : Below w2.drew.heap.size w2.drew w5 := (Below.refl _ _).grown hg5 (Nat.le_refl _) (by simp); rw [Nat.zero_add])
    exact bodyPost_ret (v := .tuple #[.slice A5 (V s).2.1 c5, .int .i64 0]) (by simp [results, Try.results50, go_sem]) rfl (by
      rw [HF.out.1, HF.out.2]
      have hbb : Below w.heap.size w w2.drew := (hb0.trans (hb2.mono hb0.size)).drew
      exact ⟨A5, _, c5, rfl, own_mono ho5 hbb.size, hbb.trans (hb5.mono hbb.size)⟩)
end Go.Proofs.Ytknlkmencdlpcaa
