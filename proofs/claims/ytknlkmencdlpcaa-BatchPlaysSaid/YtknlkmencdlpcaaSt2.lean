/-
The walks of package store.
-/
import Derived.Test.YtknlkmencdlpcaaSt1
namespace Go.Proofs.Ytknlkmencdlpcaa
set_option linter.unusedVariables false
set_option linter.unusedSimpArgs false
open Go Go.RowKit

/-- At P lies a store; all that is its own is at the blocks F. -/
def Sto (w : World) (base : Nat) (F : Nat → Prop) (P n : Nat) (S : List Slo) (L : Nat → List UInt8) : Prop :=
  ∃ p q c g d V, Core 190 [] w base F p q n c g d S V L ∧ F P ∧ w.heap[P]? = some (.cells #[.pointer (some ⟨p, 0, none⟩), .slice (some ⟨g, 0, none⟩) n d] 148 (0, 0))
section
variable {w w' : World} {base : Nat} {F X : Nat → Prop} {P n : Nat} {S : List Slo} {L : Nat → List UInt8}
theorem Sto.wen (h : Sto w base F P n S L) (hw : Wen w w' X) (hx : ∀ k, F k → ¬ X k) : Sto w' base F P n S L := by
  obtain ⟨p, q, c, g, d, V, hC, hF, hP⟩ := h
  exact ⟨p, q, c, g, d, V, hC.wen hw hx, hF, (hw.block P (block_lt hP) (hx _ hF)).trans hP⟩
theorem Sto.below (h : Sto w base F P n S L) (hw : Below w.heap.size w w') : Sto w' base F P n S L :=
  h.wen (Wen.of_below hw (fun _ => False)) (fun _ _ hf => hf)
theorem Sto.lt (h : Sto w base F P n S L) : ∀ k, F k → base ≤ k ∧ k < w.heap.size := by
  obtain ⟨p, q, c, g, d, V, hC, hF, hP⟩ := h
  exact hC.lt
theorem Sto.len (h : Sto w base F P n S L) : S.length = n := by
  obtain ⟨p, q, c, g, d, V, hC, hF, hP⟩ := h
  exact hC.ar.len
end
theorem arena_any {P p : Nat} {x : Value} {w : World} (h : w.heap[P]? = some (.cells #[.pointer (some ⟨p, 0, none⟩), x] 148 (0, 0))) :
    Calls Try.prog 99 #[.pointer (some ⟨P, 0, none⟩)] w fun e w' => e = .returned (.pointer (some ⟨p, 0, none⟩)) ∧ w = w' := by
  have hq := fun wx => eql_nil 63 ⟨P, 0, none⟩ (by kernel_rfl) wx
  have h0 := (row2_cells h).1
  go_enter Try.func99, Try.ntmps99
  go_wp2
  go_ret
  exact ⟨rfl, rfl⟩
theorem sfree_any {w : World} {base : Nat} {F : Nat → Prop} {P n : Nat} {S : List Slo} {L : Nat → List UInt8} (h : Sto w base F P n S L) :
    Calls Try.prog 53 #[.pointer (some ⟨P, 0, none⟩)] w fun e w' => e = .returned (.int .i64 (freeS S)) ∧ Below w.heap.size w w' := by
  obtain ⟨p, q, c, g, d, V, hC, hF, hP⟩ := h
  go_enter Try.func53, Try.ntmps53
  go_wp2_with (first
    | (go_at_call 99; (with_reducible refine (arena_any hP).mono ?_); rintro e w1 ⟨rfl, rfl⟩)
    | (go_at_call 98; (with_reducible refine (free_any hC.ar).mono ?_); rintro e w2 ⟨rfl, hb⟩))
  go_ret
  exact ⟨rfl, hb⟩
theorem sslots_any {w : World} {base : Nat} {F : Nat → Prop} {P n : Nat} {S : List Slo} {L : Nat → List UInt8} (h : Sto w base F P n S L) :
    Calls Try.prog 56 #[.pointer (some ⟨P, 0, none⟩)] w fun e w' => ∃ g c', e = .returned (.slice (some ⟨g, 0, none⟩) n c') ∧
      w'.ownsRow w.heap.size 150 2 (.slice (some ⟨g, 0, none⟩) n c') n (rowS S) ∧ Below w.heap.size w w' := by
  obtain ⟨p, q, c, g, d, V, hC, hF, hP⟩ := h
  go_enter Try.func56, Try.ntmps56
  go_wp2_with (first
    | (go_at_call 99; (with_reducible refine (arena_any hP).mono ?_); rintro e w1 ⟨rfl, rfl⟩)
    | (go_at_call 107; (with_reducible refine (slots_any hC.ar).mono ?_); rintro e w2 ⟨g2, c2, rfl, ho, hb⟩))
  go_ret
  exact ⟨g2, c2, rfl, ho, hb⟩
set_option maxRecDepth 20000 in
set_option maxHeartbeats 1000000 in
set_option maxRecDepth 20000 in
set_option maxHeartbeats 1000000 in
set_option maxRecDepth 20000 in
set_option maxHeartbeats 1000000 in
set_option maxRecDepth 20000 in
set_option maxHeartbeats 1000000 in
set_option maxRecDepth 20000 in
set_option maxHeartbeats 1000000 in
theorem srefs_any {w : World} {base : Nat} {F : Nat → Prop} {P n : Nat} {S : List Slo} {L : Nat → List UInt8} (h : Sto w base F P n S L) (i gn : Int) :
    Calls Try.prog 51 #[.pointer (some ⟨P, 0, none⟩), .agg #[.int .i64 i, .int .u32 gn]] w fun e w' => e = .returned (.int .i64 (refsS S i gn)) ∧ Below w.heap.size w w' := by
  obtain ⟨p, q, c, g, d, V, hC, hF, hP⟩ := h
  have hK := Kp.start hC hP (by decide) hF (Wen.of_below ((Below.refl w.heap.size w).alloc (Nat.le_refl _) (hdl i gn)) _) (hdl_new w i gn)
  obtain ⟨a0, a1⟩ := row2_cells hK.drew.res
  go_enter Try.func51, Try.ntmps51
  go_wp2_with fail
  have hKd := hK.drew
  refine region_plan (calmB_sound _) (.fork [0] (.leaf [2, 1, 3, 4]) (.leaf [1, 2, 3, 4])) (by kernel_rfl) (by kernel_rfl) (by kernel_rfl) ?_
  refine wpPlan_fork fun PL0 hPL0 => ?_
  simp only [List.filterMap_cons, List.filterMap_nil, List.getElem?_toArray, List.getElem?_cons_succ, List.getElem?_cons_zero]
  change wpList _ _ _ [_] _ _
  go_wp2_with (first | (go_at_call 99; (with_reducible refine (arena_any hKd.head).mono ?_); rintro e w1 ⟨rfl, rfl⟩) | (go_at_call 106; (with_reducible refine (refs_any hKd.core.ar i gn).mono ?_); rintro e w2 ⟨rfl, hb⟩))
  refine hPL0 _ _ ?_ ?_
  · refine wpPlan_leaf fun PL1 hPL1 => ?_
    simp only [List.filterMap_cons, List.filterMap_nil, List.getElem?_toArray, List.getElem?_cons_succ, List.getElem?_cons_zero]
    change wpList _ _ _ [_, _, _, _] _ _
    go_wp2_with (first | (go_at_call 99; (with_reducible refine (arena_any hKd.head).mono ?_); rintro e w1 ⟨rfl, rfl⟩) | (go_at_call 106; (with_reducible refine (refs_any hKd.core.ar i gn).mono ?_); rintro e w2 ⟨rfl, hb⟩))
    go_ret
    exact ⟨rfl, ((Below.refl w.heap.size w).alloc (Nat.le_refl _) (hdl i gn)).drew.trans (hb.mono (by have := hKd.size; omega))⟩
  · refine wpPlan_leaf fun PL1 hPL1 => ?_
    simp only [List.filterMap_cons, List.filterMap_nil, List.getElem?_toArray, List.getElem?_cons_succ, List.getElem?_cons_zero]
    change wpList _ _ _ [_, _, _, _] _ _
    go_wp2_with (first | (go_at_call 99; (with_reducible refine (arena_any hKd.head).mono ?_); rintro e w1 ⟨rfl, rfl⟩) | (go_at_call 106; (with_reducible refine (refs_any hKd.core.ar i gn).mono ?_); rintro e w2 ⟨rfl, hb⟩))
    go_ret
    exact ⟨rfl, ((Below.refl w.heap.size w).alloc (Nat.le_refl _) (hdl i gn)).drew.trans (hb.mono (by have := hKd.size; omega))⟩
set_option maxRecDepth 20000 in
set_option maxHeartbeats 1000000 in
theorem skeep_any {w : World} {base : Nat} {F : Nat → Prop} {P n : Nat} {S : List Slo} {L : Nat → List UInt8} (h : Sto w base F P n S L) (i gn : Int) (hbig : ∀ s ∈ S, s.2 < 9223372036854775807) :
    Calls Try.prog 43 #[.pointer (some ⟨P, 0, none⟩), .agg #[.int .i64 i, .int .u32 gn]] w fun e w' => e = .returned (.int .i64 (staleS S i gn)) ∧ Sto w' base F P n (keepS S i gn) L ∧ Wen w w' F := by
  obtain ⟨p, q, c, g, d, V, hC, hF, hP⟩ := h
  have hK := Kp.start hC hP (by decide) hF (Wen.of_below ((Below.refl w.heap.size w).alloc (Nat.le_refl _) (hdl i gn)) _) (hdl_new w i gn)
  obtain ⟨a0, a1⟩ := row2_cells hK.drew.res
  go_enter Try.func43, Try.ntmps43
  go_wp2_with fail
  have hKd := hK.drew
  refine region_plan (calmB_sound _) (.fork [0] (.leaf [2, 1, 3, 4]) (.leaf [1, 2, 3, 4])) (by kernel_rfl) (by kernel_rfl) (by kernel_rfl) ?_
  refine wpPlan_fork fun PL0 hPL0 => ?_
  simp only [List.filterMap_cons, List.filterMap_nil, List.getElem?_toArray, List.getElem?_cons_succ, List.getElem?_cons_zero]
  change wpList _ _ _ [_] _ _
  go_wp2_with (first | (go_at_call 99; (with_reducible refine (arena_any hKd.head).mono ?_); rintro e w1 ⟨rfl, rfl⟩) | (go_at_call 103; (with_reducible refine (keep_any hKd.core.ar i gn hbig).mono ?_); rintro e w2 ⟨rfl, hA2, hg2⟩))
  refine hPL0 _ _ ?_ ?_
  · refine wpPlan_leaf fun PL1 hPL1 => ?_
    simp only [List.filterMap_cons, List.filterMap_nil, List.getElem?_toArray, List.getElem?_cons_succ, List.getElem?_cons_zero]
    change wpList _ _ _ [_, _, _, _] _ _
    go_wp2_with (first | (go_at_call 99; (with_reducible refine (arena_any hKd.head).mono ?_); rintro e w1 ⟨rfl, rfl⟩) | (go_at_call 103; (with_reducible refine (keep_any hKd.core.ar i gn hbig).mono ?_); rintro e w2 ⟨rfl, hA2, hg2⟩))
    go_ret
    exact ⟨rfl, have hk := hKd.take hKd.pq hA2 hg2; ⟨⟨p, q, c, g, d, V, hk.core, hF, hk.head⟩, hk.wen⟩⟩
  · refine wpPlan_leaf fun PL1 hPL1 => ?_
    simp only [List.filterMap_cons, List.filterMap_nil, List.getElem?_toArray, List.getElem?_cons_succ, List.getElem?_cons_zero]
    change wpList _ _ _ [_, _, _, _] _ _
    go_wp2_with (first | (go_at_call 99; (with_reducible refine (arena_any hKd.head).mono ?_); rintro e w1 ⟨rfl, rfl⟩) | (go_at_call 103; (with_reducible refine (keep_any hKd.core.ar i gn hbig).mono ?_); rintro e w2 ⟨rfl, hA2, hg2⟩))
    go_ret
    exact ⟨rfl, have hk := hKd.take hKd.pq hA2 hg2; ⟨⟨p, q, c, g, d, V, hk.core, hF, hk.head⟩, hk.wen⟩⟩
set_option maxRecDepth 20000 in
set_option maxHeartbeats 1000000 in
theorem sdrop_any {w : World} {base : Nat} {F : Nat → Prop} {P n : Nat} {S : List Slo} {L : Nat → List UInt8} (h : Sto w base F P n S L) (i gn : Int) (hbig : ∀ s ∈ S, s.2 < 9223372036854775807) :
    Calls Try.prog 45 #[.pointer (some ⟨P, 0, none⟩), .agg #[.int .i64 i, .int .u32 gn]] w fun e w' => e = .returned (.int .i64 (staleS S i gn)) ∧ Sto w' base F P n (dropS S i gn) L ∧ Wen w w' F := by
  obtain ⟨p, q, c, g, d, V, hC, hF, hP⟩ := h
  have hK := Kp.start hC hP (by decide) hF (Wen.of_below ((Below.refl w.heap.size w).alloc (Nat.le_refl _) (hdl i gn)) _) (hdl_new w i gn)
  obtain ⟨a0, a1⟩ := row2_cells hK.drew.res
  go_enter Try.func45, Try.ntmps45
  go_wp2_with fail
  have hKd := hK.drew
  refine region_plan (calmB_sound _) (.fork [0] (.leaf [2, 1, 3, 4]) (.leaf [1, 2, 3, 4])) (by kernel_rfl) (by kernel_rfl) (by kernel_rfl) ?_
  refine wpPlan_fork fun PL0 hPL0 => ?_
  simp only [List.filterMap_cons, List.filterMap_nil, List.getElem?_toArray, List.getElem?_cons_succ, List.getElem?_cons_zero]
  change wpList _ _ _ [_] _ _
  go_wp2_with (first | (go_at_call 99; (with_reducible refine (arena_any hKd.head).mono ?_); rintro e w1 ⟨rfl, rfl⟩) | (go_at_call 105; (with_reducible refine (drop_any hKd.core.ar i gn hbig).mono ?_); rintro e w2 ⟨rfl, hA2, hg2⟩))
  refine hPL0 _ _ ?_ ?_
  · refine wpPlan_leaf fun PL1 hPL1 => ?_
    simp only [List.filterMap_cons, List.filterMap_nil, List.getElem?_toArray, List.getElem?_cons_succ, List.getElem?_cons_zero]
    change wpList _ _ _ [_, _, _, _] _ _
    go_wp2_with (first | (go_at_call 99; (with_reducible refine (arena_any hKd.head).mono ?_); rintro e w1 ⟨rfl, rfl⟩) | (go_at_call 105; (with_reducible refine (drop_any hKd.core.ar i gn hbig).mono ?_); rintro e w2 ⟨rfl, hA2, hg2⟩))
    go_ret
    exact ⟨rfl, have hk := hKd.take hKd.pq hA2 hg2; ⟨⟨p, q, c, g, d, V, hk.core, hF, hk.head⟩, hk.wen⟩⟩
  · refine wpPlan_leaf fun PL1 hPL1 => ?_
    simp only [List.filterMap_cons, List.filterMap_nil, List.getElem?_toArray, List.getElem?_cons_succ, List.getElem?_cons_zero]
    change wpList _ _ _ [_, _, _, _] _ _
    go_wp2_with (first | (go_at_call 99; (with_reducible refine (arena_any hKd.head).mono ?_); rintro e w1 ⟨rfl, rfl⟩) | (go_at_call 105; (with_reducible refine (drop_any hKd.core.ar i gn hbig).mono ?_); rintro e w2 ⟨rfl, hA2, hg2⟩))
    go_ret
    exact ⟨rfl, have hk := hKd.take hKd.pq hA2 hg2; ⟨⟨p, q, c, g, d, V, hk.core, hF, hk.head⟩, hk.wen⟩⟩
set_option maxRecDepth 20000 in
set_option maxHeartbeats 2000000 in
theorem sput_any {w : World} {base : Nat} {F : Nat → Prop} {P n : Nat} {S : List Slo} {L : Nat → List UInt8} (h : Sto w base F P n S L) (A : Option Addr) (m k : Nat) (l : List UInt8) (hb : Bts w A m k l) (hnil : A = none → m = 0 ∧ k = 0) (hout : 0 < m → ∀ b, A.map Addr.block = some b → ¬ F b) :
    Calls Try.prog 41 #[.pointer (some ⟨P, 0, none⟩), .slice A m k] w fun e w' => e = .returned (.tuple #[.agg #[.int .i64 (putSlot S l), .int .u32 (putGen S l)], .int .i64 (putErr S l)]) ∧
      (∃ F', Sto w' base F' P n (putS S l) (stoL S L l) ∧ Grw F F' w.heap.size) ∧ Wen w w' F := by
  have hml := hb.len
  have hlt := h.lt
  have hbA := (Below.refl w.heap.size w).alloc (Nat.le_refl _) (hdl 0 0)
  obtain ⟨p, q, c, g, d, V, hC, hF, hP⟩ := h
  have hK := Kp.start hC hP (by decide) hF (Wen.of_below hbA _) (hdl_new w 0 0)
  have hlen := hC.ar.len
  have htop := hC.ar.top
  have htk := take_any hK.core.ar
  have hbase : base ≤ w.heap.size := Nat.le_of_lt (Nat.lt_of_le_of_lt (hlt P hF).1 (hlt P hF).2)
  have HB := Lib.hid hb
  clear hC hP hb hlt hbA
  by_cases hl : l.length ≤ 512
  · have e1 : decide ((512 : Int) < (m : Int)) = false := by simp; omega
    have hfin := put_small (S := S) (L := L) hl
    by_cases hz : takeErr S = 0
    · have hs := put_free hz
      have hz' : ((takeErr S : Int) == 0) = true := by simp; omega
      have hfinL := stoL_yes (S := S) (L := L) hl hz
      obtain ⟨s, es⟩ : ∃ s, takeSlot S = s := ⟨_, rfl⟩
      rw [es] at htk hs hfinL hfin
      have HF := Lib.hid (And.intro hfin hfinL)
      have hsn : s < n := by omega
      have hsc : n ≤ d := own_cap' hK.core.rw.own
      clear hz es hfin hfinL
      go_enter Try.func41, Try.ntmps41
      go_wp2_with (first
        | (go_at_call 99; (with_reducible refine (arena_any hK.head).mono ?_); rintro e w1 ⟨rfl, rfl⟩)
        | (go_at_call 100; (with_reducible refine htk.mono ?_); rintro e w2 ⟨rfl, hA2, hg2⟩; have hK2 := hK.take hK.pq hA2 hg2; have hs2 := hK2.size)
        | (refine wpList_store_blk rfl 69 (.tmp 6) (.tmp 16) rfl w2.heap.size _ #[.int .i64 s, .int .u32 (takeGen S)] _ rfl rfl (hdl_new w2 0 0) rfl (by kernel_rfl) (by simp [Value.oneCell']) ?_; intro w3 hi3 hg3; have hK3 := (hK2.alloc (hdl 0 0)).off hg3 hs2))
      have hKd := hK3.drew
      have x0 := (row2_cells hKd.head).2
      obtain ⟨x1, x2⟩ := row2_cells (show w3.drew.heap[w2.heap.size]? = some _ from hi3)
      refine region_plan (calmB_sound _) (.fork [0, 4, 6] (.fork [5] (.leaf [7, 1, 2, 3, 8, 9]) (.fork [1, 2] (.leaf [7, 3, 8, 9]) (.leaf [3, 7, 8, 9]))) (.fork [] (.fork [7] (.leaf [5, 1, 2, 3, 8, 9]) (.leaf [1, 2, 3, 5, 8, 9])) (.fork [1, 2] (.fork [5] (.leaf [7, 3, 8, 9]) (.leaf [3, 7, 8, 9])) (.fork [] (.leaf [7, 3, 5, 8, 9]) (.fork [3] (.leaf [7, 5, 8, 9]) (.leaf [5, 7, 8, 9])))))) (by kernel_rfl) (by kernel_rfl) (by kernel_rfl) ?_
      refine wpPlan_fork fun PL0 hPL0 => ?_
      simp only [List.filterMap_cons, List.filterMap_nil, List.getElem?_toArray, List.getElem?_cons_succ, List.getElem?_cons_zero]
      change wpList _ _ _ [_, _, _] _ _
      go_wp2_with (first | (go_at_call 101; (with_reducible refine (cloneB_any A m k l _ hml (by omega) hnil (HB.out.wen hKd.wen hout).rd).mono ?_); rintro e w5 ⟨A5, c5, rfl, ho5, hb5⟩; have hK5 := hKd.below hb5; have hi5 := (hb5.block _ (block_lt hi3)).trans hi3; have x0 := (row2_cells hK5.head).2; obtain ⟨x1, x2⟩ := row2_cells hi5; have x3 := hK5.core.atV hsn; have x4 := hK5.core.rw.own.frozenAt s; have hnew : ∀ b, A5.map Addr.block = some b → w.heap.size < b := (fun b hb => by have h1 := own_from ho5 b hb; have h2 := hK3.size; simp at h1; omega); obtain ⟨_, _, y2, _, y4⟩ := hK5.put hsn (own_mono ho5 (by have := (hK3.lt0 _ hK3.inP); have := hK3.size; simp; omega)) hnew hl; obtain ⟨z0, z1⟩ := row2_cells ((y4.block _ (block_lt hi5) (fun e => by injection e with e; have := hK5.lt0 _ hK5.core.ing; omega)).trans hi5)) | (refine wpList_store_blk rfl 69 (.tmp 4) (.tmp 29) rfl w.heap.size _ #[.int .i64 s, .int .u32 (takeGen S)] _ rfl rfl y2 rfl (by kernel_rfl) (by simp [Value.oneCell']) ?_; intro w7 hi7 hg7; obtain ⟨u0, u1⟩ := row2_cells hi7))
      refine hPL0 _ _ ?_ ?_
      · refine wpPlan_fork fun PL1 hPL1 => ?_
        simp only [List.filterMap_cons, List.filterMap_nil, List.getElem?_toArray, List.getElem?_cons_succ, List.getElem?_cons_zero]
        change wpList _ _ _ [_] _ _
        go_wp2_with (first | (go_at_call 101; (with_reducible refine (cloneB_any A m k l _ hml (by omega) hnil (HB.out.wen hKd.wen hout).rd).mono ?_); rintro e w5 ⟨A5, c5, rfl, ho5, hb5⟩; have hK5 := hKd.below hb5; have hi5 := (hb5.block _ (block_lt hi3)).trans hi3; have x0 := (row2_cells hK5.head).2; obtain ⟨x1, x2⟩ := row2_cells hi5; have x3 := hK5.core.atV hsn; have x4 := hK5.core.rw.own.frozenAt s; have hnew : ∀ b, A5.map Addr.block = some b → w.heap.size < b := (fun b hb => by have h1 := own_from ho5 b hb; have h2 := hK3.size; simp at h1; omega); obtain ⟨_, _, y2, _, y4⟩ := hK5.put hsn (own_mono ho5 (by have := (hK3.lt0 _ hK3.inP); have := hK3.size; simp; omega)) hnew hl; obtain ⟨z0, z1⟩ := row2_cells ((y4.block _ (block_lt hi5) (fun e => by injection e with e; have := hK5.lt0 _ hK5.core.ing; omega)).trans hi5)) | (refine wpList_store_blk rfl 69 (.tmp 4) (.tmp 29) rfl w.heap.size _ #[.int .i64 s, .int .u32 (takeGen S)] _ rfl rfl y2 rfl (by kernel_rfl) (by simp [Value.oneCell']) ?_; intro w7 hi7 hg7; obtain ⟨u0, u1⟩ := row2_cells hi7))
        refine hPL1 _ _ ?_ ?_
        · refine wpPlan_leaf fun PL2 hPL2 => ?_
          simp only [List.filterMap_cons, List.filterMap_nil, List.getElem?_toArray, List.getElem?_cons_succ, List.getElem?_cons_zero]
          change wpList _ _ _ [_, _, _, _, _, _] _ _
          go_wp2_with (first | (go_at_call 101; (with_reducible refine (cloneB_any A m k l _ hml (by omega) hnil (HB.out.wen hKd.wen hout).rd).mono ?_); rintro e w5 ⟨A5, c5, rfl, ho5, hb5⟩; have hK5 := hKd.below hb5; have hi5 := (hb5.block _ (block_lt hi3)).trans hi3; have x0 := (row2_cells hK5.head).2; obtain ⟨x1, x2⟩ := row2_cells hi5; have x3 := hK5.core.atV hsn; have x4 := hK5.core.rw.own.frozenAt s; have hnew : ∀ b, A5.map Addr.block = some b → w.heap.size < b := (fun b hb => by have h1 := own_from ho5 b hb; have h2 := hK3.size; simp at h1; omega); obtain ⟨_, _, y2, _, y4⟩ := hK5.put hsn (own_mono ho5 (by have := (hK3.lt0 _ hK3.inP); have := hK3.size; simp; omega)) hnew hl; obtain ⟨z0, z1⟩ := row2_cells ((y4.block _ (block_lt hi5) (fun e => by injection e with e; have := hK5.lt0 _ hK5.core.ing; omega)).trans hi5)) | (refine wpList_store_blk rfl 69 (.tmp 4) (.tmp 29) rfl w.heap.size _ #[.int .i64 s, .int .u32 (takeGen S)] _ rfl rfl y2 rfl (by kernel_rfl) (by simp [Value.oneCell']) ?_; intro w7 hi7 hg7; obtain ⟨u0, u1⟩ := row2_cells hi7))
          exact bodyPost_ret (v := .tuple #[.agg #[.int .i64 s, .int .u32 (takeGen S)], .int .i64 (takeErr S)]) (by simp [results, Try.results41, go_sem, u0, u1]) rfl (by
            obtain ⟨⟨F', V', h1, h2, h3, h4⟩, h5⟩ := hK5.putEnd hsn (own_mono ho5 (by have := hK3.size; simp; omega)) hnew hl hg7
            rw [HF.out.1.1, HF.out.1.2.1, HF.out.1.2.2.1, HF.out.1.2.2.2, HF.out.2]
            exact ⟨rfl, ⟨F', ⟨p, q, c, g, d, V', h1, h2, h3⟩, h4⟩, h5⟩)
        · refine wpPlan_fork fun PL2 hPL2 => ?_
          simp only [List.filterMap_cons, List.filterMap_nil, List.getElem?_toArray, List.getElem?_cons_succ, List.getElem?_cons_zero]
          change wpList _ _ _ [_, _] _ _
          go_wp2_with (first | (go_at_call 101; (with_reducible refine (cloneB_any A m k l _ hml (by omega) hnil (HB.out.wen hKd.wen hout).rd).mono ?_); rintro e w5 ⟨A5, c5, rfl, ho5, hb5⟩; have hK5 := hKd.below hb5; have hi5 := (hb5.block _ (block_lt hi3)).trans hi3; have x0 := (row2_cells hK5.head).2; obtain ⟨x1, x2⟩ := row2_cells hi5; have x3 := hK5.core.atV hsn; have x4 := hK5.core.rw.own.frozenAt s; have hnew : ∀ b, A5.map Addr.block = some b → w.heap.size < b := (fun b hb => by have h1 := own_from ho5 b hb; have h2 := hK3.size; simp at h1; omega); obtain ⟨_, _, y2, _, y4⟩ := hK5.put hsn (own_mono ho5 (by have := (hK3.lt0 _ hK3.inP); have := hK3.size; simp; omega)) hnew hl; obtain ⟨z0, z1⟩ := row2_cells ((y4.block _ (block_lt hi5) (fun e => by injection e with e; have := hK5.lt0 _ hK5.core.ing; omega)).trans hi5)) | (refine wpList_store_blk rfl 69 (.tmp 4) (.tmp 29) rfl w.heap.size _ #[.int .i64 s, .int .u32 (takeGen S)] _ rfl rfl y2 rfl (by kernel_rfl) (by simp [Value.oneCell']) ?_; intro w7 hi7 hg7; obtain ⟨u0, u1⟩ := row2_cells hi7))
          refine hPL2 _ _ ?_ ?_
          · refine wpPlan_leaf fun PL3 hPL3 => ?_
            simp only [List.filterMap_cons, List.filterMap_nil, List.getElem?_toArray, List.getElem?_cons_succ, List.getElem?_cons_zero]
            change wpList _ _ _ [_, _, _, _] _ _
            go_wp2_with (first | (go_at_call 101; (with_reducible refine (cloneB_any A m k l _ hml (by omega) hnil (HB.out.wen hKd.wen hout).rd).mono ?_); rintro e w5 ⟨A5, c5, rfl, ho5, hb5⟩; have hK5 := hKd.below hb5; have hi5 := (hb5.block _ (block_lt hi3)).trans hi3; have x0 := (row2_cells hK5.head).2; obtain ⟨x1, x2⟩ := row2_cells hi5; have x3 := hK5.core.atV hsn; have x4 := hK5.core.rw.own.frozenAt s; have hnew : ∀ b, A5.map Addr.block = some b → w.heap.size < b := (fun b hb => by have h1 := own_from ho5 b hb; have h2 := hK3.size; simp at h1; omega); obtain ⟨_, _, y2, _, y4⟩ := hK5.put hsn (own_mono ho5 (by have := (hK3.lt0 _ hK3.inP); have := hK3.size; simp; omega)) hnew hl; obtain ⟨z0, z1⟩ := row2_cells ((y4.block _ (block_lt hi5) (fun e => by injection e with e; have := hK5.lt0 _ hK5.core.ing; omega)).trans hi5)) | (refine wpList_store_blk rfl 69 (.tmp 4) (.tmp 29) rfl w.heap.size _ #[.int .i64 s, .int .u32 (takeGen S)] _ rfl rfl y2 rfl (by kernel_rfl) (by simp [Value.oneCell']) ?_; intro w7 hi7 hg7; obtain ⟨u0, u1⟩ := row2_cells hi7))
            exact bodyPost_ret (v := .tuple #[.agg #[.int .i64 s, .int .u32 (takeGen S)], .int .i64 (takeErr S)]) (by simp [results, Try.results41, go_sem, u0, u1]) rfl (by
              obtain ⟨⟨F', V', h1, h2, h3, h4⟩, h5⟩ := hK5.putEnd hsn (own_mono ho5 (by have := hK3.size; simp; omega)) hnew hl hg7
              rw [HF.out.1.1, HF.out.1.2.1, HF.out.1.2.2.1, HF.out.1.2.2.2, HF.out.2]
              exact ⟨rfl, ⟨F', ⟨p, q, c, g, d, V', h1, h2, h3⟩, h4⟩, h5⟩)
          · refine wpPlan_leaf fun PL3 hPL3 => ?_
            simp only [List.filterMap_cons, List.filterMap_nil, List.getElem?_toArray, List.getElem?_cons_succ, List.getElem?_cons_zero]
            change wpList _ _ _ [_, _, _, _] _ _
            go_wp2_with (first | (go_at_call 101; (with_reducible refine (cloneB_any A m k l _ hml (by omega) hnil (HB.out.wen hKd.wen hout).rd).mono ?_); rintro e w5 ⟨A5, c5, rfl, ho5, hb5⟩; have hK5 := hKd.below hb5; have hi5 := (hb5.block _ (block_lt hi3)).trans hi3; have x0 := (row2_cells hK5.head).2; obtain ⟨x1, x2⟩ := row2_cells hi5; have x3 := hK5.core.atV hsn; have x4 := hK5.core.rw.own.frozenAt s; have hnew : ∀ b, A5.map Addr.block = some b → w.heap.size < b := (fun b hb => by have h1 := own_from ho5 b hb; have h2 := hK3.size; simp at h1; omega); obtain ⟨_, _, y2, _, y4⟩ := hK5.put hsn (own_mono ho5 (by have := (hK3.lt0 _ hK3.inP); have := hK3.size; simp; omega)) hnew hl; obtain ⟨z0, z1⟩ := row2_cells ((y4.block _ (block_lt hi5) (fun e => by injection e with e; have := hK5.lt0 _ hK5.core.ing; omega)).trans hi5)) | (refine wpList_store_blk rfl 69 (.tmp 4) (.tmp 29) rfl w.heap.size _ #[.int .i64 s, .int .u32 (takeGen S)] _ rfl rfl y2 rfl (by kernel_rfl) (by simp [Value.oneCell']) ?_; intro w7 hi7 hg7; obtain ⟨u0, u1⟩ := row2_cells hi7))
            exact bodyPost_ret (v := .tuple #[.agg #[.int .i64 s, .int .u32 (takeGen S)], .int .i64 (takeErr S)]) (by simp [results, Try.results41, go_sem, u0, u1]) rfl (by
              obtain ⟨⟨F', V', h1, h2, h3, h4⟩, h5⟩ := hK5.putEnd hsn (own_mono ho5 (by have := hK3.size; simp; omega)) hnew hl hg7
              rw [HF.out.1.1, HF.out.1.2.1, HF.out.1.2.2.1, HF.out.1.2.2.2, HF.out.2]
              exact ⟨rfl, ⟨F', ⟨p, q, c, g, d, V', h1, h2, h3⟩, h4⟩, h5⟩)
      · refine wpPlan_fork fun PL1 hPL1 => ?_
        simp only [List.filterMap_cons, List.filterMap_nil, List.getElem?_toArray, List.getElem?_cons_succ, List.getElem?_cons_zero]
        go_wp2_with (first | (go_at_call 101; (with_reducible refine (cloneB_any A m k l _ hml (by omega) hnil (HB.out.wen hKd.wen hout).rd).mono ?_); rintro e w5 ⟨A5, c5, rfl, ho5, hb5⟩; have hK5 := hKd.below hb5; have hi5 := (hb5.block _ (block_lt hi3)).trans hi3; have x0 := (row2_cells hK5.head).2; obtain ⟨x1, x2⟩ := row2_cells hi5; have x3 := hK5.core.atV hsn; have x4 := hK5.core.rw.own.frozenAt s; have hnew : ∀ b, A5.map Addr.block = some b → w.heap.size < b := (fun b hb => by have h1 := own_from ho5 b hb; have h2 := hK3.size; simp at h1; omega); obtain ⟨_, _, y2, _, y4⟩ := hK5.put hsn (own_mono ho5 (by have := (hK3.lt0 _ hK3.inP); have := hK3.size; simp; omega)) hnew hl; obtain ⟨z0, z1⟩ := row2_cells ((y4.block _ (block_lt hi5) (fun e => by injection e with e; have := hK5.lt0 _ hK5.core.ing; omega)).trans hi5)) | (refine wpList_store_blk rfl 69 (.tmp 4) (.tmp 29) rfl w.heap.size _ #[.int .i64 s, .int .u32 (takeGen S)] _ rfl rfl y2 rfl (by kernel_rfl) (by simp [Value.oneCell']) ?_; intro w7 hi7 hg7; obtain ⟨u0, u1⟩ := row2_cells hi7))
        refine hPL1 _ _ ?_ ?_
        · refine wpPlan_fork fun PL2 hPL2 => ?_
          simp only [List.filterMap_cons, List.filterMap_nil, List.getElem?_toArray, List.getElem?_cons_succ, List.getElem?_cons_zero]
          change wpList _ _ _ [_] _ _
          go_wp2_with (first | (go_at_call 101; (with_reducible refine (cloneB_any A m k l _ hml (by omega) hnil (HB.out.wen hKd.wen hout).rd).mono ?_); rintro e w5 ⟨A5, c5, rfl, ho5, hb5⟩; have hK5 := hKd.below hb5; have hi5 := (hb5.block _ (block_lt hi3)).trans hi3; have x0 := (row2_cells hK5.head).2; obtain ⟨x1, x2⟩ := row2_cells hi5; have x3 := hK5.core.atV hsn; have x4 := hK5.core.rw.own.frozenAt s; have hnew : ∀ b, A5.map Addr.block = some b → w.heap.size < b := (fun b hb => by have h1 := own_from ho5 b hb; have h2 := hK3.size; simp at h1; omega); obtain ⟨_, _, y2, _, y4⟩ := hK5.put hsn (own_mono ho5 (by have := (hK3.lt0 _ hK3.inP); have := hK3.size; simp; omega)) hnew hl; obtain ⟨z0, z1⟩ := row2_cells ((y4.block _ (block_lt hi5) (fun e => by injection e with e; have := hK5.lt0 _ hK5.core.ing; omega)).trans hi5)) | (refine wpList_store_blk rfl 69 (.tmp 4) (.tmp 29) rfl w.heap.size _ #[.int .i64 s, .int .u32 (takeGen S)] _ rfl rfl y2 rfl (by kernel_rfl) (by simp [Value.oneCell']) ?_; intro w7 hi7 hg7; obtain ⟨u0, u1⟩ := row2_cells hi7))
          refine hPL2 _ _ ?_ ?_
          · refine wpPlan_leaf fun PL3 hPL3 => ?_
            simp only [List.filterMap_cons, List.filterMap_nil, List.getElem?_toArray, List.getElem?_cons_succ, List.getElem?_cons_zero]
            change wpList _ _ _ [_, _, _, _, _, _] _ _
            go_wp2_with (first | (go_at_call 101; (with_reducible refine (cloneB_any A m k l _ hml (by omega) hnil (HB.out.wen hKd.wen hout).rd).mono ?_); rintro e w5 ⟨A5, c5, rfl, ho5, hb5⟩; have hK5 := hKd.below hb5; have hi5 := (hb5.block _ (block_lt hi3)).trans hi3; have x0 := (row2_cells hK5.head).2; obtain ⟨x1, x2⟩ := row2_cells hi5; have x3 := hK5.core.atV hsn; have x4 := hK5.core.rw.own.frozenAt s; have hnew : ∀ b, A5.map Addr.block = some b → w.heap.size < b := (fun b hb => by have h1 := own_from ho5 b hb; have h2 := hK3.size; simp at h1; omega); obtain ⟨_, _, y2, _, y4⟩ := hK5.put hsn (own_mono ho5 (by have := (hK3.lt0 _ hK3.inP); have := hK3.size; simp; omega)) hnew hl; obtain ⟨z0, z1⟩ := row2_cells ((y4.block _ (block_lt hi5) (fun e => by injection e with e; have := hK5.lt0 _ hK5.core.ing; omega)).trans hi5)) | (refine wpList_store_blk rfl 69 (.tmp 4) (.tmp 29) rfl w.heap.size _ #[.int .i64 s, .int .u32 (takeGen S)] _ rfl rfl y2 rfl (by kernel_rfl) (by simp [Value.oneCell']) ?_; intro w7 hi7 hg7; obtain ⟨u0, u1⟩ := row2_cells hi7))
            exact bodyPost_ret (v := .tuple #[.agg #[.int .i64 s, .int .u32 (takeGen S)], .int .i64 (takeErr S)]) (by simp [results, Try.results41, go_sem, u0, u1]) rfl (by
              obtain ⟨⟨F', V', h1, h2, h3, h4⟩, h5⟩ := hK5.putEnd hsn (own_mono ho5 (by have := hK3.size; simp; omega)) hnew hl hg7
              rw [HF.out.1.1, HF.out.1.2.1, HF.out.1.2.2.1, HF.out.1.2.2.2, HF.out.2]
              exact ⟨rfl, ⟨F', ⟨p, q, c, g, d, V', h1, h2, h3⟩, h4⟩, h5⟩)
          · refine wpPlan_leaf fun PL3 hPL3 => ?_
            simp only [List.filterMap_cons, List.filterMap_nil, List.getElem?_toArray, List.getElem?_cons_succ, List.getElem?_cons_zero]
            change wpList _ _ _ [_, _, _, _, _, _] _ _
            go_wp2_with (first | (go_at_call 101; (with_reducible refine (cloneB_any A m k l _ hml (by omega) hnil (HB.out.wen hKd.wen hout).rd).mono ?_); rintro e w5 ⟨A5, c5, rfl, ho5, hb5⟩; have hK5 := hKd.below hb5; have hi5 := (hb5.block _ (block_lt hi3)).trans hi3; have x0 := (row2_cells hK5.head).2; obtain ⟨x1, x2⟩ := row2_cells hi5; have x3 := hK5.core.atV hsn; have x4 := hK5.core.rw.own.frozenAt s; have hnew : ∀ b, A5.map Addr.block = some b → w.heap.size < b := (fun b hb => by have h1 := own_from ho5 b hb; have h2 := hK3.size; simp at h1; omega); obtain ⟨_, _, y2, _, y4⟩ := hK5.put hsn (own_mono ho5 (by have := (hK3.lt0 _ hK3.inP); have := hK3.size; simp; omega)) hnew hl; obtain ⟨z0, z1⟩ := row2_cells ((y4.block _ (block_lt hi5) (fun e => by injection e with e; have := hK5.lt0 _ hK5.core.ing; omega)).trans hi5)) | (refine wpList_store_blk rfl 69 (.tmp 4) (.tmp 29) rfl w.heap.size _ #[.int .i64 s, .int .u32 (takeGen S)] _ rfl rfl y2 rfl (by kernel_rfl) (by simp [Value.oneCell']) ?_; intro w7 hi7 hg7; obtain ⟨u0, u1⟩ := row2_cells hi7))
            exact bodyPost_ret (v := .tuple #[.agg #[.int .i64 s, .int .u32 (takeGen S)], .int .i64 (takeErr S)]) (by simp [results, Try.results41, go_sem, u0, u1]) rfl (by
              obtain ⟨⟨F', V', h1, h2, h3, h4⟩, h5⟩ := hK5.putEnd hsn (own_mono ho5 (by have := hK3.size; simp; omega)) hnew hl hg7
              rw [HF.out.1.1, HF.out.1.2.1, HF.out.1.2.2.1, HF.out.1.2.2.2, HF.out.2]
              exact ⟨rfl, ⟨F', ⟨p, q, c, g, d, V', h1, h2, h3⟩, h4⟩, h5⟩)
        · refine wpPlan_fork fun PL2 hPL2 => ?_
          simp only [List.filterMap_cons, List.filterMap_nil, List.getElem?_toArray, List.getElem?_cons_succ, List.getElem?_cons_zero]
          change wpList _ _ _ [_, _] _ _
          go_wp2_with (first | (go_at_call 101; (with_reducible refine (cloneB_any A m k l _ hml (by omega) hnil (HB.out.wen hKd.wen hout).rd).mono ?_); rintro e w5 ⟨A5, c5, rfl, ho5, hb5⟩; have hK5 := hKd.below hb5; have hi5 := (hb5.block _ (block_lt hi3)).trans hi3; have x0 := (row2_cells hK5.head).2; obtain ⟨x1, x2⟩ := row2_cells hi5; have x3 := hK5.core.atV hsn; have x4 := hK5.core.rw.own.frozenAt s; have hnew : ∀ b, A5.map Addr.block = some b → w.heap.size < b := (fun b hb => by have h1 := own_from ho5 b hb; have h2 := hK3.size; simp at h1; omega); obtain ⟨_, _, y2, _, y4⟩ := hK5.put hsn (own_mono ho5 (by have := (hK3.lt0 _ hK3.inP); have := hK3.size; simp; omega)) hnew hl; obtain ⟨z0, z1⟩ := row2_cells ((y4.block _ (block_lt hi5) (fun e => by injection e with e; have := hK5.lt0 _ hK5.core.ing; omega)).trans hi5)) | (refine wpList_store_blk rfl 69 (.tmp 4) (.tmp 29) rfl w.heap.size _ #[.int .i64 s, .int .u32 (takeGen S)] _ rfl rfl y2 rfl (by kernel_rfl) (by simp [Value.oneCell']) ?_; intro w7 hi7 hg7; obtain ⟨u0, u1⟩ := row2_cells hi7))
          refine hPL2 _ _ ?_ ?_
          · refine wpPlan_fork fun PL3 hPL3 => ?_
            simp only [List.filterMap_cons, List.filterMap_nil, List.getElem?_toArray, List.getElem?_cons_succ, List.getElem?_cons_zero]
            change wpList _ _ _ [_] _ _
            go_wp2_with (first | (go_at_call 101; (with_reducible refine (cloneB_any A m k l _ hml (by omega) hnil (HB.out.wen hKd.wen hout).rd).mono ?_); rintro e w5 ⟨A5, c5, rfl, ho5, hb5⟩; have hK5 := hKd.below hb5; have hi5 := (hb5.block _ (block_lt hi3)).trans hi3; have x0 := (row2_cells hK5.head).2; obtain ⟨x1, x2⟩ := row2_cells hi5; have x3 := hK5.core.atV hsn; have x4 := hK5.core.rw.own.frozenAt s; have hnew : ∀ b, A5.map Addr.block = some b → w.heap.size < b := (fun b hb => by have h1 := own_from ho5 b hb; have h2 := hK3.size; simp at h1; omega); obtain ⟨_, _, y2, _, y4⟩ := hK5.put hsn (own_mono ho5 (by have := (hK3.lt0 _ hK3.inP); have := hK3.size; simp; omega)) hnew hl; obtain ⟨z0, z1⟩ := row2_cells ((y4.block _ (block_lt hi5) (fun e => by injection e with e; have := hK5.lt0 _ hK5.core.ing; omega)).trans hi5)) | (refine wpList_store_blk rfl 69 (.tmp 4) (.tmp 29) rfl w.heap.size _ #[.int .i64 s, .int .u32 (takeGen S)] _ rfl rfl y2 rfl (by kernel_rfl) (by simp [Value.oneCell']) ?_; intro w7 hi7 hg7; obtain ⟨u0, u1⟩ := row2_cells hi7))
            refine hPL3 _ _ ?_ ?_
            · refine wpPlan_leaf fun PL4 hPL4 => ?_
              simp only [List.filterMap_cons, List.filterMap_nil, List.getElem?_toArray, List.getElem?_cons_succ, List.getElem?_cons_zero]
              change wpList _ _ _ [_, _, _, _] _ _
              go_wp2_with (first | (go_at_call 101; (with_reducible refine (cloneB_any A m k l _ hml (by omega) hnil (HB.out.wen hKd.wen hout).rd).mono ?_); rintro e w5 ⟨A5, c5, rfl, ho5, hb5⟩; have hK5 := hKd.below hb5; have hi5 := (hb5.block _ (block_lt hi3)).trans hi3; have x0 := (row2_cells hK5.head).2; obtain ⟨x1, x2⟩ := row2_cells hi5; have x3 := hK5.core.atV hsn; have x4 := hK5.core.rw.own.frozenAt s; have hnew : ∀ b, A5.map Addr.block = some b → w.heap.size < b := (fun b hb => by have h1 := own_from ho5 b hb; have h2 := hK3.size; simp at h1; omega); obtain ⟨_, _, y2, _, y4⟩ := hK5.put hsn (own_mono ho5 (by have := (hK3.lt0 _ hK3.inP); have := hK3.size; simp; omega)) hnew hl; obtain ⟨z0, z1⟩ := row2_cells ((y4.block _ (block_lt hi5) (fun e => by injection e with e; have := hK5.lt0 _ hK5.core.ing; omega)).trans hi5)) | (refine wpList_store_blk rfl 69 (.tmp 4) (.tmp 29) rfl w.heap.size _ #[.int .i64 s, .int .u32 (takeGen S)] _ rfl rfl y2 rfl (by kernel_rfl) (by simp [Value.oneCell']) ?_; intro w7 hi7 hg7; obtain ⟨u0, u1⟩ := row2_cells hi7))
              exact bodyPost_ret (v := .tuple #[.agg #[.int .i64 s, .int .u32 (takeGen S)], .int .i64 (takeErr S)]) (by simp [results, Try.results41, go_sem, u0, u1]) rfl (by
                obtain ⟨⟨F', V', h1, h2, h3, h4⟩, h5⟩ := hK5.putEnd hsn (own_mono ho5 (by have := hK3.size; simp; omega)) hnew hl hg7
                rw [HF.out.1.1, HF.out.1.2.1, HF.out.1.2.2.1, HF.out.1.2.2.2, HF.out.2]
                exact ⟨rfl, ⟨F', ⟨p, q, c, g, d, V', h1, h2, h3⟩, h4⟩, h5⟩)
            · refine wpPlan_leaf fun PL4 hPL4 => ?_
              simp only [List.filterMap_cons, List.filterMap_nil, List.getElem?_toArray, List.getElem?_cons_succ, List.getElem?_cons_zero]
              change wpList _ _ _ [_, _, _, _] _ _
              go_wp2_with (first | (go_at_call 101; (with_reducible refine (cloneB_any A m k l _ hml (by omega) hnil (HB.out.wen hKd.wen hout).rd).mono ?_); rintro e w5 ⟨A5, c5, rfl, ho5, hb5⟩; have hK5 := hKd.below hb5; have hi5 := (hb5.block _ (block_lt hi3)).trans hi3; have x0 := (row2_cells hK5.head).2; obtain ⟨x1, x2⟩ := row2_cells hi5; have x3 := hK5.core.atV hsn; have x4 := hK5.core.rw.own.frozenAt s; have hnew : ∀ b, A5.map Addr.block = some b → w.heap.size < b := (fun b hb => by have h1 := own_from ho5 b hb; have h2 := hK3.size; simp at h1; omega); obtain ⟨_, _, y2, _, y4⟩ := hK5.put hsn (own_mono ho5 (by have := (hK3.lt0 _ hK3.inP); have := hK3.size; simp; omega)) hnew hl; obtain ⟨z0, z1⟩ := row2_cells ((y4.block _ (block_lt hi5) (fun e => by injection e with e; have := hK5.lt0 _ hK5.core.ing; omega)).trans hi5)) | (refine wpList_store_blk rfl 69 (.tmp 4) (.tmp 29) rfl w.heap.size _ #[.int .i64 s, .int .u32 (takeGen S)] _ rfl rfl y2 rfl (by kernel_rfl) (by simp [Value.oneCell']) ?_; intro w7 hi7 hg7; obtain ⟨u0, u1⟩ := row2_cells hi7))
              exact bodyPost_ret (v := .tuple #[.agg #[.int .i64 s, .int .u32 (takeGen S)], .int .i64 (takeErr S)]) (by simp [results, Try.results41, go_sem, u0, u1]) rfl (by
                obtain ⟨⟨F', V', h1, h2, h3, h4⟩, h5⟩ := hK5.putEnd hsn (own_mono ho5 (by have := hK3.size; simp; omega)) hnew hl hg7
                rw [HF.out.1.1, HF.out.1.2.1, HF.out.1.2.2.1, HF.out.1.2.2.2, HF.out.2]
                exact ⟨rfl, ⟨F', ⟨p, q, c, g, d, V', h1, h2, h3⟩, h4⟩, h5⟩)
          · refine wpPlan_fork fun PL3 hPL3 => ?_
            simp only [List.filterMap_cons, List.filterMap_nil, List.getElem?_toArray, List.getElem?_cons_succ, List.getElem?_cons_zero]
            go_wp2_with (first | (go_at_call 101; (with_reducible refine (cloneB_any A m k l _ hml (by omega) hnil (HB.out.wen hKd.wen hout).rd).mono ?_); rintro e w5 ⟨A5, c5, rfl, ho5, hb5⟩; have hK5 := hKd.below hb5; have hi5 := (hb5.block _ (block_lt hi3)).trans hi3; have x0 := (row2_cells hK5.head).2; obtain ⟨x1, x2⟩ := row2_cells hi5; have x3 := hK5.core.atV hsn; have x4 := hK5.core.rw.own.frozenAt s; have hnew : ∀ b, A5.map Addr.block = some b → w.heap.size < b := (fun b hb => by have h1 := own_from ho5 b hb; have h2 := hK3.size; simp at h1; omega); obtain ⟨_, _, y2, _, y4⟩ := hK5.put hsn (own_mono ho5 (by have := (hK3.lt0 _ hK3.inP); have := hK3.size; simp; omega)) hnew hl; obtain ⟨z0, z1⟩ := row2_cells ((y4.block _ (block_lt hi5) (fun e => by injection e with e; have := hK5.lt0 _ hK5.core.ing; omega)).trans hi5)) | (refine wpList_store_blk rfl 69 (.tmp 4) (.tmp 29) rfl w.heap.size _ #[.int .i64 s, .int .u32 (takeGen S)] _ rfl rfl y2 rfl (by kernel_rfl) (by simp [Value.oneCell']) ?_; intro w7 hi7 hg7; obtain ⟨u0, u1⟩ := row2_cells hi7))
            refine hPL3 _ _ ?_ ?_
            · refine wpPlan_leaf fun PL4 hPL4 => ?_
              simp only [List.filterMap_cons, List.filterMap_nil, List.getElem?_toArray, List.getElem?_cons_succ, List.getElem?_cons_zero]
              change wpList _ _ _ [_, _, _, _, _] _ _
              go_wp2_with (first | (go_at_call 101; (with_reducible refine (cloneB_any A m k l _ hml (by omega) hnil (HB.out.wen hKd.wen hout).rd).mono ?_); rintro e w5 ⟨A5, c5, rfl, ho5, hb5⟩; have hK5 := hKd.below hb5; have hi5 := (hb5.block _ (block_lt hi3)).trans hi3; have x0 := (row2_cells hK5.head).2; obtain ⟨x1, x2⟩ := row2_cells hi5; have x3 := hK5.core.atV hsn; have x4 := hK5.core.rw.own.frozenAt s; have hnew : ∀ b, A5.map Addr.block = some b → w.heap.size < b := (fun b hb => by have h1 := own_from ho5 b hb; have h2 := hK3.size; simp at h1; omega); obtain ⟨_, _, y2, _, y4⟩ := hK5.put hsn (own_mono ho5 (by have := (hK3.lt0 _ hK3.inP); have := hK3.size; simp; omega)) hnew hl; obtain ⟨z0, z1⟩ := row2_cells ((y4.block _ (block_lt hi5) (fun e => by injection e with e; have := hK5.lt0 _ hK5.core.ing; omega)).trans hi5)) | (refine wpList_store_blk rfl 69 (.tmp 4) (.tmp 29) rfl w.heap.size _ #[.int .i64 s, .int .u32 (takeGen S)] _ rfl rfl y2 rfl (by kernel_rfl) (by simp [Value.oneCell']) ?_; intro w7 hi7 hg7; obtain ⟨u0, u1⟩ := row2_cells hi7))
              exact bodyPost_ret (v := .tuple #[.agg #[.int .i64 s, .int .u32 (takeGen S)], .int .i64 (takeErr S)]) (by simp [results, Try.results41, go_sem, u0, u1]) rfl (by
                obtain ⟨⟨F', V', h1, h2, h3, h4⟩, h5⟩ := hK5.putEnd hsn (own_mono ho5 (by have := hK3.size; simp; omega)) hnew hl hg7
                rw [HF.out.1.1, HF.out.1.2.1, HF.out.1.2.2.1, HF.out.1.2.2.2, HF.out.2]
                exact ⟨rfl, ⟨F', ⟨p, q, c, g, d, V', h1, h2, h3⟩, h4⟩, h5⟩)
            · refine wpPlan_fork fun PL4 hPL4 => ?_
              simp only [List.filterMap_cons, List.filterMap_nil, List.getElem?_toArray, List.getElem?_cons_succ, List.getElem?_cons_zero]
              change wpList _ _ _ [_] _ _
              go_wp2_with (first | (go_at_call 101; (with_reducible refine (cloneB_any A m k l _ hml (by omega) hnil (HB.out.wen hKd.wen hout).rd).mono ?_); rintro e w5 ⟨A5, c5, rfl, ho5, hb5⟩; have hK5 := hKd.below hb5; have hi5 := (hb5.block _ (block_lt hi3)).trans hi3; have x0 := (row2_cells hK5.head).2; obtain ⟨x1, x2⟩ := row2_cells hi5; have x3 := hK5.core.atV hsn; have x4 := hK5.core.rw.own.frozenAt s; have hnew : ∀ b, A5.map Addr.block = some b → w.heap.size < b := (fun b hb => by have h1 := own_from ho5 b hb; have h2 := hK3.size; simp at h1; omega); obtain ⟨_, _, y2, _, y4⟩ := hK5.put hsn (own_mono ho5 (by have := (hK3.lt0 _ hK3.inP); have := hK3.size; simp; omega)) hnew hl; obtain ⟨z0, z1⟩ := row2_cells ((y4.block _ (block_lt hi5) (fun e => by injection e with e; have := hK5.lt0 _ hK5.core.ing; omega)).trans hi5)) | (refine wpList_store_blk rfl 69 (.tmp 4) (.tmp 29) rfl w.heap.size _ #[.int .i64 s, .int .u32 (takeGen S)] _ rfl rfl y2 rfl (by kernel_rfl) (by simp [Value.oneCell']) ?_; intro w7 hi7 hg7; obtain ⟨u0, u1⟩ := row2_cells hi7))
              refine hPL4 _ _ ?_ ?_
              · refine wpPlan_leaf fun PL5 hPL5 => ?_
                simp only [List.filterMap_cons, List.filterMap_nil, List.getElem?_toArray, List.getElem?_cons_succ, List.getElem?_cons_zero]
                change wpList _ _ _ [_, _, _, _] _ _
                go_wp2_with (first | (go_at_call 101; (with_reducible refine (cloneB_any A m k l _ hml (by omega) hnil (HB.out.wen hKd.wen hout).rd).mono ?_); rintro e w5 ⟨A5, c5, rfl, ho5, hb5⟩; have hK5 := hKd.below hb5; have hi5 := (hb5.block _ (block_lt hi3)).trans hi3; have x0 := (row2_cells hK5.head).2; obtain ⟨x1, x2⟩ := row2_cells hi5; have x3 := hK5.core.atV hsn; have x4 := hK5.core.rw.own.frozenAt s; have hnew : ∀ b, A5.map Addr.block = some b → w.heap.size < b := (fun b hb => by have h1 := own_from ho5 b hb; have h2 := hK3.size; simp at h1; omega); obtain ⟨_, _, y2, _, y4⟩ := hK5.put hsn (own_mono ho5 (by have := (hK3.lt0 _ hK3.inP); have := hK3.size; simp; omega)) hnew hl; obtain ⟨z0, z1⟩ := row2_cells ((y4.block _ (block_lt hi5) (fun e => by injection e with e; have := hK5.lt0 _ hK5.core.ing; omega)).trans hi5)) | (refine wpList_store_blk rfl 69 (.tmp 4) (.tmp 29) rfl w.heap.size _ #[.int .i64 s, .int .u32 (takeGen S)] _ rfl rfl y2 rfl (by kernel_rfl) (by simp [Value.oneCell']) ?_; intro w7 hi7 hg7; obtain ⟨u0, u1⟩ := row2_cells hi7))
                exact bodyPost_ret (v := .tuple #[.agg #[.int .i64 s, .int .u32 (takeGen S)], .int .i64 (takeErr S)]) (by simp [results, Try.results41, go_sem, u0, u1]) rfl (by
                  obtain ⟨⟨F', V', h1, h2, h3, h4⟩, h5⟩ := hK5.putEnd hsn (own_mono ho5 (by have := hK3.size; simp; omega)) hnew hl hg7
                  rw [HF.out.1.1, HF.out.1.2.1, HF.out.1.2.2.1, HF.out.1.2.2.2, HF.out.2]
                  exact ⟨rfl, ⟨F', ⟨p, q, c, g, d, V', h1, h2, h3⟩, h4⟩, h5⟩)
              · refine wpPlan_leaf fun PL5 hPL5 => ?_
                simp only [List.filterMap_cons, List.filterMap_nil, List.getElem?_toArray, List.getElem?_cons_succ, List.getElem?_cons_zero]
                change wpList _ _ _ [_, _, _, _] _ _
                go_wp2_with (first | (go_at_call 101; (with_reducible refine (cloneB_any A m k l _ hml (by omega) hnil (HB.out.wen hKd.wen hout).rd).mono ?_); rintro e w5 ⟨A5, c5, rfl, ho5, hb5⟩; have hK5 := hKd.below hb5; have hi5 := (hb5.block _ (block_lt hi3)).trans hi3; have x0 := (row2_cells hK5.head).2; obtain ⟨x1, x2⟩ := row2_cells hi5; have x3 := hK5.core.atV hsn; have x4 := hK5.core.rw.own.frozenAt s; have hnew : ∀ b, A5.map Addr.block = some b → w.heap.size < b := (fun b hb => by have h1 := own_from ho5 b hb; have h2 := hK3.size; simp at h1; omega); obtain ⟨_, _, y2, _, y4⟩ := hK5.put hsn (own_mono ho5 (by have := (hK3.lt0 _ hK3.inP); have := hK3.size; simp; omega)) hnew hl; obtain ⟨z0, z1⟩ := row2_cells ((y4.block _ (block_lt hi5) (fun e => by injection e with e; have := hK5.lt0 _ hK5.core.ing; omega)).trans hi5)) | (refine wpList_store_blk rfl 69 (.tmp 4) (.tmp 29) rfl w.heap.size _ #[.int .i64 s, .int .u32 (takeGen S)] _ rfl rfl y2 rfl (by kernel_rfl) (by simp [Value.oneCell']) ?_; intro w7 hi7 hg7; obtain ⟨u0, u1⟩ := row2_cells hi7))
                exact bodyPost_ret (v := .tuple #[.agg #[.int .i64 s, .int .u32 (takeGen S)], .int .i64 (takeErr S)]) (by simp [results, Try.results41, go_sem, u0, u1]) rfl (by
                  obtain ⟨⟨F', V', h1, h2, h3, h4⟩, h5⟩ := hK5.putEnd hsn (own_mono ho5 (by have := hK3.size; simp; omega)) hnew hl hg7
                  rw [HF.out.1.1, HF.out.1.2.1, HF.out.1.2.2.1, HF.out.1.2.2.2, HF.out.2]
                  exact ⟨rfl, ⟨F', ⟨p, q, c, g, d, V', h1, h2, h3⟩, h4⟩, h5⟩)
    · have hz' : ((takeErr S : Int) == 0) = false := by simp; omega
      have hfinL := stoL_no (S := S) (L := L) (l := l) hz
      have HF := Lib.hid (And.intro hfin hfinL)
      clear hz hfin hfinL
      go_enter Try.func41, Try.ntmps41
      go_wp2_with (first
        | (go_at_call 99; (with_reducible refine (arena_any hK.head).mono ?_); rintro e w1 ⟨rfl, rfl⟩)
        | (go_at_call 100; (with_reducible refine htk.mono ?_); rintro e w2 ⟨rfl, hA2, hg2⟩; have hK2 := hK.take hK.pq hA2 hg2; have hs2 := hK2.size)
        | (refine wpList_store_blk rfl 69 (.tmp 6) (.tmp 16) rfl w2.heap.size _ #[.int .i64 (takeSlot S), .int .u32 (takeGen S)] _ rfl rfl (hdl_new w2 0 0) rfl (by kernel_rfl) (by simp [Value.oneCell']) ?_; intro w3 hi3 hg3; have hK3 := (hK2.alloc (hdl 0 0)).off hg3 hs2; obtain ⟨x1, x2⟩ := row2_cells hi3)
        | (refine wpList_store_blk rfl 69 (.tmp 4) (.tmp 29) rfl w.heap.size _ #[.int .i64 (takeSlot S), .int .u32 (takeGen S)] _ rfl rfl hK3.res rfl (by kernel_rfl) (by simp [Value.oneCell']) ?_; intro w7 hi7 hg7; obtain ⟨u0, u1⟩ := row2_cells hi7))
      exact bodyPost_ret (v := .tuple #[.agg #[.int .i64 (takeSlot S), .int .u32 (takeGen S)], .int .i64 (takeErr S)]) (by simp [results, Try.results41, go_sem, u0, u1]) rfl (by
        rw [HF.out.1.1, HF.out.1.2.1, HF.out.1.2.2.1, HF.out.1.2.2.2, HF.out.2]
        have hw := Wen.of_grown hg7
        have h1 := hK3.core.wen hw (fun k hk e => by injection e with e; have := hK3.lt0 k hk; omega)
        have h2 := (hg7.block P (block_lt hK3.head) (fun e => by injection e with e; have := hK3.lt0 P hF; omega)).trans hK3.head
        exact ⟨rfl, ⟨F, ⟨p, q, c, g, d, V, h1, hF, h2⟩, Grw.refl _ _⟩, hK3.wen.trans hw (fun k hk e => by injection e with e; omega)⟩)
  · have e1 : decide ((512 : Int) < (m : Int)) = true := by simp; omega
    have HF := Lib.hid (put_big (S := S) (L := L) hl)
    go_enter Try.func41, Try.ntmps41
    go_wp2_with (first
      | (refine wpList_store_blk rfl 69 (.tmp 4) (.tmp 11) rfl w.heap.size _ #[.int .i64 0, .int .u32 0] _ rfl rfl hK.res rfl (by kernel_rfl) (by simp [Value.oneCell']) ?_; intro w7 hi7 hg7; obtain ⟨u0, u1⟩ := row2_cells hi7))
    exact bodyPost_ret (v := .tuple #[.agg #[.int .i64 0, .int .u32 0], .int .i64 5]) (by simp [results, Try.results41, go_sem, u0, u1]) rfl (by
      rw [HF.out.1, HF.out.2.1, HF.out.2.2.1, HF.out.2.2.2.1, HF.out.2.2.2.2]
      have hw := Wen.of_grown hg7
      have h1 := hK.core.wen hw (fun k hk e => by injection e with e; have := hK.lt0 k hk; omega)
      have h2 := (hg7.block P (block_lt hK.head) (fun e => by injection e with e; have := hK.lt0 P hF; omega)).trans hK.head
      exact ⟨rfl, ⟨F, ⟨p, q, c, g, d, V, h1, hF, h2⟩, Grw.refl _ _⟩, hK.wen.trans hw (fun k hk e => by injection e with e; omega)⟩)
end Go.Proofs.Ytknlkmencdlpcaa
