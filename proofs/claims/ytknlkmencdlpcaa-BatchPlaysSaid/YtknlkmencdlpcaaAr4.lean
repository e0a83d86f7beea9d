/-
The walks of Slots, Free and Take.
The walks of the document's own Take; of New, in both; of SameSlots.
-/
import Derived.Test.YtknlkmencdlpcaaAr1
namespace Go.Proofs.Ytknlkmencdlpcaa
set_option linter.unusedVariables false
set_option linter.unusedSimpArgs false
open Go.RowKit

theorem slS : SliceT Try.prog 81 150 (.agg #[.int .u32 0, .int .i64 0]) 2 16 := sliceT_of Try.underlying81 (by kernel_rfl) rfl (by omega) (by omega)
set_option maxRecDepth 20000 in
set_option maxHeartbeats 1000000 in
theorem cloneS_any (ad : Addr) (n c : Nat) (S : List Slo) (w : World) (hn : S.length = n) (hb : n ≤ 1024) (hr : Rd w (some ad) (rowS S)) :
    Calls Try.prog 142 #[.slice (some ad) n c] w fun e w' => ∃ A c', e = .returned (.slice A n c') ∧
      w'.ownsRow w.heap.size 150 2 (.slice A n c') n (rowS S) ∧ Below w.heap.size w w' := by
  have hq := fun wx => Lib.run_eql_slice_nil (P := Try.prog) wx 81 150 (some ad) n c 0 0 Try.underlying81
  have hrd : Rd (w.alloc (.cells #[] 150)) (some ad) (rowS S) := hr.below ((Below.refl _ _).alloc (Nat.le_refl _) _)
  have Hn := Lib.hid hn
  clear hn hr
  go_enter Try.func142, Try.ntmps142
  go_wp2_with (at_builtin; refine wpList_app slS rfl _ _ rfl w.heap.size (some ⟨w.heap.size, 0, none⟩) 0 0 [] rfl (World.ownsRow_made w #[] 0 (Nat.le_refl _) (Nat.zero_le _) rfl) (some ad) n c (rowS S) rfl (by rw [rowS_length]; rw [Hn.out]) hrd (rowS_one S) (by omega) (by simp) ?_; intro A' c' w' hown hg hA)
  go_ret
  simp only [Nat.zero_add, List.nil_append] at hown
  refine ⟨A', c', by simp, hown, ((Below.refl _ _).alloc (Nat.le_refl _) _).grown hg (by simp) ?_⟩
  intro k hk
  simp at hk
  omega
theorem rd_row {w : World} {base q n c : Nat} {xs : List Value} {e : TypeId} (h : w.ownsRow base e 2 (.slice (some ⟨q, 0, none⟩) n c) n xs) : Rd w (some ⟨q, 0, none⟩) xs := by
  intro j u hu
  exact ⟨_, rfl, h.cells rfl j u hu⟩
theorem slots_any {r : List Value} {base p q n c : Nat} {S : List Slo} {w : World} (h : ArAt 190 r w base p q n c S) :
    Calls Try.prog 107 #[.pointer (some ⟨p, 0, none⟩)] w fun e w' => ∃ g c', e = .returned (.slice (some ⟨g, 0, none⟩) n c') ∧
      w'.ownsRow w.heap.size 150 2 (.slice (some ⟨g, 0, none⟩) n c') n (rowS S) ∧ Below w.heap.size w w' := by
  have hq := fun wx => eql_nil 145 ⟨p, 0, none⟩ (by kernel_rfl) wx
  have hl := h.at_
  have hc := cloneS_any ⟨q, 0, none⟩ n c S w h.len h.top (rd_row h.own)
  have hbot := h.bot
  go_enter Try.func107, Try.ntmps107
  go_wp2_with (go_at_call 142; (with_reducible refine hc.mono ?_); rintro e w1 ⟨A, c', rfl, ho, hb⟩)
  go_ret
  obtain ⟨g, cap, hv, _⟩ := ho.form (by omega)
  injection hv with hA; subst hA
  exact ⟨g, c', rfl, ho, hb⟩
theorem slots_none (w : World) : Calls Try.prog 107 #[.pointer none] w fun e w' => e = .returned (.slice none 0 0) ∧ w = w' := by
  have hq := fun wx => eql_none 145 (by kernel_rfl) wx
  go_enter Try.func107, Try.ntmps107
  go_wp2
  go_ret
  exact ⟨rfl, rfl⟩
set_option maxRecDepth 20000 in
set_option maxHeartbeats 1000000 in
theorem free_any {r : List Value} {base p q n c : Nat} {S : List Slo} {w : World} (h : ArAt 190 r w base p q n c S) :
    Calls Try.prog 98 #[.pointer (some ⟨p, 0, none⟩)] w fun e w' => e = .returned (.int .i64 (freeS S)) ∧ Below w.heap.size w w' := by
  have hs := slots_any h
  have hlen := h.len
  have htop := h.top
  go_enter Try.func98, Try.ntmps98
  go_wp2_with (go_at_call 107; (with_reducible refine hs.mono ?_); rintro e w1 ⟨g, c', rfl, ho, hb⟩)
  have hsz := hb.size
  go_loopw [3, 9] (fun f i wr => ∃ k : Nat, i = .int .i64 k ∧ f = .int .i64 (freeS (S.take k)) ∧ k ≤ n ∧ Below w1.heap.size w1 wr) (fun _ i _ => n - (intOf i).toNat)
  case atStart => exact ⟨0, rfl, rfl, Nat.zero_le _, Below.refl _ _⟩
  case round =>
    obtain ⟨k, rfl, rfl, hkn, hbr⟩ := hrel
    by_cases hlt : k < n
    · have hk : k < S.length := by omega
      have hor := ho.kept (own_below hbr) (own_none _)
      have g1 := hor.cellAt (k * 2) (by omega)
      have g2 := hor.cellAt (k * 2 + 1) (by omega)
      rw [rowS_gen S k hk] at g1
      rw [rowS_ref S k hk] at g2
      have hf := freeS_succ S k hk
      have hle := freeS_le (S.take k)
      have HF := Lib.hid hf
      clear hf
      rw [List.length_take] at hle
      by_cases hz : S[k].2 = 0
      · have hz' : ((S[k].2 : Int) == 0) = true := by simp; omega
        rw [if_pos hz] at HF
        go_wp2
        refine ⟨⟨k + 1, rfl, by rw [HF.out]; rfl, by omega, hbr.alloc hbr.size _⟩, by simp [intOf]; omega⟩
      · have hz' : ((S[k].2 : Int) == 0) = false := by simp; omega
        rw [if_neg hz] at HF
        go_wp2
        refine ⟨⟨k + 1, rfl, by rw [HF.out]; rfl, by omega, hbr.alloc hbr.size _⟩, by simp [intOf]; omega⟩
    · go_wp2
      go_ret
      have hkS : S.take k = S := List.take_of_length_le (by omega)
      exact ⟨by rw [hkS]; rfl, hb.trans (hbr.mono hb.size)⟩
set_option maxRecDepth 20000 in
set_option maxHeartbeats 1000000 in
theorem rfree_any {r : List Value} {base p q n c : Nat} {S : List Slo} {w : World} (h : ArAt 85 r w base p q n c S) :
    Calls Try.prog 54 #[.pointer (some ⟨p, 0, none⟩)] w fun e w' => e = .returned (.int .i64 (freeS S)) ∧ Below w.heap.size w w' := by
  have hl := h.at_
  have hlen := h.len
  have htop := h.top
  have ho := h.own
  go_enter Try.func54, Try.ntmps54
  go_wp2
  go_loopw [3, 11] (fun f i wr => ∃ k : Nat, i = .int .i64 k ∧ f = .int .i64 (freeS (S.take k)) ∧ k ≤ n ∧ Below w.heap.size w wr) (fun _ i _ => n - (intOf i).toNat)
  case atStart => exact ⟨0, rfl, rfl, Nat.zero_le _, Below.refl _ _⟩
  case round =>
    obtain ⟨k, rfl, rfl, hkn, hbr⟩ := hrel
    by_cases hlt : k < n
    · have hk : k < S.length := by omega
      have hor := ho.kept (own_below hbr) (own_none _)
      have g1 := hor.cellAt (k * 2) (by omega)
      have g2 := hor.cellAt (k * 2 + 1) (by omega)
      rw [rowS_gen S k hk] at g1
      rw [rowS_ref S k hk] at g2
      have hf := freeS_succ S k hk
      have hle := freeS_le (S.take k)
      have HF := Lib.hid hf
      clear hf
      rw [List.length_take] at hle
      by_cases hz : S[k].2 = 0
      · have hz' : ((S[k].2 : Int) == 0) = true := by simp; omega
        rw [if_pos hz] at HF
        go_wp2
        refine ⟨⟨k + 1, rfl, by rw [HF.out]; rfl, by omega, hbr.alloc hbr.size _⟩, by simp [intOf]; omega⟩
      · have hz' : ((S[k].2 : Int) == 0) = false := by simp; omega
        rw [if_neg hz] at HF
        go_wp2
        refine ⟨⟨k + 1, rfl, by rw [HF.out]; rfl, by omega, hbr.alloc hbr.size _⟩, by simp [intOf]; omega⟩
    · go_wp2
      go_ret
      have hkS : S.take k = S := List.take_of_length_le (by omega)
      exact ⟨by rw [hkS]; rfl, hbr⟩
theorem frozen_row2 {w : World} {g j : Nat} {cs : Array Value} {t : TypeId} (h : w.heap[g]? = some (.cells cs t (0, 0))) : w.frozen? ⟨g, j, none⟩ = false := by
  simp [World.frozen?, h]
theorem row2_store {w : World} {g : Nat} {t : TypeId} {a b : Value} (h : w.heap[g]? = some (.cells #[a, b] t (0, 0))) (a' b' : Value) :
    (w.cell? ⟨g, 0, none⟩ = some a ∧ w.frozen? ⟨g, 0, none⟩ = false) ∧
    ((w.setCell ⟨g, 0, none⟩ a').cell? ⟨g, 1, none⟩ = some b ∧ (w.setCell ⟨g, 0, none⟩ a').frozen? ⟨g, 1, none⟩ = false) ∧
    ((w.setCell ⟨g, 0, none⟩ a').setCell ⟨g, 1, none⟩ b').heap[g]? = some (.cells #[a', b'] t (0, 0)) := by
  have h1 := heap_setCell_same w g 0 _ t a' h
  have h2 := heap_setCell_same _ g 1 _ t b' h1
  refine ⟨⟨?_, frozen_row2 h⟩, ⟨?_, frozen_row2 h1⟩, h2⟩
  · rw [cell_of_row _ _ _ _ _ _ h]; rfl
  · rw [cell_of_row _ _ _ _ _ _ h1]; rfl
theorem grown_setCell (w : World) (a : Addr) (u : Value) : w.grownBy (w.setCell a u) (some a.block) :=
  ⟨rfl, rfl, rfl, by simp [World.setCell], fun k hk hne => heap_setCell_other w a k u (fun e => hne (by rw [e]))⟩
theorem grown_set_new {w X : World} {row : Option Nat} (h : w.grownBy X row) {a : Addr} (ha : w.heap.size ≤ a.block) (u : Value) : w.grownBy (X.setCell a u) row :=
  ⟨h.os, h.tape, h.output, by simp [World.setCell]; exact h.size, fun k hk hne => (heap_setCell_other X a k u (by omega)).trans (h.block k hk hne)⟩
theorem ArAt.keptSet {T : TypeId} {r : List Value} {w : World} {base p q n c : Nat} {S : List Slo} (h : ArAt T r w base p q n c S) {a : Addr} (h1 : a.block ≠ p) (h2 : a.block ≠ q) (u : Value) : ArAt T r (w.setCell a u) base p q n c S :=
  h.kept (grown_setCell w a u) (by simpa using h1) (by simpa using h2)
set_option maxRecDepth 20000 in
set_option maxHeartbeats 1000000 in
theorem take_any {r : List Value} {base p q n c : Nat} {S : List Slo} {w : World} (h : ArAt 190 r w base p q n c S) :
    Calls Try.prog 100 #[.pointer (some ⟨p, 0, none⟩)] w fun e w' => e = .returned (.tuple #[.agg #[.int .i64 (takeSlot S), .int .u32 (takeGen S)], .int .i64 (takeErr S)]) ∧
      ArAt 190 r w' base p q n c (takeS S) ∧ w.grownBy w' (some q) := by
  have hlen := h.len
  have htop := h.top
  have hbot := h.bot
  have hb0 := (Below.refl w.heap.size w).alloc (Nat.le_refl _) (.cells #[.int .i64 0, .int .u32 0] 69)
  have h1 := h.below hb0
  have hs := slots_any h1
  go_enter Try.func100, Try.ntmps100
  go_wp2_with (go_at_call 107; (with_reducible refine hs.mono ?_); rintro e w1 ⟨g, c', rfl, ho, hb⟩)
  have hsz := hb.size
  have d0 := (hb.block w.heap.size (by simp)).trans (heap_alloc_new w _)
  have hA1 := h1.below hb
  have hB1 := hb0.trans (hb.mono hb0.size)
  go_loopw [9] (fun i wr => ∃ k : Nat, i = .int .i64 k ∧ k ≤ n ∧ (∀ j, j < k → ∀ hj : j < S.length, S[j].2 ≠ 0) ∧ Below w1.heap.size w1 wr) (fun i _ => n - (intOf i).toNat)
  case atStart => exact ⟨0, rfl, Nat.zero_le _, fun j hj => absurd hj (by omega), Below.refl _ _⟩
  case round =>
    obtain ⟨k, rfl, hkn, hnz, hbr⟩ := hrel
    have Hnz := Lib.hid hnz
    clear hnz
    by_cases hlt : k < n
    · have hk : k < S.length := by omega
      have hor := ho.kept (own_below hbr) (own_none _)
      have g1 := hor.cellAt (k * 2) (by omega)
      have g2 := hor.cellAt (k * 2 + 1) (by omega)
      rw [rowS_gen S k hk] at g1
      rw [rowS_ref S k hk] at g2
      by_cases hz : S[k].2 = 0
      · have hz' : ((S[k].2 : Int) == 0) = true := by simp; omega
        rw [hz] at g2
        have hA2 := (hA1.below hbr).below ((Below.refl wr.heap.size wr).alloc (Nat.le_refl _) (.cells #[.int .u32 S[k].1, .int .i64 0] 150))
        have hB2 := (hB1.trans (hbr.mono hB1.size)).alloc (show w.heap.size ≤ wr.heap.size from Nat.le_trans hB1.size hbr.size) (.cells #[.int .u32 S[k].1, .int .i64 0] 150)
        have hwp := h.plt
        have hwq := h.qlt
        have hw1 : w.heap.size < w1.heap.size := block_lt d0
        have hw2 := hbr.size
        have l0 := hA2.at_
        have l1 := hA2.ref k hk
        have l2 := hA2.frozen (k * 2 + 1)
        have hst := hA2.setRef' k hk 1 1 rfl
        have s2 := heap_alloc_new wr (.cells #[.int .u32 S[k].1, .int .i64 0] 150)
        have d2 := (Below.block ((Below.refl wr.heap.size wr).alloc (Nat.le_refl _) (.cells #[.int .u32 S[k].1, .int .i64 0] 150)) w.heap.size (by omega)).trans ((hbr.block w.heap.size hw1).trans d0)
        have s3 := (row2_cells ((hst.2.block wr.heap.size (by simp) (by simp; omega)).trans s2)).1
        have d3 := (hst.2.block w.heap.size (by simp; omega) (by simp; omega)).trans d2
        obtain ⟨⟨x0, x1⟩, ⟨x2, x3⟩, x4⟩ := row2_store d3 (.int .i64 k) (.int .u32 S[k].1)
        obtain ⟨r0, r1⟩ := row2_cells x4
        have e := takeS_at hk (freeIx_at hk hz (fun j hj => Hnz.out j hj (by omega)))
        have E := Lib.hid e
        have hfin := (hst.1.keptSet (a := ⟨w.heap.size, 0, none⟩) (by simp; omega) (by simp; omega) (.int .i64 k)).keptSet (a := ⟨w.heap.size, 1, none⟩) (by simp; omega) (by simp; omega) (.int .u32 S[k].1)
        have hgr := grown_set_new (grown_set_new ((below_grown hB2 (Nat.le_refl _) (some q)).trans hst.2) (a := ⟨w.heap.size, 0, none⟩) (Nat.le_refl _) (.int .i64 k)) (a := ⟨w.heap.size, 1, none⟩) (Nat.le_refl _) (.int .u32 S[k].1)
        have HF := Lib.hid (And.intro hfin hgr)
        clear e hst hfin hgr d2 d3 x4 s2 hA2 hB2
        go_wp2
        rw [E.out.1, E.out.2.1, E.out.2.2.1, E.out.2.2.2]
        exact bodyPost_ret (v := .tuple #[.agg #[.int .i64 k, .int .u32 S[k].1], .int .i64 0]) (by simp [results, Try.results100, go_sem, r0, r1]) rfl ⟨rfl, HF.out.1, HF.out.2⟩
      · have hz' : ((S[k].2 : Int) == 0) = false := by simp; omega
        go_wp2
        refine ⟨⟨k + 1, rfl, by omega, ?_, hbr.alloc hbr.size _⟩, by simp [intOf]; omega⟩
        intro j hj hj'
        by_cases e : j = k
        · subst e; exact hz
        · exact Hnz.out j (by omega) hj'
    · obtain rfl : k = n := by omega
      have hwp := h.plt
      have hwq := h.qlt
      have hw1 : w.heap.size < w1.heap.size := block_lt d0
      have d3 := (hbr.block w.heap.size hw1).trans d0
      obtain ⟨⟨x0, x1⟩, ⟨x2, x3⟩, x4⟩ := row2_store d3 (.int .i64 0) (.int .u32 0)
      obtain ⟨r0, r1⟩ := row2_cells x4
      have E := Lib.hid (takeS_none (freeIx_none (S := S) (fun j hj => Hnz.out j (by omega) hj)))
      have hfin := ((hA1.below hbr).keptSet (a := ⟨w.heap.size, 0, none⟩) (by simp; omega) (by simp; omega) (.int .i64 0)).keptSet (a := ⟨w.heap.size, 1, none⟩) (by simp; omega) (by simp; omega) (.int .u32 0)
      have hgr := grown_set_new (grown_set_new (below_grown (hB1.trans (hbr.mono hB1.size)) (Nat.le_refl _) (some q)) (a := ⟨w.heap.size, 0, none⟩) (Nat.le_refl _) (.int .i64 0)) (a := ⟨w.heap.size, 1, none⟩) (Nat.le_refl _) (.int .u32 0)
      have HF := Lib.hid (And.intro hfin hgr)
      clear d3 x4 hfin hgr
      go_wp2
      rw [E.out.1, E.out.2.1, E.out.2.2.1, E.out.2.2.2]
      exact bodyPost_ret (v := .tuple #[.agg #[.int .i64 0, .int .u32 0], .int .i64 6]) (by simp [results, Try.results100, go_sem, r0, r1]) rfl ⟨rfl, HF.out.1, HF.out.2⟩
end Go.Proofs.Ytknlkmencdlpcaa

namespace Go.Proofs.Ytknlkmencdlpcaa
set_option linter.unusedVariables false
set_option linter.unusedSimpArgs false
open Go.RowKit

set_option maxRecDepth 20000 in
set_option maxHeartbeats 1000000 in
theorem rtake_any {r : List Value} {base p q n c : Nat} {S : List Slo} {w : World} (h : ArAt 85 r w base p q n c S) :
    Calls Try.prog 102 #[.pointer (some ⟨p, 0, none⟩)] w fun e w' => e = .returned (.tuple #[.agg #[.int .i64 (takeSlot S), .int .u32 (takeGen S)], .int .i64 (takeErr S)]) ∧
      ArAt 85 r w' base p q n c (takeS S) ∧ w.grownBy w' (some q) := by
  have hlen := h.len
  have htop := h.top
  have hbot := h.bot
  have hb0 := (Below.refl w.heap.size w).alloc (Nat.le_refl _) (.cells #[.int .i64 0, .int .u32 0] 69)
  have h1 := h.below hb0
  have hl := h1.at_
  have d0 := heap_alloc_new w (.cells #[.int .i64 0, .int .u32 0] 69)
  have hw1 := block_lt d0
  go_enter Try.func102, Try.ntmps102
  go_wp2
  generalize w.alloc (.cells #[.int .i64 0, .int .u32 0] 69) = w1 at *
  go_loopw [10] (fun i wr => ∃ k : Nat, i = .int .i64 k ∧ k ≤ n ∧ (∀ j, j < k → ∀ hj : j < S.length, S[j].2 ≠ 0) ∧ wr = w1) (fun i _ => n - (intOf i).toNat)
  case atStart => exact ⟨0, rfl, Nat.zero_le _, fun j hj => absurd hj (by omega), rfl⟩
  case round =>
    obtain ⟨k, rfl, hkn, hnz, rfl⟩ := hrel
    have Hnz := Lib.hid hnz
    clear hnz
    have hwp := h.plt
    have hwq := h.qlt
    by_cases hlt : k < n
    · have hk : k < S.length := by omega
      have g2 := h1.ref k hk
      by_cases hz : S[k].2 = 0
      · have e := takeS_at hk (freeIx_at hk hz (fun j hj => Hnz.out j hj (by omega)))
        have E := Lib.hid e
        rw [hz] at g2
        have l2 := h1.frozen (k * 2 + 1)
        have hst := h1.setRef' k hk 1 1 rfl
        have m0 := hst.1.at_
        have m1 := hst.1.gen k (by simpa using hk)
        simp only [List.getElem_set_self] at m1
        have d3 := (hst.2.block w.heap.size hw1 (by simp; omega)).trans d0
        obtain ⟨⟨x0, x1⟩, ⟨x2, x3⟩, x4⟩ := row2_store d3 (.int .i64 k) (.int .u32 S[k].1)
        obtain ⟨r0, r1⟩ := row2_cells x4
        have hfin := (hst.1.keptSet (a := ⟨w.heap.size, 0, none⟩) (by simp; omega) (by simp; omega) (.int .i64 k)).keptSet (a := ⟨w.heap.size, 1, none⟩) (by simp; omega) (by simp; omega) (.int .u32 S[k].1)
        have hgr := grown_set_new (grown_set_new ((below_grown hb0 (Nat.le_refl _) (some q)).trans hst.2) (a := ⟨w.heap.size, 0, none⟩) (Nat.le_refl _) (.int .i64 k)) (a := ⟨w.heap.size, 1, none⟩) (Nat.le_refl _) (.int .u32 S[k].1)
        have HF := Lib.hid (And.intro hfin hgr)
        clear e hst hfin hgr d3 x4
        go_wp2
        rw [E.out.1, E.out.2.1, E.out.2.2.1, E.out.2.2.2]
        exact bodyPost_ret (v := .tuple #[.agg #[.int .i64 k, .int .u32 S[k].1], .int .i64 0]) (by simp [results, Try.results102, go_sem, r0, r1]) rfl ⟨rfl, HF.out.1, HF.out.2⟩
      · have hz' : ((S[k].2 : Int) == 0) = false := by simp; omega
        go_wp2
        refine ⟨⟨k + 1, rfl, by omega, ?_, trivial⟩, by simp [intOf]; omega⟩
        intro j hj hj'
        by_cases e : j = k
        · subst e; exact hz
        · exact Hnz.out j (by omega) hj'
    · obtain rfl : k = n := by omega
      obtain ⟨⟨x0, x1⟩, ⟨x2, x3⟩, x4⟩ := row2_store d0 (.int .i64 0) (.int .u32 0)
      obtain ⟨r0, r1⟩ := row2_cells x4
      have E := Lib.hid (takeS_none (freeIx_none (S := S) (fun j hj => Hnz.out j (by omega) hj)))
      have hfin := (h1.keptSet (a := ⟨w.heap.size, 0, none⟩) (by simp; omega) (by simp; omega) (.int .i64 0)).keptSet (a := ⟨w.heap.size, 1, none⟩) (by simp; omega) (by simp; omega) (.int .u32 0)
      have hgr := grown_set_new (grown_set_new (below_grown hb0 (Nat.le_refl _) (some q)) (a := ⟨w.heap.size, 0, none⟩) (Nat.le_refl _) (.int .i64 0)) (a := ⟨w.heap.size, 1, none⟩) (Nat.le_refl _) (.int .u32 0)
      have HF := Lib.hid (And.intro hfin hgr)
      clear d0 x4 hfin hgr
      go_wp2
      rw [E.out.1, E.out.2.1, E.out.2.2.1, E.out.2.2.2]
      exact bodyPost_ret (v := .tuple #[.agg #[.int .i64 0, .int .u32 0], .int .i64 6]) (by simp [results, Try.results102, go_sem, r0, r1]) rfl ⟨rfl, HF.out.1, HF.out.2⟩
end Go.Proofs.Ytknlkmencdlpcaa
