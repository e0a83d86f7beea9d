/-
SameItem of two items of the same contents is true.
-/
import Derived.Test.YtknlkmencdlpcaaRepN
import Derived.Test.YtknlkmencdlpcaaApp
import Derived.Test.YtknlkmencdlpcaaField2
import Derived.Deep.QuietTactic
import Derived.BigQuiet
namespace Go.Proofs.Ytknlkmencdlpcaa
set_option linter.unusedVariables false
set_option linter.unusedSimpArgs false
open Go Go.RowKit

theorem rd_u32 {w : World} {A : Option Addr} {l : List Nat} (h : Rd w A (u32s l)) {k : Nat} (hk : k < l.length) : ∃ ad, A = some ad ∧ w.cell? (ad.add k) = some (.int .u32 l[k]) := by
  obtain ⟨ad, rfl, hc⟩ := h k (.int .u32 l[k]) (by simp [u32s, hk])
  exact ⟨ad, rfl, hc⟩
theorem prV_at (l : List (Nat × Nat)) (k j : Nat) (h : k < l.length) (hj : j < 2) : (rowP l)[k * 2 + j]? = (prV l[k])[j]? := by
  have hd : ∀ (l : List (Nat × Nat)) k, (rowP l).drop (k * 2) = rowP (l.drop k) := by
    intro l
    induction l with
    | nil => intro k; simp [rowP]
    | cons b l ih =>
      intro k
      rcases k with _ | k
      · simp
      · rw [List.drop_succ_cons, ← ih k, rowP, List.flatMap_cons, ← rowP, show (k + 1) * 2 = (prV b).length + k * 2 by simp [prV]; omega, List.drop_append]
        simp
  rw [← List.getElem?_drop, hd, List.drop_eq_getElem_cons h, rowP, List.flatMap_cons, List.getElem?_append_left (by simp [prV]; exact hj)]
theorem rd_pr {w : World} {A : Option Addr} {l : List (Nat × Nat)} (h : Rd w A (rowP l)) {k : Nat} (hk : k < l.length) : ∃ ad, A = some ad ∧ w.cell? (ad.add (k * 2)) = some (.int .u16 l[k].1) ∧ w.cell? ⟨(ad.add (k * 2)).block, (ad.add (k * 2)).off + 1, none⟩ = some (.int .u16 l[k].2) := by
  obtain ⟨ad, rfl, h0⟩ := h (k * 2) _ (prV_at l k 0 hk (by omega))
  obtain ⟨ad', he, h1⟩ := h (k * 2 + 1) _ (prV_at l k 1 hk (by omega))
  injection he with he; subst he
  exact ⟨ad, rfl, h0, fld_at (j := 0) h1⟩
set_option maxRecDepth 20000 in
set_option maxHeartbeats 4000000 in
theorem sameItm_any (i : Itm) (A : Option Addr) (n c : Nat) (G : Option Addr) (gn gc : Nat) (Q : Option Addr) (pn pc : Nat) (A' : Option Addr) (c' : Nat) (G' : Option Addr) (gc' : Nat) (Q' : Option Addr) (pc' : Nat) (w : World)
    (ra : Row w A n c 7 28 (rowK i.bl)) (rg : Row w G gn gc 1 4 (u32s i.go)) (rq : Row w Q pn pc 2 4 (rowP i.pr)) (ra' : Row w A' n c' 7 28 (rowK i.bl)) (rg' : Row w G' gn gc' 1 4 (u32s i.go)) (rq' : Row w Q' pn pc' 2 4 (rowP i.pr)) :
    Calls Try.prog 95 #[.agg #[.int .i64 i.k, .int .u32 i.s, .int .u64 i.ntp, .int .u32 i.tm, .int .u32 i.pk, .int .u32 i.oc, .slice A n c, .slice G gn gc, .int .u32 i.me, .slice Q pn pc], .agg #[.int .i64 i.k, .int .u32 i.s, .int .u64 i.ntp, .int .u32 i.tm, .int .u32 i.pk, .int .u32 i.oc, .slice A' n c', .slice G' gn gc', .int .u32 i.me, .slice Q' pn pc']] w fun e w' =>
      e = .returned (.bool true) ∧ Below w.heap.size w w' := by
  have HBL : Hid (i.bl.length = n) := by have := ra.len; rw [rowK_length] at this; show _ = _; omega
  have HGL : Hid (i.go.length = gn) := by have := rg.len; rw [u32s_length] at this; show _ = _; omega
  have HPL : Hid (i.pr.length = pn) := by have := rq.len; rw [rowP_length] at this; show _ = _; omega
  have m1 := ra.nc
  have m2 := rg.nc
  have m3 := rq.nc
  have m4 := ra.cm
  have m5 := rg.cm
  have m6 := rq.cm
  unfold maxLen at m4 m5 m6
  have HW0 := Lib.hid (And.intro ra (And.intro rg (And.intro rq (And.intro ra' (And.intro rg' rq')))))
  clear ra rg rq ra' rg' rq'
  go_enter Try.func95, Try.ntmps95
  go_wp2
  have hB : Below w.heap.size w ((w.alloc (.cells #[.int .i64 i.k, .int .u32 i.s, .int .u64 i.ntp, .int .u32 i.tm, .int .u32 i.pk, .int .u32 i.oc, .slice A n c, .slice G gn gc, .int .u32 i.me, .slice Q pn pc] 54)).alloc (.cells #[.int .i64 i.k, .int .u32 i.s, .int .u64 i.ntp, .int .u32 i.tm, .int .u32 i.pk, .int .u32 i.oc, .slice A' n c', .slice G' gn gc', .int .u32 i.me, .slice Q' pn pc'] 54)) :=
    ((Below.refl _ _).alloc (Nat.le_refl _) _).alloc (by simp) _
  have hi1 : ((w.alloc (.cells #[.int .i64 i.k, .int .u32 i.s, .int .u64 i.ntp, .int .u32 i.tm, .int .u32 i.pk, .int .u32 i.oc, .slice A n c, .slice G gn gc, .int .u32 i.me, .slice Q pn pc] 54)).alloc (.cells #[.int .i64 i.k, .int .u32 i.s, .int .u64 i.ntp, .int .u32 i.tm, .int .u32 i.pk, .int .u32 i.oc, .slice A' n c', .slice G' gn gc', .int .u32 i.me, .slice Q' pn pc'] 54)).heap[w.heap.size]? = _ :=
    blk_below (blk_alloc w _) ((Below.refl _ _).alloc (Nat.le_refl _) _)
  have hi2 := blk_alloc (w.alloc (.cells #[.int .i64 i.k, .int .u32 i.s, .int .u64 i.ntp, .int .u32 i.tm, .int .u32 i.pk, .int .u32 i.oc, .slice A n c, .slice G gn gc, .int .u32 i.me, .slice Q pn pc] 54)) (.cells #[.int .i64 i.k, .int .u32 i.s, .int .u64 i.ntp, .int .u32 i.tm, .int .u32 i.pk, .int .u32 i.oc, .slice A' n c', .slice G' gn gc', .int .u32 i.me, .slice Q' pn pc'] 54)
  rw [show (w.alloc (.cells #[.int .i64 i.k, .int .u32 i.s, .int .u64 i.ntp, .int .u32 i.tm, .int .u32 i.pk, .int .u32 i.oc, .slice A n c, .slice G gn gc, .int .u32 i.me, .slice Q pn pc] 54)).heap.size = w.heap.size + 1 by simp] at hi2
  generalize (w.alloc (.cells #[.int .i64 i.k, .int .u32 i.s, .int .u64 i.ntp, .int .u32 i.tm, .int .u32 i.pk, .int .u32 i.oc, .slice A n c, .slice G gn gc, .int .u32 i.me, .slice Q pn pc] 54)).alloc (.cells #[.int .i64 i.k, .int .u32 i.s, .int .u64 i.ntp, .int .u32 i.tm, .int .u32 i.pk, .int .u32 i.oc, .slice A' n c', .slice G' gn gc', .int .u32 i.me, .slice Q' pn pc'] 54) = W at *
  have HI1 := Lib.hid hi1
  have HI2 := Lib.hid hi2
  have HA1 := Lib.hid (HW0.out.1.below hB)
  have HG1 := Lib.hid (HW0.out.2.1.below hB)
  have HQ1 := Lib.hid (HW0.out.2.2.1.below hB)
  have HA2 := Lib.hid (HW0.out.2.2.2.1.below hB)
  have HG2 := Lib.hid (HW0.out.2.2.2.2.1.below hB)
  have HQ2 := Lib.hid (HW0.out.2.2.2.2.2.below hB)
  clear HW0 hi1 hi2
  have hbw := Below.refl W.heap.size W
  go_loopw [36] (fun ix wr => ∃ k : Nat, ix = .int .i64 k ∧ k ≤ n ∧ Below W.heap.size W wr) (fun ix _ => n - (intOf ix).toNat)
  case atStart => exact ⟨0, rfl, Nat.zero_le _, hbw⟩
  case round =>
    obtain ⟨k, rfl, hkn, hbr⟩ := hrel
    clear hbw
    have j1 : ∀ j, (wr.drewN j).heap[w.heap.size]? = _ := fun j => blk_below HI1.out (below_drewN hbr j)
    have j2 : ∀ j, (wr.drewN j).heap[w.heap.size + 1]? = _ := fun j => blk_below HI2.out (below_drewN hbr j)
    have s6 := fun j => (ten_cells (j1 j)).2.2.2.2.2.2.1
    have s7 := fun j => (ten_cells (j1 j)).2.2.2.2.2.2.2.1
    have s9 := fun j => (ten_cells (j1 j)).2.2.2.2.2.2.2.2.2
    have t6 := fun j => (ten_cells (j2 j)).2.2.2.2.2.2.1
    have t7 := fun j => (ten_cells (j2 j)).2.2.2.2.2.2.2.1
    have t9 := fun j => (ten_cells (j2 j)).2.2.2.2.2.2.2.2.2
    clear j1 j2
    by_cases hlt : k < n
    · have hk : k < i.bl.length := by rw [HBL.out]; exact hlt
      obtain ⟨ad, rfl, a0, a1, a2, a3, a4, a5, a6⟩ := rd_blk (HA1.out.rd.below hbr) hk
      obtain ⟨ae, rfl, e0, e1, e2, e3, e4, e5, e6⟩ := rd_blk (HA2.out.rd.below hbr) hk
      replace a0 : ∀ j, (wr.drewN j).cell? _ = _ := fun j => a0
      replace e0 : ∀ j, (wr.drewN j).cell? _ = _ := fun j => e0
      replace a1 : ∀ j, (wr.drewN j).cell? _ = _ := fun j => a1
      replace e1 : ∀ j, (wr.drewN j).cell? _ = _ := fun j => e1
      replace a2 : ∀ j, (wr.drewN j).cell? _ = _ := fun j => a2
      replace e2 : ∀ j, (wr.drewN j).cell? _ = _ := fun j => e2
      replace a3 : ∀ j, (wr.drewN j).cell? _ = _ := fun j => a3
      replace e3 : ∀ j, (wr.drewN j).cell? _ = _ := fun j => e3
      replace a4 : ∀ j, (wr.drewN j).cell? _ = _ := fun j => a4
      replace e4 : ∀ j, (wr.drewN j).cell? _ = _ := fun j => e4
      replace a5 : ∀ j, (wr.drewN j).cell? _ = _ := fun j => a5
      replace e5 : ∀ j, (wr.drewN j).cell? _ = _ := fun j => e5
      replace a6 : ∀ j, (wr.drewN j).cell? _ = _ := fun j => a6
      replace e6 : ∀ j, (wr.drewN j).cell? _ = _ := fun j => e6
      go_wp2
      go_quiet (fail)
      go_wp2
      exact ⟨⟨k + 1, rfl, by omega, below_drewN hbr _⟩, by simp [intOf]; omega⟩
    · obtain ⟨s0, s1, s2, s3, s4, s5, s6', s7', s8, s9'⟩ := ten_cells (blk_below HI1.out hbr)
      obtain ⟨t0, t1, t2, t3, t4, t5, t6', t7', t8, t9'⟩ := ten_cells (blk_below HI2.out hbr)
      clear s6 s7 s9 t6 t7 t9
      go_wp2
      have hbw := hbr
      clear hbr hkn hlt
      go_loopw [54] (fun ix wr => ∃ k : Nat, ix = .int .i64 k ∧ k ≤ gn ∧ Below W.heap.size W wr) (fun ix _ => gn - (intOf ix).toNat)
      case atStart => exact ⟨0, rfl, Nat.zero_le _, hbw⟩
      case round =>
        obtain ⟨k, rfl, hkn, hbr⟩ := hrel
        clear hbw
        have j1 : ∀ j, (wr.drewN j).heap[w.heap.size]? = _ := fun j => blk_below HI1.out (below_drewN hbr j)
        have j2 : ∀ j, (wr.drewN j).heap[w.heap.size + 1]? = _ := fun j => blk_below HI2.out (below_drewN hbr j)
        have s6 := fun j => (ten_cells (j1 j)).2.2.2.2.2.2.1
        have s7 := fun j => (ten_cells (j1 j)).2.2.2.2.2.2.2.1
        have s9 := fun j => (ten_cells (j1 j)).2.2.2.2.2.2.2.2.2
        have t6 := fun j => (ten_cells (j2 j)).2.2.2.2.2.2.1
        have t7 := fun j => (ten_cells (j2 j)).2.2.2.2.2.2.2.1
        have t9 := fun j => (ten_cells (j2 j)).2.2.2.2.2.2.2.2.2
        clear j1 j2
        by_cases hlt : k < gn
        · have hk : k < i.go.length := by rw [HGL.out]; exact hlt
          obtain ⟨ad, rfl, a0⟩ := rd_u32 (HG1.out.rd.below hbr) hk
          obtain ⟨ae, rfl, e0⟩ := rd_u32 (HG2.out.rd.below hbr) hk
          replace a0 : ∀ j, (wr.drewN j).cell? _ = _ := fun j => a0
          replace e0 : ∀ j, (wr.drewN j).cell? _ = _ := fun j => e0
          go_wp2
          go_quiet (fail)
          go_wp2
          exact ⟨⟨k + 1, rfl, by omega, below_drewN hbr _⟩, by simp [intOf]; omega⟩
        · obtain ⟨s0, s1, s2, s3, s4, s5, s6', s7', s8, s9'⟩ := ten_cells (blk_below HI1.out hbr)
          obtain ⟨t0, t1, t2, t3, t4, t5, t6', t7', t8, t9'⟩ := ten_cells (blk_below HI2.out hbr)
          clear s6 s7 s9 t6 t7 t9
          go_wp2
          have hbw := hbr
          clear hbr hkn hlt
          go_loopw [72] (fun ix wr => ∃ k : Nat, ix = .int .i64 k ∧ k ≤ pn ∧ Below W.heap.size W wr) (fun ix _ => pn - (intOf ix).toNat)
          case atStart => exact ⟨0, rfl, Nat.zero_le _, hbw⟩
          case round =>
            obtain ⟨k, rfl, hkn, hbr⟩ := hrel
            clear hbw
            have j1 : ∀ j, (wr.drewN j).heap[w.heap.size]? = _ := fun j => blk_below HI1.out (below_drewN hbr j)
            have j2 : ∀ j, (wr.drewN j).heap[w.heap.size + 1]? = _ := fun j => blk_below HI2.out (below_drewN hbr j)
            have s6 := fun j => (ten_cells (j1 j)).2.2.2.2.2.2.1
            have s7 := fun j => (ten_cells (j1 j)).2.2.2.2.2.2.2.1
            have s9 := fun j => (ten_cells (j1 j)).2.2.2.2.2.2.2.2.2
            have t6 := fun j => (ten_cells (j2 j)).2.2.2.2.2.2.1
            have t7 := fun j => (ten_cells (j2 j)).2.2.2.2.2.2.2.1
            have t9 := fun j => (ten_cells (j2 j)).2.2.2.2.2.2.2.2.2
            clear j1 j2
            by_cases hlt : k < pn
            · have hk : k < i.pr.length := by rw [HPL.out]; exact hlt
              obtain ⟨ad, rfl, a0, a1⟩ := rd_pr (HQ1.out.rd.below hbr) hk
              obtain ⟨ae, rfl, e0, e1⟩ := rd_pr (HQ2.out.rd.below hbr) hk
              replace a0 : ∀ j, (wr.drewN j).cell? _ = _ := fun j => a0
              replace e0 : ∀ j, (wr.drewN j).cell? _ = _ := fun j => e0
              replace a1 : ∀ j, (wr.drewN j).cell? _ = _ := fun j => a1
              replace e1 : ∀ j, (wr.drewN j).cell? _ = _ := fun j => e1
              go_wp2
              go_quiet (fail)
              go_wp2
              exact ⟨⟨k + 1, rfl, by omega, below_drewN hbr _⟩, by simp [intOf]; omega⟩
            · obtain ⟨s0, s1, s2, s3, s4, s5, s6', s7', s8, s9'⟩ := ten_cells (blk_below HI1.out hbr)
              obtain ⟨t0, t1, t2, t3, t4, t5, t6', t7', t8, t9'⟩ := ten_cells (blk_below HI2.out hbr)
              clear s6 s7 s9 t6 t7 t9
              go_wp2
              go_ret
              exact ⟨rfl, hB.trans (hbr.mono hB.size)⟩
end Go.Proofs.Ytknlkmencdlpcaa
