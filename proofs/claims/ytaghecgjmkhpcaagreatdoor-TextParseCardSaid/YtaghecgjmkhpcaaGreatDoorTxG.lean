/-
SameOp and SameOps of the reference at equal operations; shown of law 30.
-/
import Derived.Test.YtaghecgjmkhpcaaGreatDoorTxF
namespace Go.Proofs.YtaghecgjmkhpcaaGreatDoor
set_option linter.unusedVariables false
set_option linter.unusedSimpArgs false
open Go Go.RowKit

theorem rd_u32T {w : World} {A : Option Addr} {l : List Nat} (h : Rd w A (u32s l)) {k : Nat} (hk : k < l.length) : ∃ ad, A = some ad ∧ w.cell? (ad.add k) = some (.int .u32 l[k]) := by
  obtain ⟨ad, rfl, hc⟩ := h k (.int .u32 l[k]) (by simp [u32s, hk])
  exact ⟨ad, rfl, hc⟩
set_option maxRecDepth 20000 in
set_option maxHeartbeats 4000000 in
theorem sameOp_v (o : Opx) (A : Option Addr) (n ac : Nat) (B : Option Addr) (bn bc : Nat) (A' : Option Addr) (ac' : Nat) (B' : Option Addr) (bc' : Nat) (w : World)
    (ra : Row w A n ac 1 4 (u32s o.ss)) (rb : Row w B bn bc 1 1 (bys o.bs)) (ra' : Row w A' n ac' 1 4 (u32s o.ss)) (rb' : Row w B' bn bc' 1 1 (bys o.bs)) :
    Calls Tryz.prog 31 #[opA o.k o.p o.s o.y o.nm A n ac B bn bc, opA o.k o.p o.s o.y o.nm A' n ac' B' bn bc'] w fun e w' => e = .returned (.bool true) ∧ Below w.heap.size w w' := by
  have HL := Lib.hid (row_len4 ra)
  have HBL := Lib.hid (row_len1 rb)
  have m1 := ra.nc
  have m2 := ra.cm
  have m3 := ra'.nc
  have m4 := ra'.cm
  unfold maxLen at m2 m4
  obtain ⟨hb0, hi0, hj0⟩ := two_newT w (.cells (opC o.k o.p o.s o.y o.nm A n ac B bn bc) 27) (.cells (opC o.k o.p o.s o.y o.nm A' n ac' B' bn bc') 27)
  have HW0 := Lib.hid (And.intro ra (And.intro rb (And.intro ra' rb')))
  clear ra rb ra' rb'
  go_enter Tryz.func31, Tryz.ntmps31
  go_upto_region 1 with fail
  generalize (w.alloc _).alloc _ = W at *
  obtain ⟨x0, x1, x2, x3, x4, x5, x6⟩ := seven_cells hi0
  obtain ⟨y0, y1, y2, y3, y4, y5, y6⟩ := seven_cells hj0
  have HA1 := Lib.hid (HW0.out.1.below hb0)
  have HB1 := Lib.hid (HW0.out.2.1.below hb0)
  have HA2 := Lib.hid (HW0.out.2.2.1.below hb0)
  have HB2 := Lib.hid (HW0.out.2.2.2.below hb0)
  have HI := Lib.hid hi0
  have HJ := Lib.hid hj0
  clear HW0 hi0 hj0
  go_wp2
  clear x0 x1 x2 x3 x4 x5 x6 y0 y1 y2 y3 y4 y5 y6
  have hbw := Lib.hid (Below.refl W.heap.size W)
  go_loopw [16] (fun ix wr => ∃ k : Nat, ix = .int .i64 k ∧ k ≤ n ∧ Below W.heap.size W wr) (fun ix _ => n - (intOf ix).toNat)
  case atStart => exact ⟨0, rfl, Nat.zero_le _, hbw.out⟩
  case round =>
    obtain ⟨k, rfl, hkn, hbr⟩ := hrel
    obtain ⟨x0, x1, x2, x3, x4, x5, x6⟩ := seven_cells (blk_below HI.out hbr)
    obtain ⟨y0, y1, y2, y3, y4, y5, y6⟩ := seven_cells (blk_below HJ.out hbr)
    by_cases hlt : k < n
    · have hk : k < o.ss.length := by rw [HL.out]; exact hlt
      obtain ⟨ad, rfl, c1⟩ := rd_u32T (HA1.out.below hbr).rd hk
      obtain ⟨ad', rfl, c2⟩ := rd_u32T (HA2.out.below hbr).rd hk
      have d1 : ∀ j, (wr.drewN j).cell? (ad.add k) = some (.int .u32 (o.ss[k] : Int)) := fun j => c1
      have d2 : ∀ j, (wr.drewN j).cell? (ad'.add k) = some (.int .u32 (o.ss[k] : Int)) := fun j => c2
      have d3 : ∀ j, (wr.drewN j).cell? ⟨w.heap.size, 5, none⟩ = some (.slice (some ad) n ac) := fun j => x5
      have d4 : ∀ j, (wr.drewN j).cell? ⟨w.heap.size + 1, 5, none⟩ = some (.slice (some ad') n ac') := fun j => y5
      clear x0 x1 x2 x3 x4 x5 x6 y0 y1 y2 y3 y4 y5 y6 c1 c2
      go_wp2
      go_quiet (fail)
      go_wp2
      exact ⟨⟨k + 1, rfl, by omega, below_drewT hbr _⟩, by simp [intOf]; omega⟩
    · have hkn' : k = n := by omega
      subst hkn'
      have v1 := cv_rd (c := bc) HBL.out (HB1.out.below hbr).rd
      have v2 := cv_rd (c := bc') HBL.out (HB2.out.below hbr).rd
      go_wp2
      go_ret
      exact ⟨rfl, below_nextT hb0 hbr⟩
theorem sameOp_any (x y : Sp) (w : World) (hx : SpR w x) (hy : SpR w y) (h : x.o = y.o) : Calls Tryz.prog 31 #[spV x, spV y] w fun e w' => e = .returned (.bool true) ∧ Below w.heap.size w w' := by
  obtain ⟨o, A, an, ac, B, bn, bc⟩ := x
  obtain ⟨o', A', an', ac', B', bn', bc'⟩ := y
  dsimp only at h
  subst h
  have h1 := row_len4 hx.ra
  have h2 := row_len4 hy.ra
  have h3 := row_len1 hx.rb
  have h4 := row_len1 hy.rb
  dsimp only at h1 h2 h3 h4
  have e1 : an' = an := by omega
  have e2 : bn' = bn := by omega
  subst e1
  subst e2
  exact sameOp_v o A an' ac B bn' bc A' ac' B' bc' w hx.ra hx.rb hy.ra hy.rb
set_option maxRecDepth 20000 in
set_option maxHeartbeats 2000000 in
theorem sameOps_any (A : Option Addr) (n c : Nat) (xs : List Sp) (B : Option Addr) (m d : Nat) (ys : List Sp) (w : World) (hx : Ops w A n c xs) (hy : Ops w B m d ys) (h : opl xs = opl ys) :
    Calls Tryz.prog 12 #[.slice A n c, .slice B m d] w fun e w' => e = .returned (.bool true) ∧ Below w.heap.size w w' := by
  have hl : xs.length = n := hx.len
  have hl2 : ys.length = m := hy.len
  have hnm : m = n := by
    have := congrArg List.length h
    rw [opl_length, opl_length] at this
    omega
  subst hnm
  have HX := Lib.hid hx
  have HY := Lib.hid hy
  have HE := Lib.hid h
  have HL := Lib.hid hl
  have HL2 := Lib.hid hl2
  have m1 := hx.nc
  have m2 := hx.cm
  have m3 := hy.nc
  have m4 := hy.cm
  unfold maxLen at m2 m4
  clear hx hy h hl hl2
  go_enter Tryz.func12, Tryz.ntmps12
  go_wp2
  go_loopw [13] (fun ix wr => ∃ k : Nat, ix = .int .i64 k ∧ k ≤ m ∧ Below w.heap.size w wr) (fun ix _ => m - (intOf ix).toNat)
  case atStart => exact ⟨0, rfl, Nat.zero_le _, Below.refl _ _⟩
  case round =>
    obtain ⟨k, rfl, hkn, hbr⟩ := hrel
    by_cases hlt : k < m
    · have hk : k < xs.length := by rw [HL.out]; exact hlt
      have hk2 : k < ys.length := by rw [HL2.out]; exact hlt
      have HBR := Lib.hid hbr
      obtain ⟨ad, rfl, c0, c1, c2, c3, c4, c5, c6⟩ := rd_sp (HX.out.rd.below hbr.drew) hk
      obtain ⟨ad', rfl, d0, d1, d2, d3, d4, d5, d6⟩ := rd_sp (HY.out.rd.below hbr.drew) hk2
      have hso : xs[k].o = ys[k].o := by
        have := congrArg (fun l => l[k]?) HE.out
        simp only [opl, List.getElem?_map, List.getElem?_eq_getElem hk, List.getElem?_eq_getElem hk2, Option.map_some, Option.some.injEq] at this
        exact this
      have hbd := hbr.drew
      have hrx := Lib.hid ((HX.out.rows _ (List.getElem_mem hk)).below hbd)
      have hry := Lib.hid ((HY.out.rows _ (List.getElem_mem hk2)).below hbd)
      obtain ⟨x, hx⟩ : ∃ x, xs[k] = x := ⟨_, rfl⟩
      obtain ⟨y, hy⟩ : ∃ y, ys[k] = y := ⟨_, rfl⟩
      rw [hx, hy] at hso
      rw [hx] at hrx c0 c1 c2 c3 c4 c5 c6
      rw [hy] at hry d0 d1 d2 d3 d4 d5 d6
      have HSO := Lib.hid hso
      clear hso hx hy
      go_wp2_with fail
      refine region_plan (calmB_sound _) (.leaf [0, 1, 2, 3, 4, 5, 6, 7, 8, 9]) (by kernel_rfl) (by kernel_rfl) (by kernel_rfl) ?_
      generalize wr.drew = wd at *
      refine wpPlan_leaf fun PL0 hPL0 => ?_
      simp only [List.filterMap_cons, List.filterMap_nil, List.getElem?_toArray, List.getElem?_cons_succ, List.getElem?_cons_zero]
      change wpList _ _ _ [_, _, _, _, _, _, _, _, _, _] _ _
      go_wp2_with (go_at_call 31; (with_reducible refine (sameOp_any x y _ hrx.out hry.out HSO.out).mono ?_); rintro e w2 ⟨rfl, hb2⟩)
      exact ⟨⟨k + 1, rfl, by omega, hbd.trans (hb2.mono hbd.size)⟩, by simp [intOf]; omega⟩
    · go_wp2
      go_ret
      exact ⟨rfl, hbr⟩
end Go.Proofs.YtaghecgjmkhpcaaGreatDoor
