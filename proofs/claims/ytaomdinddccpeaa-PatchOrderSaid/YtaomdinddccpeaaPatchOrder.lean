/-
PatchOrder: field by field, in whichever order, is all at once.
-/
import Derived.Test.YtaomdinddccpeaaPatchLast
namespace Go.Proofs.Ytaomdinddccpeaa
set_option linter.unusedVariables false
set_option linter.unusedSimpArgs false
open Go Go.RowKit

theorem and3 (x : Int) : 0 ≤ bits .and .i64 x 3 ∧ bits .and .i64 x 3 ≤ 3 := by
  show 0 ≤ IntKind.i64.wrap (((BitVec.ofInt 64 x) &&& (BitVec.ofInt 64 3)).toNat : Int) ∧ IntKind.i64.wrap (((BitVec.ofInt 64 x) &&& (BitVec.ofInt 64 3)).toNat : Int) ≤ 3
  have h3 : (BitVec.ofInt 64 3).toNat = 3 := by decide
  have h : ((BitVec.ofInt 64 x) &&& (BitVec.ofInt 64 3)).toNat ≤ 3 := by
    rw [BitVec.toNat_and, h3]
    exact Nat.and_le_right
  generalize ((BitVec.ofInt 64 x) &&& (BitVec.ofInt 64 3)).toNat = y at *
  rw [IntKind.wrap_i64]
  omega
/-- What the loop keeps. -/
structure OrdS (w w' : World) (gd : Nat) (xs : Array Value) (C : Option Addr) (c3 : Nat) (D : Option Addr) (c4 n : Nat) (la m : List UInt8) (b0 b1 b2 b3 : Bool) : Prop where
  oc : w'.ownsRow w.heap.size 5 1 (.slice C n c3) n (bys la)
  od : w'.ownsRow w.heap.size 5 1 (.slice D n c4) n (bys m)
  ap : (Value.slice C n c3).ownBlock = none ∨ (Value.slice C n c3).ownBlock ≠ D.map Addr.block
  arr : w'.heap[gd]? = some (.cells #[.bool b0, .bool b1, .bool b2, .bool b3] 49 (0, 0))
  x : w'.heap[w.heap.size]? = some (.cells xs 26 (0, 0))
  b : Below w.heap.size w w'
  gx : w.heap.size < gd
section
variable {w w' w'' : World} {gd : Nat} {xs : Array Value} {C : Option Addr} {c3 : Nat} {D : Option Addr} {c4 n : Nat} {la m m' : List UInt8} {b0 b1 b2 b3 : Bool}
theorem OrdS.call (h : OrdS w w' gd xs C c3 D c4 n la m b0 b1 b2 b3) (ho : w''.ownsRow w.heap.size 5 1 (.slice D n c4) n (bys m')) (hg : w'.grownBy w'' (D.map Addr.block)) : OrdS w w'' gd xs C c3 D c4 n la m' b0 b1 b2 b3 :=
  ⟨h.oc.kept hg h.ap, ho, h.ap, blk_over h.od h.arr (by decide) hg, blk_over h.od h.x (by decide) hg, h.b.grown hg h.b.size (own_from h.od), h.gx⟩
theorem OrdS.mark0 (h : OrdS w w' gd xs C c3 D c4 n la m b0 b1 b2 b3) : (w'.cell? ⟨gd, 0, none⟩ = some (.bool b0) ∧ w'.frozen? ⟨gd, 0, none⟩ = false) ∧ OrdS w (w'.setCell ⟨gd, 0, none⟩ (.bool true)) gd xs C c3 D c4 n la m true b1 b2 b3 := by
  obtain ⟨h1, h2, hg⟩ := cell_set h.arr 0 (.bool b0) (.bool true) rfl
  exact ⟨h1, h.oc.kept hg (own_off h.oc h.arr (by decide)), h.od.kept hg (own_off h.od h.arr (by decide)), h.ap, h2, four_keep h.x hg (by have := h.gx; omega), h.b.grown hg h.b.size (fun k hk => by injection hk with hk; have := h.gx; omega), h.gx⟩
theorem OrdS.mark1 (h : OrdS w w' gd xs C c3 D c4 n la m b0 b1 b2 b3) : (w'.cell? ⟨gd, 1, none⟩ = some (.bool b1) ∧ w'.frozen? ⟨gd, 1, none⟩ = false) ∧ OrdS w (w'.setCell ⟨gd, 1, none⟩ (.bool true)) gd xs C c3 D c4 n la m b0 true b2 b3 := by
  obtain ⟨h1, h2, hg⟩ := cell_set h.arr 1 (.bool b1) (.bool true) rfl
  exact ⟨h1, h.oc.kept hg (own_off h.oc h.arr (by decide)), h.od.kept hg (own_off h.od h.arr (by decide)), h.ap, h2, four_keep h.x hg (by have := h.gx; omega), h.b.grown hg h.b.size (fun k hk => by injection hk with hk; have := h.gx; omega), h.gx⟩
theorem OrdS.mark2 (h : OrdS w w' gd xs C c3 D c4 n la m b0 b1 b2 b3) : (w'.cell? ⟨gd, 2, none⟩ = some (.bool b2) ∧ w'.frozen? ⟨gd, 2, none⟩ = false) ∧ OrdS w (w'.setCell ⟨gd, 2, none⟩ (.bool true)) gd xs C c3 D c4 n la m b0 b1 true b3 := by
  obtain ⟨h1, h2, hg⟩ := cell_set h.arr 2 (.bool b2) (.bool true) rfl
  exact ⟨h1, h.oc.kept hg (own_off h.oc h.arr (by decide)), h.od.kept hg (own_off h.od h.arr (by decide)), h.ap, h2, four_keep h.x hg (by have := h.gx; omega), h.b.grown hg h.b.size (fun k hk => by injection hk with hk; have := h.gx; omega), h.gx⟩
theorem OrdS.mark3 (h : OrdS w w' gd xs C c3 D c4 n la m b0 b1 b2 b3) : (w'.cell? ⟨gd, 3, none⟩ = some (.bool b3) ∧ w'.frozen? ⟨gd, 3, none⟩ = false) ∧ OrdS w (w'.setCell ⟨gd, 3, none⟩ (.bool true)) gd xs C c3 D c4 n la m b0 b1 b2 true := by
  obtain ⟨h1, h2, hg⟩ := cell_set h.arr 3 (.bool b3) (.bool true) rfl
  exact ⟨h1, h.oc.kept hg (own_off h.oc h.arr (by decide)), h.od.kept hg (own_off h.od h.arr (by decide)), h.ap, h2, four_keep h.x hg (by have := h.gx; omega), h.b.grown hg h.b.size (fun k hk => by injection hk with hk; have := h.gx; omega), h.gx⟩
end
set_option maxRecDepth 20000 in
set_option maxHeartbeats 8000000 in
theorem patchOrder_no (A : Option Addr) (n c : Nat) (l : List UInt8) (x1 x2 x3 x4 : Nat) (O : Option Addr) (on oc : Nat) (os : List Int) (w : World) (hB : Bts w A n c l) (hn : n ≤ 140737488351232) (bx1 : x1 < 65536) (bx2 : x2 < 4294967296) (bx3 : x3 < 4294967296) (bx4 : x4 < 65536) (hol : os.length = on) (hon : on ≤ 140737488351232) (hR : Rd w O (ivs .i64 os)) (hoc : on ≤ oc ∧ oc ≤ maxLen) (hok : okD l = false) :
    Calls Try.prog 5 #[.slice A n c, .agg #[.int .u16 x1, .int .u32 x2, .int .u32 x3, .int .u16 x4], .slice O on oc] w fun e w' => e = .returned (.bool true) ∧ Below w.heap.size w w' := by
  have HB := Lib.hid hB
  have HA1 : Hid (okD l = false ∧ apP l x1 x2 x3 x4 = l) := ⟨hok, ap_no hok _ _ _ _⟩
  clear hB hok hR
  go_enter Try.func5, Try.ntmps5
  go_wp2_with (first
    | (go_at_call 14; ((with_reducible refine (shown6_any _).mono ?_); rintro e w1 ⟨rfl, hb1⟩; have hx1 := blk_below (blk_alloc w (.cells #[.int .u16 x1, .int .u32 x2, .int .u32 x3, .int .u16 x4] 26)) hb1; have hw1 := ((Below.refl w.heap.size w).alloc (Nat.le_refl _) (.cells #[.int .u16 x1, .int .u32 x2, .int .u32 x3, .int .u16 x4] 26)).trans (hb1.mono (by simp))))
    | (go_at_call 15; (fail_if_success have := hw3); ((with_reducible refine (copied_any A n c l _ (HB.out.below hw1) hn).mono ?_); rintro e w3 ⟨C, c3, rfl, ho3, hb3⟩; have hx3 := blk_below hx1 hb3; have hw3 := hw1.trans (hb3.mono hw1.size)))
    | (go_at_call 15; ((with_reducible refine (copied_any A n c l _ (HB.out.below hw3) hn).mono ?_); rintro e w4 ⟨D, c4, rfl, ho4, hb4⟩; have hx4 := blk_below hx3 hb4; have hw4 := hw3.trans (hb4.mono hw3.size); have ho34 := ho3.kept (own_below hb4) (own_none _); obtain ⟨X0, X1, X2, X3⟩ := four_set hx4))
    | (go_at_call 16; ((with_reducible refine (apply_v w.heap.size C n c3 l l x1 x2 x3 x4 false HA1.out.1 HA1.out.2 bx1 bx2 bx3 bx4 _ (own_mono ho34 hw1.size)).mono ?_); rintro e w5 ⟨rfl, ho5, hg5⟩; have hx5 := blk_over ho34 hx4 (by decide) hg5; have hw5 := hw4.grown hg5 hw4.size (own_from (own_mono ho34 hw1.size)); have ho45 := ho4.kept hg5 (own_apart ho3 ho4); have z1 := cv_own ho5; have z2 := cv_rd (c := c) HB.out.len (HB.out.below hw5).rd)))
  go_ret
  exact ⟨by simp, hw5⟩
set_option maxRecDepth 20000 in
set_option maxHeartbeats 8000000 in
theorem patchOrder_yes (A : Option Addr) (n c : Nat) (l : List UInt8) (x1 x2 x3 x4 : Nat) (O : Option Addr) (on oc : Nat) (os : List Int) (w : World) (hB : Bts w A n c l) (hn : n ≤ 140737488351232) (bx1 : x1 < 65536) (bx2 : x2 < 4294967296) (bx3 : x3 < 4294967296) (bx4 : x4 < 65536) (hol : os.length = on) (hon : on ≤ 140737488351232) (hR : Rd w O (ivs .i64 os)) (hoc : on ≤ oc ∧ oc ≤ maxLen) (hok : okD l = true) :
    Calls Try.prog 5 #[.slice A n c, .agg #[.int .u16 x1, .int .u32 x2, .int .u32 x3, .int .u16 x4], .slice O on oc] w fun e w' => e = .returned (.bool true) ∧ Below w.heap.size w w' := by
  have HB := Lib.hid hB
  obtain ⟨la, ha⟩ : ∃ m, apP l x1 x2 x3 x4 = m := ⟨_, rfl⟩
  have HA1 : Hid (okD l = true ∧ apP l x1 x2 x3 x4 = la) := ⟨hok, ha⟩
  have HR := Lib.hid hR
  have HOL := Lib.hid hol
  obtain ⟨hoc1, hoc2⟩ := hoc
  unfold maxLen at hoc2
  clear hB hok ha hR hol
  go_enter Try.func5, Try.ntmps5
  go_wp2_with (first
    | (go_at_call 14; ((with_reducible refine (shown6_any _).mono ?_); rintro e w1 ⟨rfl, hb1⟩; have hx1 := blk_below (blk_alloc w (.cells #[.int .u16 x1, .int .u32 x2, .int .u32 x3, .int .u16 x4] 26)) hb1; have hw1 := ((Below.refl w.heap.size w).alloc (Nat.le_refl _) (.cells #[.int .u16 x1, .int .u32 x2, .int .u32 x3, .int .u16 x4] 26)).trans (hb1.mono (by simp))))
    | (go_at_call 15; (fail_if_success have := hw3); ((with_reducible refine (copied_any A n c l _ (HB.out.below hw1) hn).mono ?_); rintro e w3 ⟨C, c3, rfl, ho3, hb3⟩; have hx3 := blk_below hx1 hb3; have hw3 := hw1.trans (hb3.mono hw1.size)))
    | (go_at_call 15; ((with_reducible refine (copied_any A n c l _ (HB.out.below hw3) hn).mono ?_); rintro e w4 ⟨D, c4, rfl, ho4, hb4⟩; have hx4 := blk_below hx3 hb4; have hw4 := hw3.trans (hb4.mono hw3.size); have ho34 := ho3.kept (own_below hb4) (own_none _); obtain ⟨X0, X1, X2, X3⟩ := four_set hx4))
    | (go_at_call 16; ((with_reducible refine (apply_v w.heap.size C n c3 l la x1 x2 x3 x4 true HA1.out.1 HA1.out.2 bx1 bx2 bx3 bx4 _ (own_mono ho34 hw1.size)).mono ?_); rintro e w5 ⟨rfl, ho5, hg5⟩; have hx5 := blk_over ho34 hx4 (by decide) hg5; have hw5 := hw4.grown hg5 hw4.size (own_from (own_mono ho34 hw1.size)); have ho45 := ho4.kept hg5 (own_apart ho3 ho4); have z1 := cv_own ho5; have z2 := cv_rd (c := c) HB.out.len (HB.out.below hw5).rd)))
  obtain ⟨gd, hgd⟩ : ∃ gd, w5.heap.size = gd := ⟨_, rfl⟩
  have HS0 : Hid (OrdS w (w5.alloc (.cells #[.bool false, .bool false, .bool false, .bool false] 49)) gd #[.int .u16 x1, .int .u32 x2, .int .u32 x3, .int .u16 x4] C c3 D c4 n la l false false false false) :=
    ⟨ho5.alloc _, own_mono (ho45.alloc _) hw3.size, own_apart2 ho3 ho4, by rw [← hgd]; exact blk_alloc _ _, blk_below hx5 ((Below.refl _ _).alloc (Nat.le_refl _) _), hw5.alloc hw5.size _, by have := blk_lt hx5; omega⟩
  rw [hgd]
  clear hgd ho3 ho4 hb1 hb3 hb4 hx1 hx3 hx4 hx5 ho34 X0 X1 X2 X3 ho5 ho45 hg5 z1 z2 hw1 hw3 hw4 hw5
  generalize w5.alloc (.cells #[.bool false, .bool false, .bool false, .bool false] 49) = w6 at *
  go_loopw [10] (fun ix wr => ∃ (i : Nat) (m : List UInt8) (b0 b1 b2 b3 : Bool), ix = .int .i64 i ∧ i ≤ on + 4 ∧ Hid (OrdS w wr gd #[.int .u16 x1, .int .u32 x2, .int .u32 x3, .int .u16 x4] C c3 D c4 n la m b0 b1 b2 b3) ∧ Hid (Ord l m x1 x2 x3 x4 b0 b1 b2 b3) ∧ Hid ((on + 1 ≤ i → b0 = true) ∧ (on + 2 ≤ i → b1 = true) ∧ (on + 3 ≤ i → b2 = true) ∧ (on + 4 ≤ i → b3 = true))) (fun ix _ => on + 4 - (intOf ix).toNat)
  case atStart => exact ⟨0, l, false, false, false, false, rfl, by omega, HS0, ord_start HA1.out.1, ⟨fun h => by omega, fun h => by omega, fun h => by omega, fun h => by omega⟩⟩
  case round =>
    obtain ⟨i, m, b0, b1, b2, b3, rfl, hi, HS, HO, HD⟩ := hrel
    clear HS0
    by_cases hlt : i < on + 4
    · go_upto_if 41 with fail
      go_cut [11] from 42 to 46 (fun s11 wx => ∃ K : Int, s11 = .int .i64 K ∧ (K = 0 ∨ K = 1 ∨ K = 2 ∨ K = 3) ∧ Hid (on ≤ i → K = (i : Int) - on) ∧ wx = wr)
      case first =>
        by_cases hio : i < on
        · have hil : i < os.length := by rw [HOL.out]; exact hio
          obtain ⟨ad, rfl, c0⟩ := (HR.out.below HS.out.b) i (.int .i64 os[i]) (by simp [ivs, hil])
          have h3 := and3 os[i]
          generalize hK : bits .and .i64 os[i] 3 = K at *
          generalize os[i] = x at *
          go_wp2
          all_goals
            first
              | (exfalso; omega)
              | (go_meet
                 exact ⟨K, by first | rfl | rw [hK], by omega, fun h => by omega, rfl⟩)
        · go_wp2
          all_goals
            first
              | (exfalso; omega)
              | (go_meet
                 exact ⟨_, rfl, by omega, fun h => rfl, rfl⟩)
      case rest =>
      obtain ⟨K, rfl, hK, HK, hw⟩ := hcut
      replace hw := hw.symm
      subst hw
      obtain ⟨⟨m0, f0⟩, HS0⟩ := HS.out.mark0
      obtain ⟨⟨m1, f1⟩, HS1⟩ := HS.out.mark1
      obtain ⟨⟨m2, f2⟩, HS2⟩ := HS.out.mark2
      obtain ⟨⟨m3, f3⟩, HS3⟩ := HS.out.mark3
      replace HS0 := Lib.hid HS0
      replace HS1 := Lib.hid HS1
      replace HS2 := Lib.hid HS2
      replace HS3 := Lib.hid HS3
      rcases hK with rfl | rfl | rfl | rfl
      · clear m1 f1 HS1 m2 f2 HS2 m3 f3 HS3
        cases b0
        · obtain ⟨X0, X1, X2, X3⟩ := four_set HS0.out.x
          go_wp2_with ((go_at_call 23; go_loud ((with_reducible refine (seqP_t w.heap.size D n c4 m x1 bx1 HO.out.look _ HS0.out.od).mono ?_); rintro e w7 ⟨rfl, ho7, hg7⟩; have HS7 := Lib.hid (HS0.out.call ho7 hg7))))
          exact ⟨⟨i + 1, setL m 2 2 x1, true, b1, b2, b3, rfl, by omega, HS7, HO.out.seq bx1, ⟨fun h => by first | rfl | exact HD.out.1 (by have := HK.out; omega), fun h => by first | rfl | exact HD.out.2.1 (by have := HK.out; omega), fun h => by first | rfl | exact HD.out.2.2.1 (by have := HK.out; omega), fun h => by first | rfl | exact HD.out.2.2.2 (by have := HK.out; omega)⟩⟩, by simp [intOf]; omega⟩
        · go_wp2
          exact ⟨⟨i + 1, m, true, b1, b2, b3, rfl, by omega, HS, HO, ⟨fun h => by first | rfl | exact HD.out.1 (by have := HK.out; omega), fun h => by first | rfl | exact HD.out.2.1 (by have := HK.out; omega), fun h => by first | rfl | exact HD.out.2.2.1 (by have := HK.out; omega), fun h => by first | rfl | exact HD.out.2.2.2 (by have := HK.out; omega)⟩⟩, by simp [intOf]; omega⟩
      · clear m0 f0 HS0 m2 f2 HS2 m3 f3 HS3
        cases b1
        · obtain ⟨X0, X1, X2, X3⟩ := four_set HS1.out.x
          go_wp2_with ((go_at_call 24; go_loud ((with_reducible refine (timeP_t w.heap.size D n c4 m x2 bx2 HO.out.look _ HS1.out.od).mono ?_); rintro e w7 ⟨rfl, ho7, hg7⟩; have HS7 := Lib.hid (HS1.out.call ho7 hg7))))
          exact ⟨⟨i + 1, setL m 4 4 x2, b0, true, b2, b3, rfl, by omega, HS7, HO.out.time bx2, ⟨fun h => by first | rfl | exact HD.out.1 (by have := HK.out; omega), fun h => by first | rfl | exact HD.out.2.1 (by have := HK.out; omega), fun h => by first | rfl | exact HD.out.2.2.1 (by have := HK.out; omega), fun h => by first | rfl | exact HD.out.2.2.2 (by have := HK.out; omega)⟩⟩, by simp [intOf]; omega⟩
        · go_wp2
          exact ⟨⟨i + 1, m, b0, true, b2, b3, rfl, by omega, HS, HO, ⟨fun h => by first | rfl | exact HD.out.1 (by have := HK.out; omega), fun h => by first | rfl | exact HD.out.2.1 (by have := HK.out; omega), fun h => by first | rfl | exact HD.out.2.2.1 (by have := HK.out; omega), fun h => by first | rfl | exact HD.out.2.2.2 (by have := HK.out; omega)⟩⟩, by simp [intOf]; omega⟩
      · clear m0 f0 HS0 m1 f1 HS1 m3 f3 HS3
        cases b2
        · obtain ⟨X0, X1, X2, X3⟩ := four_set HS2.out.x
          go_wp2_with ((go_at_call 25; go_loud ((with_reducible refine (ssrcP_t w.heap.size D n c4 m x3 bx3 HO.out.look _ HS2.out.od).mono ?_); rintro e w7 ⟨rfl, ho7, hg7⟩; have HS7 := Lib.hid (HS2.out.call ho7 hg7))))
          exact ⟨⟨i + 1, setL m 8 4 x3, b0, b1, true, b3, rfl, by omega, HS7, HO.out.ssrc bx3, ⟨fun h => by first | rfl | exact HD.out.1 (by have := HK.out; omega), fun h => by first | rfl | exact HD.out.2.1 (by have := HK.out; omega), fun h => by first | rfl | exact HD.out.2.2.1 (by have := HK.out; omega), fun h => by first | rfl | exact HD.out.2.2.2 (by have := HK.out; omega)⟩⟩, by simp [intOf]; omega⟩
        · go_wp2
          exact ⟨⟨i + 1, m, b0, b1, true, b3, rfl, by omega, HS, HO, ⟨fun h => by first | rfl | exact HD.out.1 (by have := HK.out; omega), fun h => by first | rfl | exact HD.out.2.1 (by have := HK.out; omega), fun h => by first | rfl | exact HD.out.2.2.1 (by have := HK.out; omega), fun h => by first | rfl | exact HD.out.2.2.2 (by have := HK.out; omega)⟩⟩, by simp [intOf]; omega⟩
      · clear m0 f0 HS0 m1 f1 HS1 m2 f2 HS2
        cases b3
        · obtain ⟨X0, X1, X2, X3⟩ := four_set HS3.out.x
          go_wp2_with ((go_at_call 17; go_loud ((with_reducible refine (frameP_v w.heap.size D n c4 m (frL m 0 x4) 0 x4 true bx4 (by rw [HO.out.ok]; simp) (by unfold frP; rw [HO.out.ok]; simp) _ HS3.out.od).mono ?_); rintro e w7 ⟨rfl, ho7, hg7⟩; have HS7 := Lib.hid (HS3.out.call ho7 hg7))))
          exact ⟨⟨i + 1, frL m 0 x4, b0, b1, b2, true, rfl, by omega, HS7, HO.out.frame (okD_look HA1.out.1) bx4, ⟨fun h => by first | rfl | exact HD.out.1 (by have := HK.out; omega), fun h => by first | rfl | exact HD.out.2.1 (by have := HK.out; omega), fun h => by first | rfl | exact HD.out.2.2.1 (by have := HK.out; omega), fun h => by first | rfl | exact HD.out.2.2.2 (by have := HK.out; omega)⟩⟩, by simp [intOf]; omega⟩
        · go_wp2
          exact ⟨⟨i + 1, m, b0, b1, b2, true, rfl, by omega, HS, HO, ⟨fun h => by first | rfl | exact HD.out.1 (by have := HK.out; omega), fun h => by first | rfl | exact HD.out.2.1 (by have := HK.out; omega), fun h => by first | rfl | exact HD.out.2.2.1 (by have := HK.out; omega), fun h => by first | rfl | exact HD.out.2.2.2 (by have := HK.out; omega)⟩⟩, by simp [intOf]; omega⟩
    · have he : i = on + 4 := by omega
      have e0 := HD.out.1 (by omega)
      have e1 := HD.out.2.1 (by omega)
      have e2 := HD.out.2.2.1 (by omega)
      have e3 := HD.out.2.2.2 (by omega)
      subst e0 e1 e2 e3
      have em := HO.out.all HA1.out.1 bx1 bx2 bx3 bx4
      rw [HA1.out.2] at em
      subst em
      clear he
      have z1 := cv_own HS.out.oc
      have z2 := cv_own HS.out.od
      go_wp2
      go_ret
      exact ⟨by simp, HS.out.b⟩
namespace patchOrder
theorem patchOrder_walk (A : Option Addr) (n c : Nat) (l : List UInt8) (s t r f : Int) (O : Option Addr) (on oc : Nat) (os : List Int) (w : World) (hl : l.length = n) (hc : n ≤ c) (hm : c ≤ maxLen) (hn : n ≤ 140737488351232) (hA : A = none → n = 0 ∧ c = 0) (hr : Rd w A (bys l))
    (hp : (0 ≤ s ∧ s ≤ 65535) ∧ (0 ≤ t ∧ t ≤ 4294967295) ∧ (0 ≤ r ∧ r ≤ 4294967295) ∧ (0 ≤ f ∧ f ≤ 65535)) (hl2 : os.length = on) (hc2 : on ≤ oc) (hm2 : oc ≤ maxLen) (hn2 : on * 8 ≤ 140737488351232) (hA2 : O = none → on = 0 ∧ oc = 0) (hr2 : Rd w O (ivs .i64 os)) (hw2 : ∀ x ∈ os, (Lit.int .i64 x).wf = true) :
    Calls Try.prog 5 #[.slice A n c, .agg #[.int .u16 s, .int .u32 t, .int .u32 r, .int .u16 f], .slice O on oc] w fun e w' => e = .returned (.bool true) ∧ Below w.heap.size w w' := by
  obtain ⟨s, rfl⟩ : ∃ m : Nat, s = (m : Int) := ⟨s.toNat, by omega⟩
  obtain ⟨t, rfl⟩ : ∃ m : Nat, t = (m : Int) := ⟨t.toNat, by omega⟩
  obtain ⟨r, rfl⟩ : ∃ m : Nat, r = (m : Int) := ⟨r.toNat, by omega⟩
  obtain ⟨f, rfl⟩ : ∃ m : Nat, f = (m : Int) := ⟨f.toNat, by omega⟩
  cases hok : okD l
  · exact patchOrder_no A n c l s t r f O on oc os w ⟨hl, hc, hm, hr⟩ hn (by omega) (by omega) (by omega) (by omega) hl2 (by omega) hr2 ⟨hc2, hm2⟩ hok
  · exact patchOrder_yes A n c l s t r f O on oc os w ⟨hl, hc, hm, hr⟩ hn (by omega) (by omega) (by omega) (by omega) hl2 (by omega) hr2 ⟨hc2, hm2⟩ hok
end patchOrder
namespace patchOrder
open Go.ChangeShapes Go.WideShapes Go.ChangeAt Go.RowKit
open Go.ChangeMaps (open_string shut_string)
set_option linter.unusedVariables false

theorem own : ownKnob Try.prog.godebug = none := by kernel_rfl
theorem laidOut : laidOutB Try.prog = true := by kernel_rfl

set_option maxRecDepth 100000 in
theorem lifted (os : Os) (started : os.Started) (H : Type) (enc : TypeId × Value → H) :
    ReturnsInHanded {} Try.checked os 5 .any (Rows.patchOrderSpec.pre6 enc Try.prog Try.f5 Rows.patchOrderRow.domain false) (Rows.patchOrderSpec.post enc Try.prog Try.f5 false true false false) := by
  refine returnsInHanded_of_change_sized (C := Try.checked) own started (by kernel_rfl) Try.func5
    (ChangeSpec.witness6 (enc := enc) (C := Try.checked) false ⟨#[], #[.slice none 0 0, .agg #[.int .u16 0, .int .u32 0, .int .u32 0, .int .u16 0], .slice none 0 0], []⟩ 8 (by kernel_rfl) (by kernel_rfl) (by kernel_rfl) (by kernel_rfl)) ?_
  intro W base args ds gs before hval0 hW hcnd hsz0 _
  have hsz : (DataW.weightsEach Try.prog (Try.f5.params.toList ++ Rows.patchOrderSpec.plain.varTypes Try.prog) (ds ++ gs)).all (· ≤ reachBytes) = true := hsz0
  have hval : ∀ (j : Nat) t v, Try.f5.params[j]? = some t → args[j]? = some v → Value.okWide Try.prog W .any base t v := hval0
  have hW' := hW
  obtain ⟨p, q, hA0, hV, rfl, hfz, hnd⟩ := hW
  have hA : DataW.TrodAll enc Try.prog W 0 (fun _ => true) true Try.f5.params.toList args.toList ds p := hA0
  rw [Try.params5] at hA hval hsz
  obtain ⟨v0, vs0, d0, ds0, p0, q0, hargs, rfl, rfl, h0, r0⟩ := trodAll_cons hA
  obtain ⟨v1, vs1, d1, ds1, p1, q1, rfl, rfl, rfl, h1, r1⟩ := trodAll_cons r0
  obtain ⟨v2, vs2, d2, ds2, p2, q2, rfl, rfl, rfl, h2, r2⟩ := trodAll_cons r1
  obtain ⟨rfl, rfl, rfl⟩ := trodAll_nil r2
  obtain rfl : args = #[v0, v1, v2] := by cases args; simp_all
  obtain ⟨rfl, rfl⟩ := trodVars_none hV
  obtain ⟨a0, len0, cap0, rfl⟩ := okWide_slice Try.underlying22 (hval 0 22 v0 rfl rfl)
  have k0 := h0
  have lt0 : ∀ x ∈ p0, x.block < W.heap.size := by obtain ⟨m, hm⟩ := k0; exact DataW.trod_lt m _ _ _ hm
  obtain ⟨l0, n0, nc0, cm0, nl0, rd0, hl0⟩ : ∃ l : List UInt8, l.length = len0 ∧ len0 ≤ cap0 ∧ cap0 ≤ maxLen ∧ (a0 = none → len0 = 0 ∧ cap0 = 0) ∧ Rd W a0 (bys l) ∧ (len0 = 0 ∨ ∃ es sp, d0 = .slice es sp ∧ es.length = len0) := by
    obtain ⟨fuel, hf⟩ := h0
    exact open_byte_slice Try.underlying22 Try.underlying5 (by kernel_rfl) hf
  have hb0 : len0 * 1 ≤ 140737488351232 := reach_slice hsz (j := 0) rfl rfl Try.underlying22 (by kernel_rfl) hl0
  rw [Nat.mul_one] at hb0
  obtain ⟨s1, t1, m1, f1, rfl, rfl, rfl, wS1, wT1, wR1, wF1⟩ := open_patch (hval 1 26 v1 rfl rfl) h1
  obtain ⟨a2, len2, cap2, rfl⟩ := okWide_slice Try.underlying48 (hval 2 48 v2 rfl rfl)
  have k2 := h2
  have lt2 : ∀ x ∈ p2, x.block < W.heap.size := by obtain ⟨m, hm⟩ := k2; exact DataW.trod_lt m _ _ _ hm
  obtain ⟨l2, n2, nc2, cm2, nl2, rd2, wf2, hl2⟩ : ∃ l : List Int, l.length = len2 ∧ len2 ≤ cap2 ∧ cap2 ≤ maxLen ∧ (a2 = none → len2 = 0 ∧ cap2 = 0) ∧ Rd W a2 (ivs .i64 l) ∧ (∀ n ∈ l, (Lit.int .i64 n).wf = true) ∧ (len2 = 0 ∨ ∃ es sp, d2 = .slice es sp ∧ es.length = len2) := by
    obtain ⟨fuel, hf⟩ := h2
    exact open_int_slice Try.underlying48 Try.underlying3 (by kernel_rfl) hf
  have hb2 : len2 * 8 ≤ 140737488351232 := reach_slice hsz (j := 2) rfl rfl Try.underlying48 (by kernel_rfl) hl2
  clear hA0 hval0 hsz0
  refine (patchOrder_walk a0 len0 cap0 l0 s1 t1 m1 f1 a2 len2 cap2 l2 W n0 nc0 cm0 hb0 nl0 rd0 ⟨bounds_u16 wS1, bounds_u32 wT1, bounds_u32 wR1, bounds_u16 wF1⟩ n2 nc2 cm2 hb2 nl2 rd2 wf2).mono fun e W' ⟨he, bel⟩ => ?_
  subst he
  exact ⟨_, rfl, _, _, _, [], _, [], hW', trodAll_mk1 (shut_bool Try.underlying4 _), (trodAll_cons_mk (Below.trod laidOut (by kernel_rfl) (of_decide_eq_true (by kernel_rfl)) k0 bel lt0) (trodAll_cons_mk (shut_patch wS1 wT1 wR1 wF1) (trodAll_cons_mk (Below.trod laidOut (by kernel_rfl) (of_decide_eq_true (by kernel_rfl)) k2 bel lt2) trodAll_mk0))), rfl, bel.frame _, fun h => by cases h⟩

/-- The statement. -/
theorem proved : Rows.PatchOrderSaid :=
  OpenClaim.holds_of_wide 5 Try.f5 rfl rfl rfl rfl rfl rfl rfl ⟨rfl, rfl, rfl, rfl, rfl⟩ rfl rfl rfl rfl rfl (by kernel_rfl) Try.func5 (by kernel_rfl)
    (of_decide_eq_true (by kernel_rfl)) (by unfold Func.isWrapper; rw [if_neg (of_decide_eq_false (by kernel_rfl))]; exact ⟨rfl, rfl⟩)
    (fun os started H enc _ => lifted os started H enc)
#print axioms proved
end patchOrder
end Go.Proofs.Ytaomdinddccpeaa
