/-
same and May of package text.
-/
import Derived.Test.YtaghecgjmkhpcaaGreatDoorTx2
import Derived.Test.YtaghecgjmkhpcaaGreatDoorTx4
import Derived.Deep.CutBlock
namespace Go.Proofs.YtaghecgjmkhpcaaGreatDoor
set_option linter.unusedVariables false
set_option linter.unusedSimpArgs false
open Go Go.RowKit

abbrev opC (k p s y : Int) (nm : List UInt8) (A : Option Addr) (an ac : Nat) (B : Option Addr) (bn bc : Nat) : Array Value := #[.int .i64 k, .int .i64 p, .int .i64 s, .int .i64 y, .string ⟨nm.toArray⟩, .slice A an ac, .slice B bn bc]
theorem below_nextT {w w1 w2 : World} (h : Below w.heap.size w w1) (h2 : Below w1.heap.size w1 w2) : Below w.heap.size w w2 := h.trans (h2.mono h.size)
theorem two_newT (w : World) (o1 o2 : Obj) : Below w.heap.size w ((w.alloc o1).alloc o2) ∧ ((w.alloc o1).alloc o2).heap[w.heap.size]? = some o1 ∧ ((w.alloc o1).alloc o2).heap[w.heap.size + 1]? = some o2 :=
  ⟨((Below.refl _ w).alloc (Nat.le_refl _) _).alloc (by simp) _, alx_keep (alx_new _ _ rfl) _, alx_new _ _ (by simp)⟩
set_option maxRecDepth 20000 in
set_option maxHeartbeats 1000000 in
theorem same_v (k p s y : Int) (nm : List UInt8) (A : Option Addr) (an ac : Nat) (B : Option Addr) (bn bc : Nat) (s' y' : Int) (nm' : List UInt8) (A' : Option Addr) (an' ac' : Nat) (B' : Option Addr) (bn' bc' : Nat) (eU eB : Bool) (w : World)
    (hU : ∀ w', Below w.heap.size w w' → Calls Tryz.prog 32 #[.slice A an ac, .slice A' an' ac'] w' fun e w'' => e = .returned (.bool eU) ∧ Below w'.heap.size w' w'')
    (hB : ∀ w', Below w.heap.size w w' → Calls Tryz.prog 33 #[.slice B bn bc, .slice B' bn' bc'] w' fun e w'' => e = .returned (.bool eB) ∧ Below w'.heap.size w' w'') :
    Calls Tryz.prog 13 #[opA k p s y nm A an ac B bn bc, opA k p s' y' nm' A' an' ac' B' bn' bc'] w fun e w' => e = .returned (.bool ((s == s') && (y == y') && (nm == nm') && eU && eB)) ∧ Below w.heap.size w w' := by
  obtain ⟨hb0, hi0, hj0⟩ := two_newT w (.cells (opC k p s y nm A an ac B bn bc) 27) (.cells (opC k p s' y' nm' A' an' ac' B' bn' bc') 27)
  obtain ⟨x0, x1, x2, x3, x4, x5, x6⟩ := seven_cells hi0
  obtain ⟨y0, y1, y2, y3, y4, y5, y6⟩ := seven_cells hj0
  have HU := Lib.hid hU
  have HB := Lib.hid hB
  clear hU hB
  by_cases c1' : (s == s') = false
  · have e : (s == s' && y == y' && nm == nm' && eU && eB) = false := by rw [c1']; simp
    rw [e]
    clear e
    go_enter Tryz.func13, Tryz.ntmps13
    go_upto_region 1 with fail
    generalize (w.alloc _).alloc _ = w2 at *
    go_wp2_with (first
      | (go_at_call 32; (with_reducible refine (HU.out _ hb0).mono ?_); rintro e w3 ⟨rfl, hb3⟩; have hB3 := below_nextT hb0 hb3; obtain ⟨z0, z1, z2, z3, z4, z5, z6⟩ := seven_cells (blk_below hi0 hb3); obtain ⟨u0, u1, u2, u3, u4, u5, u6⟩ := seven_cells (blk_below hj0 hb3))
      | (go_at_call 33; (with_reducible refine (HB.out _ hB3).mono ?_); rintro e w4 ⟨rfl, hb4⟩; have hB4 := below_nextT hB3 hb4))
    go_ret
    exact ⟨rfl, hb0⟩
  have c1 : (s == s') = true := by simpa using c1'
  clear c1'
  by_cases c2' : (y == y') = false
  · have e : (s == s' && y == y' && nm == nm' && eU && eB) = false := by rw [c1, c2']; simp
    rw [e]
    clear e
    go_enter Tryz.func13, Tryz.ntmps13
    go_upto_region 1 with fail
    generalize (w.alloc _).alloc _ = w2 at *
    go_wp2_with (first
      | (go_at_call 32; (with_reducible refine (HU.out _ hb0).mono ?_); rintro e w3 ⟨rfl, hb3⟩; have hB3 := below_nextT hb0 hb3; obtain ⟨z0, z1, z2, z3, z4, z5, z6⟩ := seven_cells (blk_below hi0 hb3); obtain ⟨u0, u1, u2, u3, u4, u5, u6⟩ := seven_cells (blk_below hj0 hb3))
      | (go_at_call 33; (with_reducible refine (HB.out _ hB3).mono ?_); rintro e w4 ⟨rfl, hb4⟩; have hB4 := below_nextT hB3 hb4))
    go_ret
    exact ⟨rfl, hb0⟩
  have c2 : (y == y') = true := by simpa using c2'
  clear c2'
  by_cases c3' : (nm == nm') = false
  · have e : (s == s' && y == y' && nm == nm' && eU && eB) = false := by rw [c1, c2, c3']; simp
    rw [e]
    clear e
    go_enter Tryz.func13, Tryz.ntmps13
    go_upto_region 1 with fail
    generalize (w.alloc _).alloc _ = w2 at *
    go_wp2_with (first
      | (go_at_call 32; (with_reducible refine (HU.out _ hb0).mono ?_); rintro e w3 ⟨rfl, hb3⟩; have hB3 := below_nextT hb0 hb3; obtain ⟨z0, z1, z2, z3, z4, z5, z6⟩ := seven_cells (blk_below hi0 hb3); obtain ⟨u0, u1, u2, u3, u4, u5, u6⟩ := seven_cells (blk_below hj0 hb3))
      | (go_at_call 33; (with_reducible refine (HB.out _ hB3).mono ?_); rintro e w4 ⟨rfl, hb4⟩; have hB4 := below_nextT hB3 hb4))
    go_ret
    exact ⟨rfl, hb0⟩
  have c3 : (nm == nm') = true := by simpa using c3'
  clear c3'
  by_cases c4' : eU = false
  · have e : (s == s' && y == y' && nm == nm' && eU && eB) = false := by rw [c1, c2, c3, c4']; simp
    rw [e]
    clear e
    go_enter Tryz.func13, Tryz.ntmps13
    go_upto_region 1 with fail
    generalize (w.alloc _).alloc _ = w2 at *
    go_wp2_with (first
      | (go_at_call 32; (with_reducible refine (HU.out _ hb0).mono ?_); rintro e w3 ⟨rfl, hb3⟩; have hB3 := below_nextT hb0 hb3; obtain ⟨z0, z1, z2, z3, z4, z5, z6⟩ := seven_cells (blk_below hi0 hb3); obtain ⟨u0, u1, u2, u3, u4, u5, u6⟩ := seven_cells (blk_below hj0 hb3))
      | (go_at_call 33; (with_reducible refine (HB.out _ hB3).mono ?_); rintro e w4 ⟨rfl, hb4⟩; have hB4 := below_nextT hB3 hb4))
    go_ret
    exact ⟨rfl, hB3⟩
  have c4 : eU = true := by simpa using c4'
  clear c4'
  have e : (s == s' && y == y' && nm == nm' && eU && eB) = eB := by rw [c1, c2, c3, c4]; simp
  rw [e]
  clear e
  go_enter Tryz.func13, Tryz.ntmps13
  go_upto_region 1 with fail
  generalize (w.alloc _).alloc _ = w2 at *
  go_wp2_with (first
    | (go_at_call 32; (with_reducible refine (HU.out _ hb0).mono ?_); rintro e w3 ⟨rfl, hb3⟩; have hB3 := below_nextT hb0 hb3; obtain ⟨z0, z1, z2, z3, z4, z5, z6⟩ := seven_cells (blk_below hi0 hb3); obtain ⟨u0, u1, u2, u3, u4, u5, u6⟩ := seven_cells (blk_below hj0 hb3))
    | (go_at_call 33; (with_reducible refine (HB.out _ hB3).mono ?_); rintro e w4 ⟨rfl, hb4⟩; have hB4 := below_nextT hB3 hb4))
  go_ret
  exact ⟨rfl, hB4⟩
end Go.Proofs.YtaghecgjmkhpcaaGreatDoor
