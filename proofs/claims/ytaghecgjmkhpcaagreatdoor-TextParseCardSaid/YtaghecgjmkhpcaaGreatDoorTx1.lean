/-
words, number, named of package text.
-/
import Derived.Test.YtaghecgjmkhpcaaGreatDoorTxN
import Derived.Test.YtaghecgjmkhpcaaGreatDoorFrame
import Derived.Test.YtaghecgjmkhpcaaGreatDoorField2
import Derived.Laws.ResultCell
namespace Go.Proofs.YtaghecgjmkhpcaaGreatDoor
set_option linter.unusedVariables false
set_option linter.unusedSimpArgs false
open Go Go.RowKit

theorem alx_keep {w : World} {g : Nat} {o : Obj} (h : w.heap[g]? = some o) (o' : Obj) : (w.alloc o').heap[g]? = some o := blk_below h ((Below.refl w.heap.size w).alloc (Nat.le_refl _) o')
theorem alx_new (w : World) (o : Obj) {k : Nat} (hk : w.heap.size = k) : (w.alloc o).heap[k]? = some o := by subst hk; exact heap_alloc_new w o
theorem res_c {fn : Func} {p : Tmp} {ty : TypeId} {P : Program} (h : fn.results = #[.cell p ty]) (tmps : Array Value) (w : World) (g : Nat) (t : TypeId) (cs : Array Value) (fr : Nat × Nat) (fs : Array Field)
    (hp : tmps.getD p undef = .pointer (some ⟨g, 0, none⟩)) (hg : w.heap[g]? = some (.cells cs t fr)) (hu : P.underlying ty = some (.struct fs)) (hi : (P.info? ty).map (·.size) = some cs.size) :
    (results fn tmps).run P w = .ok (.agg cs) w := results_cell_row h tmps w g t cs fr (.struct fs) hp hg hu rfl hi
/-- An operation's value. -/
abbrev opA (k p s y : Int) (nm : List UInt8) (A : Option Addr) (an ac : Nat) (B : Option Addr) (bn bc : Nat) : Value := .agg #[.int .i64 k, .int .i64 p, .int .i64 s, .int .i64 y, .string ⟨nm.toArray⟩, .slice A an ac, .slice B bn bc]
theorem number_any (n : Int) (w : World) : Calls Tryz.prog 15 #[.int .i64 n] w fun e w' => e = .returned (.bool (smlB n)) ∧ w' = w := by
  have hc : ((decide (0 ≤ n) = false) ∧ smlB n = false) ∨ (decide (0 ≤ n) = true ∧ decide (n ≤ 999) = smlB n) := by
    unfold smlB
    by_cases h : 0 ≤ n
    · right
      simp [h]
    · left
      simp [h]
  rcases hc with ⟨h1, h2⟩ | ⟨h1, h2⟩
  · rw [h2]
    clear h2
    go_enter Tryz.func15, Tryz.ntmps15
    go_wp2
    go_ret
    exact ⟨rfl, rfl⟩
  · rw [← h2]
    clear h2
    go_enter Tryz.func15, Tryz.ntmps15
    go_wp2
    go_ret
    exact ⟨rfl, rfl⟩
def wordsV : Array Value := (wordsT.map fun l => Value.string ⟨l.toArray⟩).toArray
theorem words_any (w : World) : Calls Tryz.prog 38 #[] w fun e w' => e = .returned (.slice (some ⟨w.heap.size, 0, none⟩) 13 13) ∧ w' = w.alloc (.cells wordsV 9) := by
  go_enter Tryz.func38, Tryz.ntmps38
  go_wp2
  go_ret
  exact ⟨rfl, rfl⟩
set_option maxRecDepth 20000 in
set_option maxHeartbeats 1000000 in
theorem named_1 (p s y : Int) (nm : List UInt8) (A : Option Addr) (an ac : Nat) (B : Option Addr) (bn bc : Nat) (w : World) :
    Calls Tryz.prog 14 #[opA 1 p s y nm A an ac B bn bc] w fun e w' => e = .returned (opA 1 p 0 0 [] none 0 0 B bn bc) ∧ Below w.heap.size w w' := by
  go_enter Tryz.func14, Tryz.ntmps14
  go_wp2_with fail
  exact bodyPost_ret (v := opA 1 p 0 0 [] none 0 0 B bn bc) (res_c rfl _ _ (w.heap.size + 1) _ _ _ _ rfl (alx_keep (alx_new _ _ (by simp)) _) Tryz.underlying27 (by kernel_rfl)) rfl ⟨rfl, by first | exact (((Below.refl _ w).alloc (Nat.le_refl _) _).alloc (by simp) _).alloc (by simp; omega) _ | exact ((((Below.refl _ w).alloc (Nat.le_refl _) _).alloc (by simp) _).alloc (by simp; omega) _).drew⟩
set_option maxRecDepth 20000 in
set_option maxHeartbeats 1000000 in
theorem named_2 (p s y : Int) (nm : List UInt8) (A : Option Addr) (an ac : Nat) (B : Option Addr) (bn bc : Nat) (w : World) :
    Calls Tryz.prog 14 #[opA 2 p s y nm A an ac B bn bc] w fun e w' => e = .returned (opA 2 p 0 0 nm none 0 0 none 0 0) ∧ Below w.heap.size w w' := by
  go_enter Tryz.func14, Tryz.ntmps14
  go_wp2_with fail
  exact bodyPost_ret (v := opA 2 p 0 0 nm none 0 0 none 0 0) (res_c rfl _ _ (w.heap.size + 1) _ _ _ _ rfl (alx_keep (alx_new _ _ (by simp)) _) Tryz.underlying27 (by kernel_rfl)) rfl ⟨rfl, by first | exact (((Below.refl _ w).alloc (Nat.le_refl _) _).alloc (by simp) _).alloc (by simp; omega) _ | exact ((((Below.refl _ w).alloc (Nat.le_refl _) _).alloc (by simp) _).alloc (by simp; omega) _).drew⟩
set_option maxRecDepth 20000 in
set_option maxHeartbeats 1000000 in
theorem named_3 (p s y : Int) (nm : List UInt8) (A : Option Addr) (an ac : Nat) (B : Option Addr) (bn bc : Nat) (w : World) :
    Calls Tryz.prog 14 #[opA 3 p s y nm A an ac B bn bc] w fun e w' => e = .returned (opA 3 p 0 0 [] none 0 0 none 0 0) ∧ Below w.heap.size w w' := by
  go_enter Tryz.func14, Tryz.ntmps14
  go_wp2_with fail
  exact bodyPost_ret (v := opA 3 p 0 0 [] none 0 0 none 0 0) (res_c rfl _ _ (w.heap.size + 1) _ _ _ _ rfl (alx_keep (alx_new _ _ (by simp)) _) Tryz.underlying27 (by kernel_rfl)) rfl ⟨rfl, by first | exact (((Below.refl _ w).alloc (Nat.le_refl _) _).alloc (by simp) _).alloc (by simp; omega) _ | exact ((((Below.refl _ w).alloc (Nat.le_refl _) _).alloc (by simp) _).alloc (by simp; omega) _).drew⟩
set_option maxRecDepth 20000 in
set_option maxHeartbeats 1000000 in
theorem named_4 (p s y : Int) (nm : List UInt8) (A : Option Addr) (an ac : Nat) (B : Option Addr) (bn bc : Nat) (w : World) :
    Calls Tryz.prog 14 #[opA 4 p s y nm A an ac B bn bc] w fun e w' => e = .returned (opA 4 p s 0 [] A an ac none 0 0) ∧ Below w.heap.size w w' := by
  go_enter Tryz.func14, Tryz.ntmps14
  go_wp2_with fail
  go_region
  all_goals go_wp2
  all_goals
    exact bodyPost_ret (v := opA 4 p s 0 [] A an ac none 0 0) (res_c rfl _ _ (w.heap.size + 1) _ _ _ _ rfl (alx_keep (alx_new _ _ (by simp)) _) Tryz.underlying27 (by kernel_rfl)) rfl ⟨rfl, by first | exact (((Below.refl _ w).alloc (Nat.le_refl _) _).alloc (by simp) _).alloc (by simp; omega) _ | exact ((((Below.refl _ w).alloc (Nat.le_refl _) _).alloc (by simp) _).alloc (by simp; omega) _).drew⟩
set_option maxRecDepth 20000 in
set_option maxHeartbeats 1000000 in
theorem named_6 (p s y : Int) (nm : List UInt8) (A : Option Addr) (an ac : Nat) (B : Option Addr) (bn bc : Nat) (w : World) :
    Calls Tryz.prog 14 #[opA 6 p s y nm A an ac B bn bc] w fun e w' => e = .returned (opA 6 p s y [] none 0 0 none 0 0) ∧ Below w.heap.size w w' := by
  go_enter Tryz.func14, Tryz.ntmps14
  go_wp2_with fail
  go_region
  all_goals go_wp2
  all_goals
    exact bodyPost_ret (v := opA 6 p s y [] none 0 0 none 0 0) (res_c rfl _ _ (w.heap.size + 1) _ _ _ _ rfl (alx_keep (alx_new _ _ (by simp)) _) Tryz.underlying27 (by kernel_rfl)) rfl ⟨rfl, by first | exact (((Below.refl _ w).alloc (Nat.le_refl _) _).alloc (by simp) _).alloc (by simp; omega) _ | exact ((((Below.refl _ w).alloc (Nat.le_refl _) _).alloc (by simp) _).alloc (by simp; omega) _).drew⟩
set_option maxRecDepth 20000 in
set_option maxHeartbeats 1000000 in
theorem named_12 (p s y : Int) (nm : List UInt8) (A : Option Addr) (an ac : Nat) (B : Option Addr) (bn bc : Nat) (w : World) :
    Calls Tryz.prog 14 #[opA 12 p s y nm A an ac B bn bc] w fun e w' => e = .returned (opA 12 p s y [] none 0 0 none 0 0) ∧ Below w.heap.size w w' := by
  go_enter Tryz.func14, Tryz.ntmps14
  go_wp2_with fail
  go_region
  all_goals go_wp2
  all_goals
    exact bodyPost_ret (v := opA 12 p s y [] none 0 0 none 0 0) (res_c rfl _ _ (w.heap.size + 1) _ _ _ _ rfl (alx_keep (alx_new _ _ (by simp)) _) Tryz.underlying27 (by kernel_rfl)) rfl ⟨rfl, by first | exact (((Below.refl _ w).alloc (Nat.le_refl _) _).alloc (by simp) _).alloc (by simp; omega) _ | exact ((((Below.refl _ w).alloc (Nat.le_refl _) _).alloc (by simp) _).alloc (by simp; omega) _).drew⟩
set_option maxRecDepth 20000 in
set_option maxHeartbeats 1000000 in
theorem named_o (k : Int) (h1 : (k == 1) = false) (h2 : (k == 2) = false) (h3 : (k == 3) = false) (h4 : (k == 4) = false) (h6 : (k == 6) = false) (h12 : (k == 12) = false) (p s y : Int) (nm : List UInt8) (A : Option Addr) (an ac : Nat) (B : Option Addr) (bn bc : Nat) (w : World) :
    Calls Tryz.prog 14 #[opA k p s y nm A an ac B bn bc] w fun e w' => e = .returned (opA k p s 0 [] none 0 0 none 0 0) ∧ Below w.heap.size w w' := by
  go_enter Tryz.func14, Tryz.ntmps14
  go_wp2_with fail
  exact bodyPost_ret (v := opA k p s 0 [] none 0 0 none 0 0) (res_c rfl _ _ (w.heap.size + 1) _ _ _ _ rfl (alx_keep (alx_new _ _ (by simp)) _) Tryz.underlying27 (by kernel_rfl)) rfl ⟨rfl, by first | exact (((Below.refl _ w).alloc (Nat.le_refl _) _).alloc (by simp) _).alloc (by simp; omega) _ | exact ((((Below.refl _ w).alloc (Nat.le_refl _) _).alloc (by simp) _).alloc (by simp; omega) _).drew⟩
end Go.Proofs.YtaghecgjmkhpcaaGreatDoor
