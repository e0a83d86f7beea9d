/-
What desc.Get does, and what the document's own descriptors are, said of cells.
-/
import Derived.Test.YtgmgjblekejgnaaDesc
import Derived.StillTailTactics
namespace Go.Proofs.Ytgmgjblekejgnaa
set_option linter.unusedVariables false
set_option linter.unusedSimpArgs false
open Go.RowKit

theorem still_tail {P : Program} {id : Nat} {Q : Exit → Act → World → Prop} {a : Act} {w : World} {l : List Oper} (n : Nat) (hm : P.follows .mixedOrders = true) (hB : Region.lexTailB .any l.toArray n = true)
    (h : wpStill P l.toArray w.drew (fun a' => wpList P l.toArray Q (l.drop n) a' w.drew) (l.take n) a) : (Code.region id l.toArray true).wp P Q a w := wp_region_still_tail n hm hB h
theorem dget_short (A : Option Addr) (n c : Nat) (w : World) (h : n < 4) :
    Calls Try.prog 21 #[.slice A n c] w fun e w' => e = .returned (.tuple #[descV 0 false false 0, .int .i64 2]) ∧ Below w.heap.size w w' := by
  go_enter Try.func21, Try.ntmps21
  go_wp2
  exact bodyPost_ret (v := .tuple #[.agg #[.int .i64 0, .bool false, .bool false, .int .u16 0], .int .i64 2]) (by simp [results, Try.results21, go_sem]) rfl ⟨rfl, (Below.refl _ _).alloc (Nat.le_refl _) _⟩

theorem byte_bits : ∀ k : Nat, k < 256 → bits .and .u8 (k : Int) 60 = ((k / 4 % 16 * 4 : Nat) : Int) ∧ bits .and .u8 (k : Int) 3 = ((k % 4 : Nat) : Int) ∧ (bits .and .u8 (k : Int) 128 != 0) = decide (128 ≤ k) ∧ (bits .and .u8 (k : Int) 64 != 0) = decide (k / 64 % 2 = 1) := by
  have h : (List.range 256).all (fun k => decide (bits .and .u8 (k : Int) 60 = ((k / 4 % 16 * 4 : Nat) : Int) ∧ bits .and .u8 (k : Int) 3 = ((k % 4 : Nat) : Int) ∧ (bits .and .u8 (k : Int) 128 != 0) = decide (128 ≤ k) ∧ (bits .and .u8 (k : Int) 64 != 0) = decide (k / 64 % 2 = 1))) = true := by kernel_rfl
  intro k hk
  exact of_decide_eq_true (List.all_eq_true.1 h k (List.mem_range.2 hk))
/-- What stands in four bytes. -/
def dE (l : List UInt8) : Int := if l.length < 4 then 2 else if (l[0]?.getD 0).toNat / 4 % 16 ≠ 0 ∨ (l[0]?.getD 0).toNat % 4 = 3 ∨ (l[1]?.getD 0).toNat ≠ 90 then 1 else 0
def dOk (l : List UInt8) : Bool := dE l == 0
def dL (l : List UInt8) : Nat := if dOk l then (l[0]?.getD 0).toNat % 4 else 0
def dK (l : List UInt8) : Bool := dOk l && decide (128 ≤ (l[0]?.getD 0).toNat)
def dS (l : List UInt8) : Bool := dOk l && decide ((l[0]?.getD 0).toNat / 64 % 2 = 1)
def dF (l : List UInt8) : Nat := if dOk l then getN l 2 2 else 0
theorem getN_2 (l : List UInt8) (a : Int) : getN l a 2 < 65536 := by
  unfold getN
  split
  · have := beN_lt (part l a.toNat (2 : Int).toNat)
    have h2 : (part l a.toNat (2 : Int).toNat).length ≤ 2 := by simp [part]; omega
    have : 256 ^ (part l a.toNat (2 : Int).toNat).length ≤ 256 ^ 2 := Nat.pow_le_pow_right (by omega) h2
    omega
  · omega
set_option maxHeartbeats 1000000 in
theorem dget_ok (g : Addr) (n c : Nat) (l : List UInt8) (x y : UInt8) (w : World) (hn : l.length = n) (hnc : n ≤ c) (hcm : c ≤ maxLen) (hr : Rd w (some g) (bys l)) (h0 : w.cell? g = some (.int .u8 x.toNat)) (h1 : w.cell? ⟨g.block, g.off + 1, none⟩ = some (.int .u8 y.toNat)) (h : 4 ≤ n)
    (e1 : bits .and .u8 (x.toNat : Int) 60 = 0) (e2 : (bits .and .u8 (x.toNat : Int) 3 == 3) = false) (e3 : (y.toNat : Int) = 90) :
    Calls Try.prog 21 #[.slice (some g) n c] w fun e w' => e = .returned (.tuple #[descV (wrap64 (bits .and .u8 (x.toNat : Int) 3)) (bits .and .u8 (x.toNat : Int) 128 != 0) (bits .and .u8 (x.toNat : Int) 64 != 0) (IntKind.u16.wrap (getN l 2 2)), .int .i64 0]) ∧ Below w.heap.size w w' := by
  have hb1 := fun o => (Below.refl w.heap.size w).alloc (Nat.le_refl _) o
  have ha := fun o => below_cell (hb1 o) h0
  have hb := fun o => below_cell (hb1 o) h1
  have hd : ∀ o, (w.alloc o).drew.cell? g = some (.int .u8 x.toNat) := fun o => ha o
  have hn0 : 0 < n := by omega
  have hr1 := fun o => hr.below (hb1 o)
  clear h0 h1
  go_enter Try.func21, Try.ntmps21
  go_wp2_with (go_at_call 13; (with_reducible refine (get_any (some g) n c l 2 2 _ hn hnc hcm (hr1 _) (by omega) (by omega)).mono ?_); rintro e w' ⟨rfl, rfl⟩)
  all_goals
    refine still_tail 18 (by kernel_rfl) (by kernel_rfl) ?_
    simp only [List.take_succ_cons, List.take_zero, List.drop_succ_cons, List.drop_zero]
    repeat still_step
    refine wpStill_nil ?_
    go_wp2
    exact bodyPost_ret (v := .tuple #[descV (wrap64 (bits .and .u8 (x.toNat : Int) 3)) (bits .and .u8 (x.toNat : Int) 128 != 0) (bits .and .u8 (x.toNat : Int) 64 != 0) (IntKind.u16.wrap (getN l 2 2)), .int .i64 0]) (by simp [results, Try.results21, go_sem, descV]) rfl ⟨rfl, (hb1 _).drew⟩
set_option maxHeartbeats 1000000 in
theorem dget_form (g : Addr) (n c : Nat) (x y : UInt8) (w : World) (h0 : w.cell? g = some (.int .u8 x.toNat)) (h1 : w.cell? ⟨g.block, g.off + 1, none⟩ = some (.int .u8 y.toNat)) (h : 4 ≤ n)
    (hbad : ¬ bits .and .u8 (x.toNat : Int) 60 = 0 ∨ (bits .and .u8 (x.toNat : Int) 60 = 0 ∧ bits .and .u8 (x.toNat : Int) 3 = 3) ∨ (bits .and .u8 (x.toNat : Int) 60 = 0 ∧ (bits .and .u8 (x.toNat : Int) 3 == 3) = false ∧ ¬ (y.toNat : Int) = 90)) :
    Calls Try.prog 21 #[.slice (some g) n c] w fun e w' => e = .returned (.tuple #[descV 0 false false 0, .int .i64 1]) ∧ Below w.heap.size w w' := by
  have hb1 := fun o => (Below.refl w.heap.size w).alloc (Nat.le_refl _) o
  have ha := fun o => below_cell (hb1 o) h0
  have hb := fun o => below_cell (hb1 o) h1
  have hn0 : 0 < n := by omega
  clear h0 h1
  rcases hbad with e1 | ⟨e1, e2⟩ | ⟨e1, e2, e3⟩
  all_goals
    go_enter Try.func21, Try.ntmps21
    go_wp2
    all_goals
      exact bodyPost_ret (v := .tuple #[.agg #[.int .i64 0, .bool false, .bool false, .int .u16 0], .int .i64 1]) (by simp [results, Try.results21, go_sem]) rfl ⟨rfl, hb1 _⟩
theorem dget_any (A : Option Addr) (n c : Nat) (l : List UInt8) (w : World) (hn : l.length = n) (hnc : n ≤ c) (hcm : c ≤ maxLen) (hr : Rd w A (bys l)) :
    Calls Try.prog 21 #[.slice A n c] w fun e w' => e = .returned (.tuple #[descV (dL l) (dK l) (dS l) (dF l), .int .i64 (dE l)]) ∧ Below w.heap.size w w' := by
  by_cases h : n < 4
  · have e : dE l = 2 := by unfold dE; rw [if_pos (by omega)]
    have eo : dOk l = false := by unfold dOk; rw [e]; rfl
    refine (dget_short A n c w h).mono ?_
    rintro e w' ⟨rfl, hb⟩
    exact ⟨by simp [dL, dK, dS, dF, eo, e], hb⟩
  · have hlen : 4 ≤ l.length := by omega
    obtain ⟨ad, rfl, h0⟩ := RdB.at_ hr (k := 0) (by omega)
    obtain ⟨ad', hA, h1⟩ := RdB.at_ hr (k := 1) (by omega)
    injection hA with hA; subst hA
    rw [add_zero'] at h0
    have i0 : l[0]?.getD 0 = l[0] := by rw [List.getElem?_eq_getElem (by omega)]; rfl
    have i1 : l[1]?.getD 0 = l[1] := by rw [List.getElem?_eq_getElem (by omega)]; rfl
    obtain ⟨b1, b2, b3, b4⟩ := byte_bits l[0].toNat (UInt8.toNat_lt _)
    by_cases hbad : (l[0]?.getD 0).toNat / 4 % 16 ≠ 0 ∨ (l[0]?.getD 0).toNat % 4 = 3 ∨ (l[1]?.getD 0).toNat ≠ 90
    · have e : dE l = 1 := by unfold dE; rw [if_neg (by omega), if_pos hbad]
      have eo : dOk l = false := by unfold dOk; rw [e]; rfl
      rw [i0, i1] at hbad
      refine (dget_form ad n c l[0] l[1] w h0 h1 (by omega) ?_).mono ?_
      · rw [b1, b2]
        simp only [beq_eq_false_iff_ne, ne_eq]
        omega
      · rintro e w' ⟨rfl, hb⟩
        exact ⟨by simp [dL, dK, dS, dF, eo, e], hb⟩
    · have e : dE l = 0 := by unfold dE; rw [if_neg (by omega), if_neg hbad]
      have eo : dOk l = true := by unfold dOk; rw [e]; rfl
      rw [i0, i1] at hbad
      refine (dget_ok ad n c l l[0] l[1] w hn hnc hcm hr h0 h1 (by omega) (by rw [b1]; omega) (by rw [b2]; simp only [beq_eq_false_iff_ne, ne_eq]; omega) (by omega)).mono ?_
      rintro e w' ⟨rfl, hb⟩
      refine ⟨?_, hb⟩
      have hg := getN_2 l 2
      have e5 : IntKind.u16.wrap (getN l 2 2 : Nat) = ((getN l 2 2 : Nat) : Int) := by simp [IntKind.wrap, IntKind.bits, IntKind.signed]; omega
      have e6 : wrap64 ((l[0].toNat % 4 : Nat) : Int) = ((l[0].toNat % 4 : Nat) : Int) := by unfold wrap64; omega
      rw [b2, b3, b4, e5, e6]
      simp [dL, dK, dS, dF, eo, e, i0]
end Go.Proofs.Ytgmgjblekejgnaa
