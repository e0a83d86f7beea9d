/-
Plain words for memory: a slice that reads as a list of values, a slice of bytes, what is kept of it when the world grows.
No function of the program is spoken of.
-/
import Derived.Below
import Derived.Laws.OwnMore
import Derived.Deep.AppendLies
import Derived.Deep.Draws
import Derived.Maps.AppendAt
import Derived.OwnWalk
import Derived.Lib.Hide
namespace Go.Proofs.YtaghecgjmkhpcaaGreatDoor
set_option linter.unusedVariables false
set_option linter.unusedSimpArgs false
open Go Go.RowKit

theorem blk_add (a : Addr) (n : Nat) : (a.add n).block = a.block := by unfold Addr.add; split <;> rfl
theorem add_add (a : Addr) (i j : Nat) : (a.add i).add j = a.add (i + j) := by
  unfold Addr.add
  by_cases hi : i = 0 <;> by_cases hj : j = 0 <;> simp [hi, hj, Nat.add_assoc]
theorem add_zero' (a : Addr) : a.add 0 = a := by simp [Addr.add]
theorem add_lit (g j : Nat) : (⟨g, 0, none⟩ : Addr).add j = ⟨g, j, none⟩ := by
  unfold Addr.add; split <;> simp_all

/-- From address A on the world holds the values xs. -/
def Rd (w : World) (A : Option Addr) (xs : List Value) : Prop :=
  ∀ j u, xs[j]? = some u → ∃ ad, A = some ad ∧ w.cell? (ad.add j) = some u

theorem Rd.nil (w : World) (A : Option Addr) : Rd w A [] := fun j u h => by simp at h
theorem Rd.keep {w w' : World} {A : Option Addr} {xs : List Value} (h : Rd w A xs) (hk : ∀ a v, A.map Addr.block = some a.block → w.cell? a = some v → w'.cell? a = some v) : Rd w' A xs := by
  intro j u hu
  obtain ⟨ad, rfl, hc⟩ := h j u hu
  exact ⟨ad, rfl, hk _ _ (by simp [blk_add]) hc⟩
theorem Rd.below {w w' : World} {A : Option Addr} {xs : List Value} (h : Rd w A xs) (hb : Below w.heap.size w w') : Rd w' A xs :=
  h.keep fun a v _ hc => (hb.cell (World.block_lt_of_cell? w a hc)).trans hc
theorem Rd.grown {w w' : World} {A : Option Addr} {xs : List Value} {row : Option Nat} (h : Rd w A xs) (hg : w.grownBy w' row) (hne : row = none ∨ A.map Addr.block ≠ row) : Rd w' A xs :=
  h.keep fun a v hA hc => hg.cell hc (by
    rcases hne with rfl | hne
    · simp
    · rw [← hA]; exact hne)
theorem Rd.drop {w : World} {A : Option Addr} {xs : List Value} (h : Rd w A xs) (k : Nat) : Rd w (A.map (·.add k)) (xs.drop k) := by
  intro j u hu
  obtain ⟨ad, rfl, hc⟩ := h (k + j) u (by rw [← hu, List.getElem?_drop])
  exact ⟨ad.add k, rfl, by rw [add_add]; exact hc⟩
theorem Rd.take {w : World} {A : Option Addr} {xs : List Value} (h : Rd w A xs) (k : Nat) : Rd w A (xs.take k) := by
  intro j u hu
  rw [List.getElem?_take] at hu
  split at hu
  · exact h j u hu
  · cases hu
theorem Rd.at_ {w : World} {A : Option Addr} {xs : List Value} (h : Rd w A xs) {k : Nat} (hk : k < xs.length) : ∃ ad, A = some ad ∧ w.cell? (ad.add k) = some xs[k] :=
  h k _ (List.getElem?_eq_getElem hk)
theorem Rd.own {w : World} {base : Nat} {e : TypeId} {A : Option Addr} {n c : Nat} {xs : List Value} (h : w.ownsRow base e 1 (.slice A n c) n xs) : Rd w A xs := by
  intro j u hu
  have hj : j < xs.length := (List.getElem?_eq_some_iff.1 hu).1
  have hn : 0 < n := by have := h.1; omega
  obtain ⟨g, cap, hv, _, _⟩ := h.form hn
  injection hv with hA
  subst hA
  exact ⟨_, rfl, h.cells (g := g) rfl j u hu⟩

/-- A byte as a value; a row of bytes. -/
def u8v (b : UInt8) : Value := .int .u8 b.toNat
def bys (l : List UInt8) : List Value := l.map u8v
theorem bys_length (l : List UInt8) : (bys l).length = l.length := by simp [bys]
theorem bys_get (l : List UInt8) (k : Nat) (h : k < l.length) : (bys l)[k]? = some (.int .u8 (l[k].toNat)) := by
  simp [bys, u8v, h]
theorem bys_drop (l : List UInt8) (k : Nat) : (bys l).drop k = bys (l.drop k) := by simp [bys]
theorem bys_take (l : List UInt8) (k : Nat) : (bys l).take k = bys (l.take k) := by simp [bys]
theorem bys_append (l m : List UInt8) : bys l ++ bys m = bys (l ++ m) := by simp [bys]
theorem bys_inj {l m : List UInt8} (h : bys l = bys m) : l = m := by
  unfold bys at h
  refine List.map_inj_right (fun a b hab => ?_) |>.1 h
  unfold u8v at hab
  injection hab with _ hab
  exact UInt8.toNat_inj.1 (by omega)
theorem bys_one (l : List UInt8) : ∀ u ∈ bys l, u.oneCell' = true := by
  intro u hu
  simp only [bys, List.mem_map] at hu
  obtain ⟨b, _, rfl⟩ := hu
  rfl
theorem u8_lt (b : UInt8) : ((b.toNat : Nat) : Int) ≤ 255 := by have := b.toNat_lt; omega
theorem RdB.at_ {w : World} {A : Option Addr} {l : List UInt8} (h : Rd w A (bys l)) {k : Nat} (hk : k < l.length) : ∃ ad, A = some ad ∧ w.cell? (ad.add k) = some (.int .u8 (l[k].toNat)) := by
  obtain ⟨ad, hA, hc⟩ := h k _ (bys_get l k hk)
  exact ⟨ad, hA, hc⟩
theorem below_cell {W w1 : World} (hb : Below W.heap.size W w1) {a : Addr} {v : Value} (h : W.cell? a = some v) : w1.cell? a = some v :=
  (hb.cell (World.block_lt_of_cell? W a h)).trans h
theorem below_drewN {B : Nat} {a w : World} (h : Below B a w) (n : Nat) : Below B a (w.drewN n) := ⟨h.os, h.tape, h.output, h.size, h.block⟩
theorem Rd.drewN {w : World} {A : Option Addr} {xs : List Value} (h : Rd w A xs) (k : Nat) : Rd (w.drewN k) A xs := h
theorem Rd.drew {w : World} {A : Option Addr} {xs : List Value} (h : Rd w A xs) : Rd w.drew A xs := h
/-- What a cut s[k:] reads. -/
theorem Rd.cut {w : World} {A : Option Addr} {xs : List Value} (h : Rd w A xs) {n k cap : Nat} (hn : xs.length = n) (hk : k ≤ n) (hc : n ≤ cap) : Rd w (if cap = k then A else Option.map (fun x => x.add k) A) (xs.drop k) := by
  split
  · rw [List.drop_of_length_le (by omega)]; exact Rd.nil _ _
  · exact h.drop k
theorem below_undrew {B : Nat} {a w : World} (h : Below B a.drew w) : Below B a w := ⟨h.os, h.tape, h.output, h.size, h.block⟩
theorem below_undrewN {B n : Nat} {a w : World} (h : Below B (a.drewN n) w) : Below B a w := ⟨h.os, h.tape, h.output, h.size, h.block⟩
theorem own_below {w w' : World} (h : Below w.heap.size w w') : w.grownBy w' none := ⟨h.os, h.tape, h.output, h.size, fun k hk _ => h.block k hk⟩
theorem own_none (o : Option Nat) : o = none ∨ o ≠ none := by cases o <;> simp

end Go.Proofs.YtaghecgjmkhpcaaGreatDoor
