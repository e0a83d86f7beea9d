/-
What the eye of package report reads, and whether bytes begin as a report does.
-/
import Derived.Test.YtnkclbaeamcplaaRep2
import Derived.Deep.QuietTactic
import Derived.BigQuiet
namespace Go.Proofs.Ytnkclbaeamcplaa
set_option linter.unusedVariables false
set_option linter.unusedSimpArgs false
open Go Go.RowKit

/-- The bytes that are read. -/
structure Bts (w : World) (X : Option Addr) (n c : Nat) (l : List UInt8) : Prop where
  (len : l.length = n) (nc : n ≤ c) (cm : c ≤ maxLen) (rd : Rd w X (bys l))
theorem Bts.below {w w' : World} {X : Option Addr} {n c : Nat} {l : List UInt8} (h : Bts w X n c l) (hb : Below w.heap.size w w') : Bts w' X n c l := ⟨h.len, h.nc, h.cm, h.rd.below hb⟩
theorem Bts.grown {w w' : World} {X : Option Addr} {n c : Nat} {l : List UInt8} {row : Option Nat} (h : Bts w X n c l) (hb : w.grownBy w' row) (hne : row = none ∨ X.map Addr.block ≠ row) : Bts w' X n c l := ⟨h.len, h.nc, h.cm, h.rd.grown hb hne⟩
/-- The eye at block g: it has come to a. -/
def Eye (w : World) (g : Nat) (X : Option Addr) (n c a : Nat) : Prop := w.heap[g]? = some (.cells #[.slice X n c, .int .i64 a] 71 (0, 0))
theorem cell2 {w : World} {g : Nat} {t : TypeId} {u v : Value} (h : w.heap[g]? = some (.cells #[u, v] t (0, 0))) : w.cell? ⟨g, 0, none⟩ = some u ∧ w.cell? ⟨g, 1, none⟩ = some v ∧ w.frozen? ⟨g, 1, none⟩ = false := by
  refine ⟨?_, ?_, by simp [World.frozen?, h]⟩ <;> (rw [cell_of_row _ _ _ _ _ _ h]; rfl)
theorem set1j (w : World) (g j : Nat) (u : Value) : w.grownBy (w.setCell ⟨g, j, none⟩ u) (some g) :=
  ⟨rfl, rfl, rfl, by simp [World.setCell], fun k hk hne => heap_setCell_other w _ k u (fun e => hne (by rw [e]))⟩
theorem get_same (A : Option Addr) (n c : Nat) (l : List UInt8) (a s : Nat) (S : Int) (hS : S = s) (w : World) (h : Bts w A n c l) (h1 : a ≤ 9223372036854775807) (h2 : s ≤ 9223372036854775807) :
    Calls Try.prog 57 #[.slice A n c, .int .i64 a, .int .i64 S] w fun e w' => e = .returned (.tuple #[.int .u64 (getN l a s : Nat), .bool (withinB n a s)]) ∧ w' = w := by
  subst hS
  refine (get_any A n c l a s w h.len h.nc h.cm h.rd (by omega) (by omega)).mono ?_
  rintro e w' ⟨rfl, rfl⟩
  exact ⟨rfl, rfl⟩
theorem Bts.drewN {w : World} {X : Option Addr} {n c : Nat} {l : List UInt8} (h : Bts w X n c l) (k : Nat) : Bts (w.drewN k) X n c l := ⟨h.len, h.nc, h.cm, h.rd.drewN k⟩
theorem eye_read {w : World} {g : Nat} {X : Option Addr} {n c a : Nat} (h : Eye w g X n c a) : ∀ k, (w.drewN k).cell? ⟨g, 0, none⟩ = some (.slice X n c) ∧ (w.drewN k).cell? ⟨g, 1, none⟩ = some (.int .i64 a) := fun k => ⟨(cell2 h).1, (cell2 h).2.1⟩
theorem getN_ltS (l : List UInt8) (a s : Nat) : getN l a s < 256 ^ s := by
  unfold getN
  split
  · rename_i h
    rw [withinB_iff] at h
    have h1 := beN_lt (part l ((a : Nat) : Int).toNat ((s : Nat) : Int).toNat)
    rw [part_length (by omega), Int.toNat_natCast] at h1
    exact h1
  · exact Nat.pow_pos (by omega)
theorem getN_lt4 (l : List UInt8) (a : Nat) : getN l a 4 < 4294967296 := getN_ltS l a 4
set_option maxRecDepth 20000 in
set_option maxHeartbeats 1000000 in
theorem eyeget_any (w : World) (g : Nat) (X : Option Addr) (n c a : Nat) (l : List UInt8) (S : Int) (s : Nat) (hS : S = s) (he : Eye w g X n c a) (hb : Bts w X n c l) (hs : s ≤ 8) (ha : a ≤ 1000000) :
    Calls Try.prog 43 #[.pointer (some ⟨g, 0, none⟩), .int .i64 S] w fun e w' => e = .returned (.int .u64 (getN l a s : Nat)) ∧ Eye w' g X n c (a + s) ∧ w.grownBy w' (some g) := by
  subst hS
  have HB := Lib.hid hb
  have HE := Lib.hid he
  have c0 := fun k => (eye_read he k).1
  have c1 := fun k => (eye_read he k).2
  clear hb he
  go_enter Try.func43, Try.ntmps43
  go_wp2
  go_quiet ((go_at_call 57; with_reducible exact Calls.quiet_of_same (get_same X n c l a s s rfl _ (HB.out.drewN _) (by omega) (by omega))))
  have f1 : ∀ k, (w.drewN k).frozen? ⟨g, 1, none⟩ = false := fun k => (cell2 HE.out).2.2
  go_wp2
  go_ret
  refine ⟨rfl, ?_, ?_⟩
  · have := heap_setCell_same (w.drewN nq) g 1 _ _ (.int .i64 ((a : Int) + s)) (show (w.drewN nq).heap[g]? = _ from HE.out)
    rw [Eye, show (((a + s : Nat) : Int)) = (a : Int) + s by omega]
    exact this
  · exact grown_from (below_drewN (Below.refl _ _) _) (set1j (w.drewN _) g 1 _)
set_option maxRecDepth 20000 in
set_option maxHeartbeats 1000000 in
theorem eyeword_any (w : World) (g : Nat) (X : Option Addr) (n c a : Nat) (l : List UInt8) (he : Eye w g X n c a) (hb : Bts w X n c l) (ha : a ≤ 1000000) :
    Calls Try.prog 42 #[.pointer (some ⟨g, 0, none⟩)] w fun e w' => e = .returned (.int .u32 (getN l a 4 : Nat)) ∧ Eye w' g X n c (a + 4) ∧ w.grownBy w' (some g) := by
  have HB := Lib.hid hb
  have HE := Lib.hid he
  have hlt : getN l a 4 < 4294967296 := getN_lt4 l a
  clear hb he
  go_enter Try.func42, Try.ntmps42
  go_wp2_with (go_at_call 43; (with_reducible refine (eyeget_any w g X n c a l 4 4 rfl HE.out HB.out (by omega) ha).mono ?_); rintro e w1 ⟨rfl, h1, h2⟩; replace h1 := Lib.hid h1; replace h2 := Lib.hid h2)
  go_ret
  exact ⟨rfl, h1.out, h2.out⟩
end Go.Proofs.Ytnkclbaeamcplaa
