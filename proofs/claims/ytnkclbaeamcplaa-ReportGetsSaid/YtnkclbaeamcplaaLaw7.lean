/-
The walk of the example in law 7.
-/
import Derived.Test.YtnkclbaeamcplaaRep3
import Derived.Test.YtnkclbaeamcplaaRep6
import Derived.Test.YtnkclbaeamcplaaConv
namespace Go.Proofs.Ytnkclbaeamcplaa
set_option linter.unusedVariables false
set_option linter.unusedSimpArgs false
open Go Go.RowKit

def itm7 : Itm := ⟨201, 1, 0, 0, 0, 0, [⟨2, 3, 4, 5, 6, 7, 8⟩], [], 0, []⟩
def out7 : List UInt8 := [129, 201, 0, 7, 0, 0, 0, 1, 0, 0, 0, 2, 3, 0, 0, 4, 0, 0, 0, 5, 0, 0, 0, 6, 0, 0, 0, 7, 0, 0, 0, 8]
theorem row_nil (w : World) (size bytes : Nat) : Row w none 0 0 size bytes [] := ⟨by simp, Nat.le_refl _, Nat.zero_le _, fun _ => ⟨rfl, rfl⟩, Rd.nil _ _⟩
theorem shown7_put (W : World) (g : Nat) (hg : W.heap.size = g) (o : Obj) :
    Calls Try.prog 15 #[.agg #[.int .i64 201, .int .u32 1, .int .u64 0, .int .u32 0, .int .u32 0, .int .u32 0, .slice (some ⟨g, 0, none⟩) 1 1, .slice none 0 0, .int .u32 0, .slice none 0 0]]
      ((W.alloc (.cells #[.int .u32 2, .int .u8 3, .int .u32 4, .int .u32 5, .int .u32 6, .int .u32 7, .int .u32 8] 58)).alloc o) fun e w' => ∃ B c', e = .returned (.tuple #[.slice B 32 c', .int .i64 0]) ∧ w'.ownsRow (g + 2) 5 1 (.slice B 32 c') 32 (bys out7) ∧
      Below g W w' := by
  subst hg
  have hr : Row ((W.alloc (.cells #[.int .u32 2, .int .u8 3, .int .u32 4, .int .u32 5, .int .u32 6, .int .u32 7, .int .u32 8] 58)).alloc o) (some ⟨W.heap.size, 0, none⟩) 1 1 7 28 (rowK itm7.bl) :=
    ⟨rfl, Nat.le_refl _, by unfold maxLen; omega, (fun h => by cases h), (lit_blk W ⟨2, 3, 4, 5, 6, 7, 8⟩).below ((Below.refl _ _).alloc (Nat.le_refl _) _)⟩
  have hok : itm7.Ok := ⟨by decide, by decide, by decide, by decide, by decide, by decide, (fun b hb => by
    simp only [itm7, List.mem_cons, List.not_mem_nil, or_false] at hb
    subst hb
    exact ⟨by decide, by decide, by decide, by decide, by decide, by decide, by decide⟩), (fun x hx => by cases hx), by decide, (fun p hp => by cases hp)⟩
  have e1 : outR itm7 = out7 := by decide +kernel
  refine (reput_any itm7 (some ⟨W.heap.size, 0, none⟩) 1 1 none 0 0 none 0 0 _ hr rfl rfl hok).mono ?_
  rintro e w' ⟨B, m, c', rfl, hm, ho, hb⟩
  rw [e1] at ho
  rw [Hid, e1] at hm
  have hm' : m = 32 := hm
  subst hm'
  have hsz : ((W.alloc (.cells #[.int .u32 2, .int .u8 3, .int .u32 4, .int .u32 5, .int .u32 6, .int .u32 7, .int .u32 8] 58)).alloc o).heap.size = W.heap.size + 2 := by simp
  rw [hsz] at ho
  have hb2 := ((Below.refl W.heap.size W).alloc (Nat.le_refl _) (.cells #[.int .u32 2, .int .u8 3, .int .u32 4, .int .u32 5, .int .u32 6, .int .u32 7, .int .u32 8] 58)).alloc (by simp) o
  exact ⟨B, c', rfl, ho, hb2.trans (hb.mono (by simp; omega))⟩
theorem shown7_get (w : World) (base : Nat) (B : Option Addr) (c : Nat) (ho : w.ownsRow base 5 1 (.slice B 32 c) 32 (bys out7)) :
    Calls Try.prog 20 #[.slice B 32 c] w fun e w' => ∃ A cA, e = .returned (.tuple #[.agg #[.int .i64 201, .int .u32 1, .int .u64 0, .int .u32 0, .int .u32 0, .int .u32 0, .slice (some ⟨A, 0, none⟩) 1 cA, .slice none 0 0, .int .u32 0, .slice none 0 0], .int .i64 32, .int .i64 0]) ∧
      1 ≤ cA ∧ w'.cell? ⟨A, 2, none⟩ = some (.int .u32 4) ∧ Below w.heap.size w w' := by
  have hcap := own_cap ho
  have e1 : getI out7 = itm7 := by
    have h1 : rightE out7 = 0 := by decide +kernel
    have h2 : byteN out7 1 = 201 := by decide +kernel
    have h3 : getN out7 4 4 = 1 := by decide +kernel
    have h4 : manyR out7 = 1 := by decide +kernel
    have h5 : getKs out7 8 1 = [⟨2, 3, 4, 5, 6, 7, 8⟩] := by
      have a1 : getN out7 8 4 = 2 := by decide +kernel
      have a2 : getN out7 12 1 = 3 := by decide +kernel
      have a3 : getN out7 13 3 = 4 := by decide +kernel
      have a4 : getN out7 16 4 = 5 := by decide +kernel
      have a5 : getN out7 20 4 = 6 := by decide +kernel
      have a6 : getN out7 24 4 = 7 := by decide +kernel
      have a7 : getN out7 28 4 = 8 := by decide +kernel
      simp only [getKs, List.range_succ, List.range_zero, List.nil_append, List.map_cons, List.map_nil, Nat.mul_zero, Nat.add_zero, getK]
      simp [a1, a2, a3, a4, a5, a6, a7]
    unfold getI
    rw [if_neg (by simp [h1]), if_neg (by rw [h2]; decide), h2, h3, h4, h5]
    rfl
  have e2 : rightN out7 = 32 := by decide +kernel
  have e3 : rightE out7 = 0 := by decide +kernel
  refine (reget_any w B 32 c out7 ⟨rfl, hcap.1, hcap.2, Rd.own ho⟩).mono ?_
  rintro e w' ⟨A, k, cA, rfl, hown, hb⟩
  rw [e1] at hown
  have hk : k = 1 := by have := hown.1; rw [rowK_length] at this; simp [itm7] at this; omega
  subst hk
  obtain ⟨gA, cap, hv, _⟩ := hown.form (by omega)
  injection hv with hA _ hC
  subst hA
  have hcA := own_cap hown
  have hcell := hown.cells (g := gA) rfl 2 (.int .u32 4) rfl
  rw [add_lit] at hcell
  rw [e1, e2, e3]
  exact ⟨gA, cA, rfl, hcA.1, hcell, hb⟩
theorem shown7_may (w : World) : Calls Try.prog 19 #[.agg #[.int .i64 5, .int .u32 0, .int .u64 0, .int .u32 0, .int .u32 0, .int .u32 0, .slice none 0 0, .slice none 0 0, .int .u32 0, .slice none 0 0]] w fun e w' => e = .returned (.bool false) ∧ Below w.heap.size w w' :=
  may_any ⟨5, 0, 0, 0, 0, 0, [], [], 0, []⟩ none 0 0 none 0 0 none 0 0 w (row_nil w 7 28) rfl rfl
set_option maxRecDepth 20000 in
set_option maxHeartbeats 1000000 in
theorem shown7_any (w : World) : Calls Try.prog 14 #[] w fun e w' => e = .returned (.bool true) ∧ Below w.heap.size w w' := by
  go_enter Try.func14, Try.ntmps14
  go_wp2_with (first
    | (go_at_call 15; (with_reducible refine (shown7_put w _ rfl _).mono ?_); rintro e w1 ⟨B, c1, rfl, ho1, hb1⟩)
    | (go_at_call 20; (with_reducible refine (shown7_get w1 _ B c1 ho1).mono ?_); rintro e w2 ⟨A, cA, rfl, hcA, hc2, hb2⟩; have hr2 := (Rd.own ho1).below hb2; have hcv := fun o => cv_rd (w := w2.alloc o) (A := B) (n := 8) (c := c1) (l := out7.take 8) rfl (by rw [← bys_take]; exact ((hr2.below ((Below.refl _ _).alloc (Nat.le_refl _) o))).take 8); have hcx := fun o => below_cell ((Below.refl w2.heap.size w2).alloc (Nat.le_refl _) o) hc2; have hc1 := own_cap ho1)
    | (go_at_call 19; (with_reducible refine (shown7_may _).mono ?_); rintro e w3 ⟨rfl, hb3⟩))
  go_ret
  have hb4 := ((hb1.trans (hb2.mono hb1.size)).alloc (Nat.le_trans hb1.size hb2.size) (.cells #[.int .i64 201, .int .u32 1, .int .u64 0, .int .u32 0, .int .u32 0, .int .u32 0, .slice (some ⟨A, 0, none⟩) 1 cA, .slice none 0 0, .int .u32 0, .slice none 0 0] 28))
  exact ⟨rfl, hb4.trans (hb3.mono hb4.size)⟩
end Go.Proofs.Ytnkclbaeamcplaa
