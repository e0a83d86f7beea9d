/-
What shown of law 9 tells.
-/
import Derived.Test.YtaomdinddccpeaaRcA
import Derived.Test.YtaomdinddccpeaaFrame
namespace Go.Proofs.Ytaomdinddccpeaa
set_option linter.unusedVariables false
set_option linter.unusedSimpArgs false
open Go Go.RowKit

def shI : Itm := ⟨203, 0, 0, 0, 0, 0, [], [5], 0, []⟩
def shJ : Itm := ⟨206, 1, 0, 0, 0, 0, [], [], 2, []⟩
def shL : List UInt8 := [129, 203, 0, 1, 0, 0, 0, 5, 129, 206, 0, 2, 0, 0, 0, 1, 0, 0, 0, 2]
theorem shI_ok : shI.Ok := ⟨by decide, by decide, by decide, by decide, by decide, by decide, (by intro b hb; cases hb), (by intro b hb; simp [shI] at hb; subst hb; decide), by decide, (by intro b hb; cases hb)⟩
theorem shJ_ok : shJ.Ok := ⟨by decide, by decide, by decide, by decide, by decide, by decide, (by intro b hb; cases hb), (by intro b hb; cases hb), by decide, (by intro b hb; cases hb)⟩
theorem own_btsR {w : World} {base : Nat} {A : Option Addr} {n c : Nat} {l : List UInt8} (h : w.ownsRow base 5 1 (.slice A n c) n (bys l)) : Bts w A n c l := by
  have hc := own_cap h
  have hl : l.length = n := by have := h.1; rw [bys_length] at this; omega
  exact ⟨hl, hc.1, hc.2, Rd.own h⟩
theorem sh_puts : putsE [shI, shJ] = 0 ∧ putsL [shI, shJ] = shL ∧ sizG [shI, shJ] = 20 ∧ getsE shL = 0 ∧ getsL shL = [shI, shJ] ∧ mayG shI = true := by
  have h1 : putsE [shI, shJ] = 0 := by decide +kernel
  have h2 : putsL [shI, shJ] = shL := by decide +kernel
  have hok : ∀ i ∈ [shI, shJ], i.Ok := by
    intro i hi
    simp only [List.mem_cons, List.not_mem_nil, or_false] at hi
    rcases hi with rfl | rfl
    · exact shI_ok
    · exact shJ_ok
  have h3 := gets_puts h1 hok
  rw [h2] at h3
  exact ⟨h1, h2, by decide +kernel, h3.1, h3.2, by decide +kernel⟩
theorem sh_its (w : World) : Its ((w.alloc (.cells #[.int .u32 5] 24)).alloc (.cells #[.int .i64 203, .int .u32 0, .int .u64 0, .int .u32 0, .int .u32 0, .int .u32 0, .slice none 0 0, .slice (some ⟨w.heap.size, 0, none⟩) 1 1, .int .u32 0, .slice none 0 0, .int .i64 206, .int .u32 1, .int .u64 0, .int .u32 0, .int .u32 0, .int .u32 0, .slice none 0 0, .slice none 0 0, .int .u32 2, .slice none 0 0] 64)) (some ⟨w.heap.size + 1, 0, none⟩) 2 2 [⟨shI, none, 0, 0, some ⟨w.heap.size, 0, none⟩, 1, 1, none, 0, 0⟩, ⟨shJ, none, 0, 0, none, 0, 0, none, 0, 0⟩] := by
  have hT := two_newR w (.cells #[.int .u32 5] 24) (.cells #[.int .i64 203, .int .u32 0, .int .u64 0, .int .u32 0, .int .u32 0, .int .u32 0, .slice none 0 0, .slice (some ⟨w.heap.size, 0, none⟩) 1 1, .int .u32 0, .slice none 0 0, .int .i64 206, .int .u32 1, .int .u64 0, .int .u32 0, .int .u32 0, .int .u32 0, .slice none 0 0, .slice none 0 0, .int .u32 2, .slice none 0 0] 64)
  refine ⟨rfl, by omega, by unfold maxLen; omega, ?_, ?_⟩
  · intro j u hu
    refine ⟨_, rfl, ?_⟩
    rw [add_lit, cell_of_row _ _ _ _ _ _ hT.2.2, ← hu]
    simp [rowI, slV, shI, shJ]
  · intro x hx
    simp only [List.mem_cons, List.not_mem_nil, or_false] at hx
    rcases hx with rfl | rfl
    · refine ⟨rowB_nil _ _ _, ⟨rfl, Nat.le_refl 1, (by show 1 ≤ maxLen; unfold maxLen; omega), (fun h => by cases h), ?_⟩, rowB_nil _ _ _, ?_⟩
      · intro j u hu
        refine ⟨_, rfl, ?_⟩
        rw [add_lit, cell_of_row _ _ _ _ _ _ hT.2.1, ← hu]
        simp [u32s, shI]
      · exact shI_ok
    · refine ⟨rowB_nil _ _ _, rowB_nil _ _ _, rowB_nil _ _ _, ?_⟩
      exact shJ_ok
/-- Two items that were read: the cells that shown looks at. -/
theorem sh_cells {w : World} {base : Nat} {A : Option Addr} {k c : Nat} {xs : List Sl} (h : ItsO w base A k c xs) (hi : itm xs = [shI, shJ]) : k = 2 ∧ ∃ (g : Nat) (x : Sl), A = some ⟨g, 0, none⟩ ∧ SlR w x ∧ x.i = shI ∧ w.cell? ⟨g, 18, none⟩ = some (.int .u32 2) ∧
    w.cell? ⟨g, 0, none⟩ = some (.int .i64 203) ∧ w.cell? ⟨g, 1, none⟩ = some (.int .u32 0) ∧ w.cell? ⟨g, 2, none⟩ = some (.int .u64 0) ∧ w.cell? ⟨g, 3, none⟩ = some (.int .u32 0) ∧ w.cell? ⟨g, 4, none⟩ = some (.int .u32 0) ∧ w.cell? ⟨g, 5, none⟩ = some (.int .u32 0) ∧
    w.cell? ⟨g, 6, none⟩ = some (.slice x.A x.n x.c) ∧ w.cell? ⟨g, 7, none⟩ = some (.slice x.G x.gn x.gc) ∧ w.cell? ⟨g, 8, none⟩ = some (.int .u32 0) ∧ w.cell? ⟨g, 9, none⟩ = some (.slice x.P x.pn x.pc) := by
  have hl := congrArg List.length hi
  rw [itm_len, h.len] at hl
  have hk : k = 2 := hl
  subst hk
  match xs, h, hi with
  | [x, y], h, hi =>
    simp only [itm, List.map_cons, List.map_nil, List.cons.injEq, and_true] at hi
    obtain ⟨hx, hy⟩ := hi
    obtain ⟨g, cap, hv, _⟩ := h.own.form (by omega)
    injection hv with hA
    subst hA
    have hc := fun j u hu => h.own.cells (g := g) rfl j u hu
    refine ⟨rfl, g, x, rfl, h.its.rows x (by simp), hx, ?_, ?_, ?_, ?_, ?_, ?_, ?_, ?_, ?_, ?_, ?_⟩
    · exact hc 18 _ (by simp [rowI, slV, hy, shJ])
    · exact hc 0 _ (by simp [rowI, slV, hx, shI])
    · exact hc 1 _ (by simp [rowI, slV, hx, shI])
    · exact hc 2 _ (by simp [rowI, slV, hx, shI])
    · exact hc 3 _ (by simp [rowI, slV, hx, shI])
    · exact hc 4 _ (by simp [rowI, slV, hx, shI])
    · exact hc 5 _ (by simp [rowI, slV, hx, shI])
    · exact hc 6 _ (by simp [rowI, slV])
    · exact hc 7 _ (by simp [rowI, slV])
    · exact hc 8 _ (by simp [rowI, slV, hx, shI])
    · exact hc 9 _ (by simp [rowI, slV])
theorem may_sh {w : World} (x : Sl) (hi : x.i = shI) (h : SlR w x) :
    Calls Try.prog 32 #[.agg #[.int .i64 203, .int .u32 0, .int .u64 0, .int .u32 0, .int .u32 0, .int .u32 0, .slice x.A x.n x.c, .slice x.G x.gn x.gc, .int .u32 0, .slice x.P x.pn x.pc]] w fun e w' => e = .returned (.bool true) ∧ Below w.heap.size w w' := by
  have := rcmay_any x.i x.A x.n x.c x.G x.gn x.gc x.P x.pn x.pc w h.ra h.rg h.rp
  rw [hi, sh_puts.2.2.2.2.2] at this
  exact this
/-- The three contracts, with what they tell as it is needed. -/
theorem rcput_v (A : Option Addr) (n c : Nat) (xs : List Sl) (w : World) (h : Its w A n c xs) (hn : n ≤ 140737488351232) (l : List UInt8) (Z : Int) (m : Nat) (hZ : Z = (putsE (itm xs) : Nat)) (hl : putsL (itm xs) = l) (hm : l.length = m) :
    Calls Try.prog 30 #[.slice A n c] w fun e w' => ∃ B c', e = .returned (.tuple #[.slice B m c', .int .i64 Z]) ∧ w'.ownsRow w.heap.size 5 1 (.slice B m c') m (bys l) ∧ Below w.heap.size w w' := by
  refine (rcput_any A n c xs w h hn).mono ?_
  rintro e w' ⟨B, m', c', rfl, hm', ho, hb⟩
  rw [hl] at ho
  have : m' = m := by rw [hm', hl, hm]
  subst this
  exact ⟨B, c', by rw [hZ], ho, hb⟩
theorem rcget_v (A : Option Addr) (n c : Nat) (l : List UInt8) (w : World) (h : Bts w A n c l) (is : List Itm) (Z : Int) (k : Nat) (hZ : Z = (getsE l : Nat)) (hl : getsL l = is) (hk : is.length = k) :
    Calls Try.prog 36 #[.slice A n c] w fun e w' => ∃ A cA xs, e = .returned (.tuple #[.slice A k cA, .int .i64 Z]) ∧ Hid (itm xs = is) ∧ Hid (ItsO w' w.heap.size A k cA xs) ∧ Below w.heap.size w w' := by
  refine (rcget_any A n c l w h).mono ?_
  rintro e w' ⟨A, k', cA, xs, rfl, hi, ho, hb⟩
  rw [hl] at hi
  have : k' = k := by rw [← ho.len, ← itm_len, hi, hk]
  subst this
  exact ⟨A, cA, xs, by rw [hZ], hi, ho, hb⟩
theorem rcsizes_v (A : Option Addr) (n c : Nat) (xs : List Sl) (w : World) (h : Its w A n c xs) (hn : n ≤ 140737488351232) (Z : Int) (hZ : Z = (sizG (itm xs) : Nat)) :
    Calls Try.prog 34 #[.slice A n c] w fun e w' => e = .returned (.int .i64 Z) ∧ Below w.heap.size w w' := by
  rw [hZ]
  exact rcsizes_any A n c xs w h hn
set_option maxRecDepth 20000 in
set_option maxHeartbeats 8000000 in
theorem shown9_any (w : World) : Calls Try.prog 29 #[] w fun e w' => e = .returned (.bool true) ∧ Below w.heap.size w w' := by
  have HI := Lib.hid (sh_its w)
  have HW : Hid (Below w.heap.size w ((w.alloc (.cells #[.int .u32 5] 24)).alloc (.cells #[.int .i64 203, .int .u32 0, .int .u64 0, .int .u32 0, .int .u32 0, .int .u32 0, .slice none 0 0, .slice (some ⟨w.heap.size, 0, none⟩) 1 1, .int .u32 0, .slice none 0 0, .int .i64 206, .int .u32 1, .int .u64 0, .int .u32 0, .int .u32 0, .int .u32 0, .slice none 0 0, .slice none 0 0, .int .u32 2, .slice none 0 0] 64))) := (two_newR w _ _).1
  have HP : Hid (((0 : Int) = (putsE (itm [⟨shI, none, 0, 0, some ⟨w.heap.size, 0, none⟩, 1, 1, none, 0, 0⟩, ⟨shJ, none, 0, 0, none, 0, 0, none, 0, 0⟩]) : Nat)) ∧ putsL (itm [⟨shI, none, 0, 0, some ⟨w.heap.size, 0, none⟩, 1, 1, none, 0, 0⟩, ⟨shJ, none, 0, 0, none, 0, 0, none, 0, 0⟩]) = shL ∧ ((20 : Int) = (sizG (itm [⟨shI, none, 0, 0, some ⟨w.heap.size, 0, none⟩, 1, 1, none, 0, 0⟩, ⟨shJ, none, 0, 0, none, 0, 0, none, 0, 0⟩]) : Nat)) ∧ ((0 : Int) = (getsE shL : Nat)) ∧ getsL shL = [shI, shJ]) := by
    have h := sh_puts
    refine ⟨?_, h.2.1, ?_, ?_, h.2.2.2.2.1⟩
    · rw [show itm [⟨shI, none, 0, 0, some ⟨w.heap.size, 0, none⟩, 1, 1, none, 0, 0⟩, ⟨shJ, none, 0, 0, none, 0, 0, none, 0, 0⟩] = [shI, shJ] from rfl, h.1]; rfl
    · rw [show itm [⟨shI, none, 0, 0, some ⟨w.heap.size, 0, none⟩, 1, 1, none, 0, 0⟩, ⟨shJ, none, 0, 0, none, 0, 0, none, 0, 0⟩] = [shI, shJ] from rfl, h.2.2.1]; rfl
    · rw [h.2.2.2.1]; rfl
  go_enter Try.func29, Try.ntmps29
  go_wp2_with (first
    | (go_at_call 30; go_loud ((with_reducible refine (rcput_v _ 2 2 [⟨shI, none, 0, 0, some ⟨w.heap.size, 0, none⟩, 1, 1, none, 0, 0⟩, ⟨shJ, none, 0, 0, none, 0, 0, none, 0, 0⟩] _ HI.out (by omega) shL 0 20 HP.out.1 HP.out.2.1 (by decide)).mono ?_); rintro e w2 ⟨B, c2, rfl, ho2, hb2⟩; have HO2 := Lib.hid ho2; clear ho2; have HW2 := Lib.hid (HW.out.trans (hb2.mono HW.out.size)); have HI2 := Lib.hid (HI.out.below hb2)))
    | (go_at_call 36; go_loud ((with_reducible refine (rcget_v B 20 c2 shL _ (own_btsR HO2.out) [shI, shJ] 0 2 HP.out.2.2.2.1 HP.out.2.2.2.2 (by decide)).mono ?_); rintro e w3 ⟨A3, c3, xs, rfl, hi3, ho3, hb3⟩; have HW3 := Lib.hid (HW2.out.trans (hb3.mono HW2.out.size)); have HI3 := Lib.hid (HI2.out.below hb3); have k1 := cv_own (HO2.out.kept (own_below hb3) (own_none _)); obtain ⟨_, g, x, rfl, hxr, hxi, y18, y0, y1, y2, y3, y4, y5, y6, y7, y8, y9⟩ := sh_cells ho3.out hi3.out; have HX := Lib.hid (And.intro ho3 hi3); clear ho3 hi3; have hc2 : (1 : Int) < 2 := (by decide); have h02 : 0 < 2 := (by decide)))
    | (go_at_call 34; go_loud ((with_reducible refine (rcsizes_v _ 2 2 [⟨shI, none, 0, 0, some ⟨w.heap.size, 0, none⟩, 1, 1, none, 0, 0⟩, ⟨shJ, none, 0, 0, none, 0, 0, none, 0, 0⟩] _ HI3.out (by omega) 20 HP.out.2.2.1).mono ?_); rintro e w4 ⟨rfl, hb4⟩; have HW4 := Lib.hid (HW3.out.trans (hb4.mono HW3.out.size)); obtain ⟨_, g', x', hgg, hxr', hxi', z18, z0, z1, z2, z3, z4, z5, z6, z7, z8, z9⟩ := sh_cells (HX.out.1.out.below hb4) HX.out.2.out; injection hgg with hgg; injection hgg with hgg; subst hgg))
    | (go_at_call 32; go_loud ((with_reducible refine (may_sh x' hxi' hxr').mono ?_); rintro e w5 ⟨rfl, hb5⟩)))
  go_ret
  exact ⟨rfl, HW4.out.trans (hb5.mono HW4.out.size)⟩
end Go.Proofs.Ytaomdinddccpeaa
