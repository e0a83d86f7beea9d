/-
Packets in memory.
-/
import Derived.Test.YtknlkmencdlpcaaRtp5
import Derived.Test.YtknlkmencdlpcaaRtpP
import Derived.Test.YtknlkmencdlpcaaRep1
namespace Go.Proofs.Ytknlkmencdlpcaa
set_option linter.unusedVariables false
set_option linter.unusedSimpArgs false
open Go Go.RowKit

/-- A packet's three slices. -/
structure PRow (w : World) (p : Pkt) (C : Option Addr) (cn cc : Nat) (E : Option Addr) (en ec : Nat) (L : Option Addr) (ln lc : Nat) : Prop where
  (rc : Row w C cn cc 1 4 (u32s p.cs)) (re : Row w E en ec 1 1 (bys p.ex)) (rl : Row w L ln lc 1 1 (bys p.pl))
section
variable {w w' : World} {p : Pkt} {C : Option Addr} {cn cc : Nat} {E : Option Addr} {en ec : Nat} {L : Option Addr} {ln lc : Nat} {C' : Option Addr} {cn' cc' : Nat} {E' : Option Addr} {en' ec' : Nat} {L' : Option Addr} {ln' lc' : Nat}
theorem PRow.below (h : PRow w p C cn cc E en ec L ln lc) (hb : Below w.heap.size w w') : PRow w' p C cn cc E en ec L ln lc := ⟨h.rc.below hb, h.re.below hb, h.rl.below hb⟩
theorem PRow.hcn (h : PRow w p C cn cc E en ec L ln lc) : p.cs.length = cn := by have := h.rc.len; rw [u32s_length] at this; omega
theorem PRow.hen (h : PRow w p C cn cc E en ec L ln lc) : p.ex.length = en := by have := h.re.len; rw [bys_length] at this; omega
theorem PRow.hln (h : PRow w p C cn cc E en ec L ln lc) : p.pl.length = ln := by have := h.rl.len; rw [bys_length] at this; omega
end

theorem rowB_nil (w : World) (size bytes : Nat) : Row w none 0 0 size bytes [] := ⟨by simp, Nat.le_refl _, Nat.zero_le _, fun _ => ⟨rfl, rfl⟩, Rd.nil _ _⟩
theorem own_row8 {w : World} {base : Nat} {A : Option Addr} {n c : Nat} {l : List UInt8} (h : w.ownsRow base 5 1 (.slice A n c) n (bys l)) : Row w A n c 1 1 (bys l) := by
  have hc := own_cap h
  exact ⟨h.1, hc.1, hc.2, own_nil h, Rd.own h⟩
theorem own_row32 {w : World} {base : Nat} {A : Option Addr} {n c : Nat} {l : List Nat} (h : w.ownsRow base 24 1 (.slice A n c) n (u32s l)) : Row w A n c 1 4 (u32s l) := by
  have hc := own_cap h
  refine ⟨h.1, hc.1, hc.2, own_nil h, fun j u hu => ?_⟩
  have hn : 0 < n := by
    have := (List.getElem?_eq_some_iff.1 hu).1
    rw [h.1] at this; omega
  obtain ⟨g, cap, hv, _⟩ := h.form hn
  injection hv with hA
  subst hA
  exact ⟨_, rfl, h.cells (g := g) rfl j u hu⟩
theorem csL_lt (l : List UInt8) (k : Nat) : ∀ x ∈ csL l k, x < 4294967296 := by
  intro x hx
  obtain ⟨i, _, rfl⟩ := List.mem_map.1 hx
  exact getN_ltS l _ 4
theorem getP_ok (l : List UInt8) : (getP l).Ok := by
  unfold getP
  split
  · have h1 : byteN l 1 % 128 < 128 := Nat.mod_lt _ (by omega)
    have hl := look_ok (l := l) (by assumption)
    refine ⟨by simp only; omega, getN_ltS l _ 2, getN_ltS l _ 4, getN_ltS l _ 4, csL_lt l _, ?_, by simp only; omega⟩
    show pfG l < 65536
    unfold pfG
    split
    · exact getN_ltS l _ 2
    · omega
  · exact ⟨by decide, by decide, by decide, by decide, (fun x hx => by cases hx), by decide, by decide⟩
theorem getP_lens (l : List UInt8) : (getP l).ex.length ≤ 512 ∧ (getP l).pl.length ≤ 512 := by
  unfold getP
  split
  · have hl := (look_ok (l := l) (by assumption)).1
    refine ⟨?_, ?_⟩
    · show (exG l).length ≤ 512
      unfold exG
      split
      · rw [List.length_take, List.length_drop]; omega
      · simp
    · show (plG l).length ≤ 512
      unfold plG
      rw [List.length_take, List.length_drop]; omega
  · exact ⟨by simp [zeroP], by simp [zeroP]⟩
/-- Put of a packet in memory. -/
theorem pput_row (p : Pkt) (ok : p.Ok) (Z : Int) (hZ : Z = (errP p : Nat)) (l : List UInt8) (hl : outP p = l) (k : Nat) (hk : l.length = k) (C : Option Addr) (cn cc : Nat) (E : Option Addr) (en ec : Nat) (L : Option Addr) (ln lc : Nat) (w : World) (h : PRow w p C cn cc E en ec L ln lc) (b2 : en ≤ 140737488351232) (b3 : ln ≤ 140737488351232) :
    Calls Try.prog 73 #[.agg #[.bool p.mr, .int .i64 p.ty, .int .u16 p.sq, .int .u32 p.tm, .int .u32 p.ss, .slice C cn cc, .bool p.hx, .int .u16 p.pf, .slice E en ec, .slice L ln lc, .int .i64 p.pad]] w fun e w' =>
      ∃ B c', e = .returned (.tuple #[.slice B k c', .int .i64 Z]) ∧ w'.ownsRow w.heap.size 5 1 (.slice B k c') k (bys l) ∧ Below w.heap.size w w' := by
  subst hZ hl hk
  refine (pput_any p C cn cc E en ec L ln lc w h.rc h.re h.rl ok b2 b3).mono ?_
  rintro e w' ⟨B, k, c', rfl, rfl, h2, h3⟩
  exact ⟨B, c', rfl, h2, h3⟩
theorem psize_row (p : Pkt) (S : Int) (hS : S = (sizeP p : Nat)) (C : Option Addr) (cn cc : Nat) (E : Option Addr) (en ec : Nat) (L : Option Addr) (ln lc : Nat) (w : World) (h : PRow w p C cn cc E en ec L ln lc) (b2 : en ≤ 140737488351232) (b3 : ln ≤ 140737488351232) :
    Calls Try.prog 116 #[.agg #[.bool p.mr, .int .i64 p.ty, .int .u16 p.sq, .int .u32 p.tm, .int .u32 p.ss, .slice C cn cc, .bool p.hx, .int .u16 p.pf, .slice E en ec, .slice L ln lc, .int .i64 p.pad]] w fun e w' =>
      e = .returned (.int .i64 S) ∧ Below w.heap.size w w' := by
  subst hS
  exact psize_any p C cn cc E en ec L ln lc w h.hcn h.hen h.hln b2 b3
theorem getP_zero {l : List UInt8} (h : lookE l ≠ 0) : getP l = zeroP := by unfold getP; rw [if_neg h]
theorem prow_zero (w : World) : PRow w zeroP none 0 0 none 0 0 none 0 0 := ⟨rowB_nil _ _ _, rowB_nil _ _ _, rowB_nil _ _ _⟩
theorem pmay_row (p : Pkt) (b : Bool) (hb : mayP p = b) (C : Option Addr) (cn cc : Nat) (E : Option Addr) (en ec : Nat) (L : Option Addr) (ln lc : Nat) (w : World) (h : PRow w p C cn cc E en ec L ln lc) :
    Calls Try.prog 152 #[.agg #[.bool p.mr, .int .i64 p.ty, .int .u16 p.sq, .int .u32 p.tm, .int .u32 p.ss, .slice C cn cc, .bool p.hx, .int .u16 p.pf, .slice E en ec, .slice L ln lc, .int .i64 p.pad]] w fun e w' =>
      e = .returned (.bool b) ∧ Below w.heap.size w w' := by
  subst hb
  exact pmay_any p C cn cc E en ec L ln lc w h.hcn h.hen
theorem err_cases (p : Pkt) : (errP p = 0 ∧ mayP p = true) ∨ (errP p = 1 ∧ mayP p = false) ∨ (errP p = 5 ∧ mayP p = true ∧ 512 < sizeP p) := by
  by_cases h0 : errP p = 0
  · exact .inl ⟨h0, (err_may h0).1⟩
  · have h := h0
    unfold errP at h
    by_cases h1 : sizeP p = 0
    · refine .inr (.inl ⟨by unfold errP; rw [if_pos h1], ?_⟩)
      cases hm : mayP p
      · rfl
      · unfold sizeP headP at h1; rw [if_pos hm] at h1; omega
    · rw [if_neg h1] at h
      by_cases h2 : sizeP p > 512
      · refine .inr (.inr ⟨by unfold errP; rw [if_neg h1, if_pos h2], ?_, h2⟩)
        cases hm : mayP p
        · unfold sizeP at h1; rw [hm] at h1; exact absurd rfl h1
        · rfl
      · rw [if_neg h2] at h; exact absurd rfl h
theorem outP_nil {p : Pkt} (h : errP p ≠ 0) : outP p = [] := by unfold outP; rw [if_neg h]
theorem outP_yes {p : Pkt} (h : errP p = 0) : outP p = pktL p := by unfold outP; rw [if_pos h]
end Go.Proofs.Ytknlkmencdlpcaa
