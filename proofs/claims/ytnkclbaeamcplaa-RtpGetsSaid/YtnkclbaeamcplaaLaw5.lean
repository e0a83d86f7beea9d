/-
Packets in memory; the walk of the example in law 5.
-/
import Derived.Test.YtnkclbaeamcplaaRtpA
import Derived.Test.YtnkclbaeamcplaaRtp6
import Derived.Test.YtnkclbaeamcplaaSamePkt
import Derived.Test.YtnkclbaeamcplaaConv
namespace Go.Proofs.Ytnkclbaeamcplaa
set_option linter.unusedVariables false
set_option linter.unusedSimpArgs false
open Go Go.RowKit

/-- A packet's three slices. -/
structure PRow (w : World) (p : Pkt) (C : Option Addr) (cn cc : Nat) (E : Option Addr) (en ec : Nat) (L : Option Addr) (ln lc : Nat) : Prop where
  (rc : Row w C cn cc 1 4 (u32s p.cs)) (re : Row w E en ec 1 1 (bys p.ex)) (rl : Row w L ln lc 1 1 (bys p.pl))
section
variable {w w' : World} {p : Pkt} {C : Option Addr} {cn cc : Nat} {E : Option Addr} {en ec : Nat} {L : Option Addr} {ln lc : Nat} {C' : Option Addr} {cn' cc' : Nat} {E' : Option Addr} {en' ec' : Nat} {L' : Option Addr} {ln' lc' : Nat}
theorem PRow.below (h : PRow w p C cn cc E en ec L ln lc) (hb : Below w.heap.size w w') : PRow w' p C cn cc E en ec L ln lc := ⟨h.rc.below hb, h.re.below hb, h.rl.below hb⟩
theorem PRow.hcn (h : PRow w p C cn cc E en ec L ln lc) : p.cs.length = cn := by have := h.rc.len; rw [u32s_length] at this; omega
theorem PRow.hen (h : PRow w p C cn cc E en ec L ln lc) : p.ex.length = en := by have := h.re.len; rw [bys_length] at this; omega
theorem PRow.hln (h : PRow w p C cn cc E en ec L ln lc) : p.pl.length = ln := by have := h.rl.len; rw [bys_length] at this; omega
end
theorem rowB_nil (w : World) (size bytes : Nat) : Row w none 0 0 size bytes [] := ⟨by simp, Nat.le_refl _, Nat.zero_le _, fun _ => ⟨rfl, rfl⟩, Rd.nil _ _⟩
theorem own_row8 {w : World} {base : Nat} {A : Option Addr} {n c : Nat} {l : List UInt8} (h : w.ownsRow base 5 1 (.slice A n c) n (bys l)) : Row w A n c 1 1 (bys l) := by
  have hc := own_cap h
  exact ⟨h.1, hc.1, hc.2, own_nil h, Rd.own h⟩
theorem own_row32 {w : World} {base : Nat} {A : Option Addr} {n c : Nat} {l : List Nat} (h : w.ownsRow base 22 1 (.slice A n c) n (u32s l)) : Row w A n c 1 4 (u32s l) := by
  have hc := own_cap h
  refine ⟨h.1, hc.1, hc.2, own_nil h, fun j u hu => ?_⟩
  have hn : 0 < n := by
    have := (List.getElem?_eq_some_iff.1 hu).1
    rw [h.1] at this; omega
  obtain ⟨g, cap, hv, _⟩ := h.form hn
  injection hv with hA
  subst hA
  exact ⟨_, rfl, h.cells (g := g) rfl j u hu⟩
theorem samePkt_row (p q : Pkt) (hq : q = p) (C : Option Addr) (cn cc : Nat) (E : Option Addr) (en ec : Nat) (L : Option Addr) (ln lc : Nat) (C' : Option Addr) (cn' cc' : Nat) (E' : Option Addr) (en' ec' : Nat) (L' : Option Addr) (ln' lc' : Nat) (w : World)
    (h : PRow w p C cn cc E en ec L ln lc) (h' : PRow w q C' cn' cc' E' en' ec' L' ln' lc') :
    Calls Try.prog 31 #[.agg #[.bool p.mr, .int .i64 p.ty, .int .u16 p.sq, .int .u32 p.tm, .int .u32 p.ss, .slice C cn cc, .bool p.hx, .int .u16 p.pf, .slice E en ec, .slice L ln lc, .int .i64 p.pad], .agg #[.bool q.mr, .int .i64 q.ty, .int .u16 q.sq, .int .u32 q.tm, .int .u32 q.ss, .slice C' cn' cc', .bool q.hx, .int .u16 q.pf, .slice E' en' ec', .slice L' ln' lc', .int .i64 q.pad]] w fun e w' =>
      e = .returned (.bool true) ∧ Below w.heap.size w w' := by
  subst hq
  obtain rfl : cn' = cn := h'.hcn.symm.trans h.hcn
  obtain rfl : en' = en := h'.hen.symm.trans h.hen
  obtain rfl : ln' = ln := h'.hln.symm.trans h.hln
  exact samePkt_any q C cn' cc E en' ec L ln' lc C' cc' E' ec' L' lc' w h.rc h.re h.rl h'.rc h'.re h'.rl
theorem csL_lt (l : List UInt8) (k : Nat) : ∀ x ∈ csL l k, x < 4294967296 := by
  intro x hx
  obtain ⟨i, _, rfl⟩ := List.mem_map.1 hx
  exact getN_ltS l _ 4
theorem getP_ok (l : List UInt8) : (getP l).Ok := by
  unfold getP
  split
  · have h1 : byteN l 1 % 128 < 128 := Nat.mod_lt _ (by omega)
    have hl := look_ok (l := l) (by assumption)
    refine ⟨by simp only; omega, getN_ltS l _ 2, getN_ltS l _ 4, getN_ltS l _ 4, csL_lt l _, ?_, by simp only; omega⟩
    show pfG l < 65536
    unfold pfG
    split
    · exact getN_ltS l _ 2
    · omega
  · exact ⟨by decide, by decide, by decide, by decide, (fun x hx => by cases hx), by decide, by decide⟩
theorem getP_lens (l : List UInt8) : (getP l).ex.length ≤ 512 ∧ (getP l).pl.length ≤ 512 := by
  unfold getP
  split
  · have hl := (look_ok (l := l) (by assumption)).1
    refine ⟨?_, ?_⟩
    · show (exG l).length ≤ 512
      unfold exG
      split
      · rw [List.length_take, List.length_drop]; omega
      · simp
    · show (plG l).length ≤ 512
      unfold plG
      rw [List.length_take, List.length_drop]; omega
  · exact ⟨by simp [zeroP], by simp [zeroP]⟩
/-- Get: what the bytes are, as rows. -/
theorem pget_row (l : List UInt8) (q : Pkt) (Z : Int) (hq : getP l = q) (hZ : Z = (lookE l : Nat)) (A : Option Addr) (n c : Nat) (w : World) (h : Bts w A n c l) :
    Calls Try.prog 30 #[.slice A n c] w fun e w' => ∃ C cn cc E en ec L ln lc, e = .returned (.tuple #[.agg #[.bool q.mr, .int .i64 q.ty, .int .u16 q.sq, .int .u32 q.tm, .int .u32 q.ss, .slice C cn cc, .bool q.hx, .int .u16 q.pf, .slice E en ec, .slice L ln lc, .int .i64 q.pad], .int .i64 Z]) ∧
      Hid (PRow w' q C cn cc E en ec L ln lc) ∧ Below w.heap.size w w' := by
  subst hq hZ
  refine (pget_any A n c l w h).mono ?_
  rintro e w' ⟨C, cn, cc, E, en, ec, L, ln, lc, rfl, h1, h2, h3, h4⟩
  exact ⟨C, cn, cc, E, en, ec, L, ln, lc, rfl, ⟨own_row32 h1, own_row8 h2, own_row8 h3⟩, h4⟩
/-- Put of a packet in memory. -/
theorem pput_row (p : Pkt) (ok : p.Ok) (Z : Int) (hZ : Z = (errP p : Nat)) (l : List UInt8) (hl : outP p = l) (k : Nat) (hk : l.length = k) (C : Option Addr) (cn cc : Nat) (E : Option Addr) (en ec : Nat) (L : Option Addr) (ln lc : Nat) (w : World) (h : PRow w p C cn cc E en ec L ln lc) (b2 : en ≤ 140737488351232) (b3 : ln ≤ 140737488351232) :
    Calls Try.prog 24 #[.agg #[.bool p.mr, .int .i64 p.ty, .int .u16 p.sq, .int .u32 p.tm, .int .u32 p.ss, .slice C cn cc, .bool p.hx, .int .u16 p.pf, .slice E en ec, .slice L ln lc, .int .i64 p.pad]] w fun e w' =>
      ∃ B c', e = .returned (.tuple #[.slice B k c', .int .i64 Z]) ∧ w'.ownsRow w.heap.size 5 1 (.slice B k c') k (bys l) ∧ Below w.heap.size w w' := by
  subst hZ hl hk
  refine (pput_any p C cn cc E en ec L ln lc w h.rc h.re h.rl ok b2 b3).mono ?_
  rintro e w' ⟨B, k, c', rfl, rfl, h2, h3⟩
  exact ⟨B, c', rfl, h2, h3⟩
theorem psize_row (p : Pkt) (S : Int) (hS : S = (sizeP p : Nat)) (C : Option Addr) (cn cc : Nat) (E : Option Addr) (en ec : Nat) (L : Option Addr) (ln lc : Nat) (w : World) (h : PRow w p C cn cc E en ec L ln lc) (b2 : en ≤ 140737488351232) (b3 : ln ≤ 140737488351232) :
    Calls Try.prog 28 #[.agg #[.bool p.mr, .int .i64 p.ty, .int .u16 p.sq, .int .u32 p.tm, .int .u32 p.ss, .slice C cn cc, .bool p.hx, .int .u16 p.pf, .slice E en ec, .slice L ln lc, .int .i64 p.pad]] w fun e w' =>
      e = .returned (.int .i64 S) ∧ Below w.heap.size w w' := by
  subst hS
  exact psize_any p C cn cc E en ec L ln lc w h.hcn h.hen h.hln b2 b3
def pk5 : Pkt := ⟨true, 96, 1, 2, 3, [], false, 0, [], [7, 8], 2⟩
def out5 : List UInt8 := [160, 224, 0, 1, 0, 0, 0, 2, 0, 0, 0, 3, 7, 8, 0, 2]
theorem pk5_ok : pk5.Ok := ⟨by decide, by decide, by decide, by decide, (fun x hx => by cases hx), by decide, by decide⟩
theorem lit_78 (w : World) : Rd (w.alloc (.cells #[.int .u8 7, .int .u8 8] 5)) (some ⟨w.heap.size, 0, none⟩) (bys [7, 8]) := by
  intro j u hu
  refine ⟨_, rfl, ?_⟩
  rw [add_lit, cell_of_row _ _ _ _ _ _ (heap_alloc_new w _)]
  rw [← hu]
  show ((bys [7, 8]).toArray)[j]? = _
  exact List.getElem?_toArray
theorem getP_out5 : getP out5 = pk5 ∧ lookE out5 = 0 := by
  have h1 : lookE out5 = 0 := by decide +kernel
  refine ⟨?_, h1⟩
  have h2 : byteN out5 1 = 224 := by decide +kernel
  have h3 : getN out5 2 2 = 1 := by decide +kernel
  have h4 : getN out5 4 4 = 2 := by decide +kernel
  have h5 : getN out5 8 4 = 3 := by decide +kernel
  have h6 : nCs out5 = 0 := by decide +kernel
  have h7 : exB out5 = false := by decide +kernel
  have h8 : plG out5 = [7, 8] := by decide +kernel
  have h9 : lookT out5 = 14 := by decide +kernel
  unfold getP pfG exG
  rw [if_pos h1, h2, h3, h4, h5, h6, h7, h8, h9]
  rfl
theorem shown5_put (W : World) (g : Nat) (hg : W.heap.size = g) :
    Calls Try.prog 24 #[.agg #[.bool true, .int .i64 96, .int .u16 1, .int .u32 2, .int .u32 3, .slice none 0 0, .bool false, .int .u16 0, .slice none 0 0, .slice (some ⟨g, 0, none⟩) 2 2, .int .i64 2]]
      (W.alloc (.cells #[.int .u8 7, .int .u8 8] 5)) fun e w' => ∃ B c', e = .returned (.tuple #[.slice B 16 c', .int .i64 0]) ∧ w'.ownsRow (g + 1) 5 1 (.slice B 16 c') 16 (bys out5) ∧ Below g W w' := by
  subst hg
  have hr : PRow (W.alloc (.cells #[.int .u8 7, .int .u8 8] 5)) pk5 none 0 0 none 0 0 (some ⟨W.heap.size, 0, none⟩) 2 2 :=
    ⟨rowB_nil _ _ _, rowB_nil _ _ _, rfl, Nat.le_refl _, by unfold maxLen; omega, (fun h => by cases h), lit_78 W⟩
  refine (pput_row pk5 pk5_ok 0 (by decide +kernel) out5 (by decide +kernel) 16 rfl none 0 0 none 0 0 (some ⟨W.heap.size, 0, none⟩) 2 2 _ hr (by omega) (by omega)).mono ?_
  rintro e w' ⟨B, c', rfl, ho, hb⟩
  rw [show (W.alloc (.cells #[.int .u8 7, .int .u8 8] 5)).heap.size = W.heap.size + 1 by simp] at ho
  exact ⟨B, c', rfl, ho, ((Below.refl W.heap.size W).alloc (Nat.le_refl _) _).trans (hb.mono (by simp))⟩
theorem shown5_get (w : World) (base : Nat) (B : Option Addr) (c : Nat) (ho : w.ownsRow base 5 1 (.slice B 16 c) 16 (bys out5)) :
    Calls Try.prog 30 #[.slice B 16 c] w fun e w' => ∃ C cc E ec L lc, e = .returned (.tuple #[.agg #[.bool true, .int .i64 96, .int .u16 1, .int .u32 2, .int .u32 3, .slice C 0 cc, .bool false, .int .u16 0, .slice E 0 ec, .slice L 2 lc, .int .i64 2], .int .i64 0]) ∧
      Hid (PRow w' pk5 C 0 cc E 0 ec L 2 lc) ∧ Below w.heap.size w w' := by
  have hcap := own_cap ho
  refine (pget_row out5 pk5 0 getP_out5.1 (by rw [getP_out5.2]; rfl) B 16 c w ⟨rfl, hcap.1, hcap.2, Rd.own ho⟩).mono ?_
  rintro e w' ⟨C, cn, cc, E, en, ec, L, ln, lc, rfl, hp, hb⟩
  obtain rfl : 0 = cn := hp.out.hcn
  obtain rfl : 0 = en := hp.out.hen
  obtain rfl : 2 = ln := hp.out.hln
  exact ⟨C, cc, E, ec, L, lc, rfl, hp, hb⟩
theorem shown5_size (w : World) (C : Option Addr) (cc : Nat) (E : Option Addr) (ec : Nat) (L : Option Addr) (lc : Nat) (h : PRow w pk5 C 0 cc E 0 ec L 2 lc) :
    Calls Try.prog 28 #[.agg #[.bool true, .int .i64 96, .int .u16 1, .int .u32 2, .int .u32 3, .slice C 0 cc, .bool false, .int .u16 0, .slice E 0 ec, .slice L 2 lc, .int .i64 2]] w fun e w' => e = .returned (.int .i64 16) ∧ Below w.heap.size w w' :=
  psize_row pk5 16 (by decide +kernel) C 0 cc E 0 ec L 2 lc w h (by omega) (by omega)
set_option maxRecDepth 20000 in
set_option maxHeartbeats 1000000 in
theorem shown5_any (w : World) : Calls Try.prog 23 #[] w fun e w' => e = .returned (.bool true) ∧ Below w.heap.size w w' := by
  go_enter Try.func23, Try.ntmps23
  go_wp2_with (first
    | (go_at_call 24; (with_reducible refine (shown5_put w _ rfl).mono ?_); rintro e w1 ⟨B, c1, rfl, ho1, hb1⟩)
    | (go_at_call 30; (with_reducible refine (shown5_get w1 _ B c1 ho1).mono ?_); rintro e w2 ⟨C, cc, E, ec, L, lc, rfl, hp2, hb2⟩; have hr2 := (Rd.own ho1).below hb2; have hcv := fun o => cv_rd (w := w2.alloc o) (A := B) (n := 16) (c := c1) (l := out5) rfl (hr2.below ((Below.refl _ _).alloc (Nat.le_refl _) o)); have hcw := fun o => cv_rd (w := w2.alloc o) (A := L) (n := 2) (c := lc) (l := [7, 8]) rfl (hp2.out.rl.rd.below ((Below.refl _ _).alloc (Nat.le_refl _) o)); have HP2 := Lib.hid (fun o => hp2.out.below ((Below.refl w2.heap.size w2).alloc (Nat.le_refl _) o)); clear hp2)
    | (go_at_call 28; (with_reducible refine (shown5_size _ C cc E ec L lc (HP2.out _)).mono ?_); rintro e w3 ⟨rfl, hb3⟩))
  go_ret
  have hb4 := ((hb1.trans (hb2.mono hb1.size)).alloc (Nat.le_trans hb1.size hb2.size) (.cells #[.bool true, .int .i64 96, .int .u16 1, .int .u32 2, .int .u32 3, .slice C 0 cc, .bool false, .int .u16 0, .slice E 0 ec, .slice L 2 lc, .int .i64 2] 44))
  exact ⟨rfl, hb4.trans (hb3.mono hb4.size)⟩
end Go.Proofs.Ytnkclbaeamcplaa
