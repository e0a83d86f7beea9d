/-
SiftMade: for a Media and a Feedback that are built from any packet, descriptor and items, Bytes returns what the reference returns, and Flat returns these parts. For every packet, descriptor and list of items.
-/
import Derived.Test.YtknlkmencdlpcaaSmFrame
import Derived.Test.YtknlkmencdlpcaaDescFrame
import Derived.Test.YtknlkmencdlpcaaRows
import Derived.Deep.CutBlock
namespace Go.Proofs.Ytknlkmencdlpcaa
set_option linter.unusedVariables false
set_option linter.unusedSimpArgs false
open Go Go.RowKit

/-- A descriptor fits a packet's payload. -/
def fitD (l : List UInt8) (dl : Int) (dk ds : Bool) (df : Int) : Bool := decide (dE l = 0 ∧ (dL l : Int) = dl ∧ dK l = dk ∧ dS l = ds ∧ (dF l : Int) = df)
theorem bytes_m (q : Pkt) (C : Option Addr) (cn cc : Nat) (E : Option Addr) (en ec : Nat) (L : Option Addr) (ln lc : Nat) (dl : Int) (dk ds : Bool) (df : Int) (Z : Int) (l : List UInt8) (m : Nat) (w : World) (h : PRow w q C cn cc E en ec L ln lc) (ok : q.Ok) (b2 : en ≤ 140737488351232) (b3 : ln ≤ 140737488351232)
    (hZ : Z = if fitD q.pl dl dk ds df then ((errP q : Nat) : Int) else 1) (hl : (if fitD q.pl dl dk ds df then outP q else []) = l) (hm : l.length = m) :
    Calls Try.prog 75 #[.iface 125 (mdA q C cn cc E en ec L ln lc dl dk ds df)] w fun e w' => ∃ B c', e = .returned (.tuple #[.slice B m c', .int .i64 Z]) ∧ Hid (Bts w' B m c' l) ∧ Below w.heap.size w w' := by
  cases hf : fitD q.pl dl dk ds df
  · rw [hf] at hZ hl
    simp only [Bool.false_eq_true, if_false] at hZ hl
    subst hZ hl hm
    have hno : dE q.pl ≠ 0 ∨ ¬ ((dL q.pl : Int) = dl ∧ dK q.pl = dk ∧ dS q.pl = ds ∧ (dF q.pl : Int) = df) := by
      unfold fitD at hf
      have hf' := of_decide_eq_false hf
      by_cases h0 : dE q.pl = 0
      · exact .inr fun h => hf' ⟨h0, h⟩
      · exact .inl h0
    refine (bytes_m_no q C cn cc E en ec L ln lc dl dk ds df w h hno).mono ?_
    rintro e w' ⟨rfl, hb⟩
    exact ⟨none, 0, rfl, ⟨rfl, Nat.le_refl _, Nat.zero_le _, Rd.nil _ _⟩, hb⟩
  · rw [hf] at hZ hl
    simp only [if_true] at hZ hl
    unfold fitD at hf
    obtain ⟨h0, e1, e2, e3, e4⟩ := of_decide_eq_true hf
    refine (bytes_m_yes q C cn cc E en ec L ln lc dl dk ds df Z l m w h ok b2 b3 h0 e1 e2 e3 e4 hZ hl hm).mono ?_
    rintro e w' ⟨B, c', rfl, ho, hb⟩
    exact ⟨B, c', rfl, own_bts ho.out, hb⟩
theorem rdget_z (A : Option Addr) (n c : Nat) (l : List UInt8) (dl : Int) (dk ds : Bool) (df Z : Int) (h1 : (dL l : Int) = dl) (h2 : dK l = dk) (h3 : dS l = ds) (h4 : (dF l : Int) = df) (h5 : dE l = Z) (w : World) (h : Bts w A n c l) :
    Calls Try.prog 76 #[.slice A n c] w fun e w' => e = .returned (.tuple #[.agg #[.int .i64 dl, .bool dk, .bool ds, .int .u16 df], .int .i64 Z]) ∧ Below w.heap.size w w' := by
  subst h1 h2 h3 h4
  exact rdget_w A n c l Z h5 w h
theorem fit_no {l : List UInt8} {dl a1 : Int} {dk ds a2 a3 : Bool} {df a4 a5 : Int} (h1 : (dL l : Int) = a1) (h2 : dK l = a2) (h3 : dS l = a3) (h4 : (dF l : Int) = a4) (h5 : dE l = a5) (hf : fitD l dl dk ds df = false) :
    a5 ≠ 0 ∨ (a5 = 0 ∧ ¬ a1 = dl) ∨ (a5 = 0 ∧ a1 = dl ∧ ¬ a2 = dk) ∨ (a5 = 0 ∧ a1 = dl ∧ a2 = dk ∧ ¬ a3 = ds) ∨ (a5 = 0 ∧ a1 = dl ∧ a2 = dk ∧ a3 = ds ∧ ¬ a4 = df) := by
  unfold fitD at hf
  have h := of_decide_eq_false hf
  rw [h1, h2, h3, h4, h5] at h
  by_cases k0 : a5 = 0
  · by_cases k1 : a1 = dl
    · by_cases k2 : a2 = dk
      · by_cases k3 : a3 = ds
        · exact .inr (.inr (.inr (.inr ⟨k0, k1, k2, k3, fun k4 => h ⟨k0, k1, k2, k3, k4⟩⟩)))
        · exact .inr (.inr (.inr (.inl ⟨k0, k1, k2, k3⟩)))
      · exact .inr (.inr (.inl ⟨k0, k1, k2⟩))
    · exact .inr (.inl ⟨k0, k1⟩)
  · exact .inl k0
theorem fit_yes {l : List UInt8} {dl a1 : Int} {dk ds a2 a3 : Bool} {df a4 a5 : Int} (h1 : (dL l : Int) = a1) (h2 : dK l = a2) (h3 : dS l = a3) (h4 : (dF l : Int) = a4) (h5 : dE l = a5) (hf : fitD l dl dk ds df = true) : a5 = 0 ∧ a1 = dl ∧ a2 = dk ∧ a3 = ds ∧ a4 = df := by
  unfold fitD at hf
  have h := of_decide_eq_true hf
  rw [h1, h2, h3, h4, h5] at h
  exact h
set_option maxRecDepth 20000 in
set_option maxHeartbeats 4000000 in
theorem siftMade_walk (p : Pkt) (C : Option Addr) (cn cc : Nat) (E : Option Addr) (en ec : Nat) (L : Option Addr) (ln lc : Nat) (dl : Int) (dk ds : Bool) (df : Int) (A : Option Addr) (n c : Nat) (xs : List Sl) (w : World)
    (ra : Row w C cn cc 1 4 (u32s p.cs)) (re : Row w E en ec 1 1 (bys p.ex)) (rl : Row w L ln lc 1 1 (bys p.pl)) (ok : p.Ok) (be : en ≤ 140737488351232) (bl : ln ≤ 140737488351232) (bc : cn * 4 ≤ 140737488351232) (bd : (-9223372036854775808 ≤ dl ∧ dl ≤ 9223372036854775807) ∧ (0 ≤ df ∧ df ≤ 65535)) (it : Its w A n c xs) (hb : n * 120 ≤ 140737488351232) (sb : ∀ x ∈ xs, SlB x) (nl : A = none → n = 0 ∧ c = 0) :
    Calls Try.prog 13 #[.agg #[.bool p.mr, .int .i64 p.ty, .int .u16 p.sq, .int .u32 p.tm, .int .u32 p.ss, .slice C cn cc, .bool p.hx, .int .u16 p.pf, .slice E en ec, .slice L ln lc, .int .i64 p.pad], .agg #[.int .i64 dl, .bool dk, .bool ds, .int .u16 df], .slice A n c] w fun e w' => e = .returned (.bool true) ∧ Below w.heap.size w w' := by
  have HP : Hid (PRow w p C cn cc E en ec L ln lc) := ⟨ra, re, rl⟩
  have HO := Lib.hid ok
  have HI := Lib.hid (And.intro it (And.intro sb nl))
  have HC := Lib.hid (And.intro be (And.intro bl (And.intro bc hb)))
  clear ra re rl ok it sb nl be bl bc hb bd
  obtain ⟨z1, hz1⟩ : ∃ z1 : Int, z1 = if fitD p.pl dl dk ds df then ((errP p : Nat) : Int) else 1 := ⟨_, rfl⟩
  obtain ⟨l1, hl1⟩ : ∃ l1, (if fitD p.pl dl dk ds df then outP p else []) = l1 := ⟨_, rfl⟩
  obtain ⟨m1, hm1⟩ : ∃ m1, l1.length = m1 := ⟨_, rfl⟩
  obtain ⟨z2, hz2⟩ : ∃ z2 : Int, z2 = (errP p : Nat) := ⟨_, rfl⟩
  obtain ⟨l2, hl2⟩ : ∃ l2, outP p = l2 := ⟨_, rfl⟩
  obtain ⟨m2, hm2⟩ : ∃ m2, l2.length = m2 := ⟨_, rfl⟩
  obtain ⟨z3, hz3⟩ : ∃ z3 : Int, z3 = (putsE (itm xs) : Nat) := ⟨_, rfl⟩
  obtain ⟨l3, hl3⟩ : ∃ l3, putsL (itm xs) = l3 := ⟨_, rfl⟩
  obtain ⟨m3, hm3⟩ : ∃ m3, l3.length = m3 := ⟨_, rfl⟩
  obtain ⟨a1, a2, a3, a4, a5, e1, e2, e3, e4, e5⟩ : ∃ (a1 : Int) (a2 a3 : Bool) (a4 a5 : Int), (dL p.pl : Int) = a1 ∧ dK p.pl = a2 ∧ dS p.pl = a3 ∧ (dF p.pl : Int) = a4 ∧ dE p.pl = a5 := ⟨_, _, _, _, _, rfl, rfl, rfl, rfl, rfl⟩
  have HE := Lib.hid (And.intro e1 (And.intro e2 (And.intro e3 (And.intro e4 e5))))
  have H1 := Lib.hid (And.intro hz1 (And.intro hl1 hm1))
  have H2 := Lib.hid (And.intro hz2 (And.intro hl2 hm2))
  have H3 := Lib.hid (And.intro hz3 (And.intro hl3 hm3))
  clear hz1 hl1 hm1 hz2 hl2 hm2 hz3 hl3 hm3 e1 e2 e3 e4 e5
  go_enter Try.func13, Try.ntmps13
  go_upto_region 4 with (go_at_call 66; (with_reducible refine (shown10_any _).mono ?_); rintro e w1 ⟨rfl, hb1⟩; have hB1 := below_next (below_al (al_b w (.cells #[.bool p.mr, .int .i64 p.ty, .int .u16 p.sq, .int .u32 p.tm, .int .u32 p.ss, .slice C cn cc, .bool p.hx, .int .u16 p.pf, .slice E en ec, .slice L ln lc, .int .i64 p.pad] 39)) (.cells #[.int .i64 dl, .bool dk, .bool ds, .int .u16 df] 109)) hb1; have hp1 := blk_below (al_keep (heap_alloc_new w (.cells #[.bool p.mr, .int .i64 p.ty, .int .u16 p.sq, .int .u32 p.tm, .int .u32 p.ss, .slice C cn cc, .bool p.hx, .int .u16 p.pf, .slice E en ec, .slice L ln lc, .int .i64 p.pad] 39)) (.cells #[.int .i64 dl, .bool dk, .bool ds, .int .u16 df] 109)) hb1; have hd1 := blk_below (al_new (w.alloc (.cells #[.bool p.mr, .int .i64 p.ty, .int .u16 p.sq, .int .u32 p.tm, .int .u32 p.ss, .slice C cn cc, .bool p.hx, .int .u16 p.pf, .slice E en ec, .slice L ln lc, .int .i64 p.pad] 39)) (.cells #[.int .i64 dl, .bool dk, .bool ds, .int .u16 df] 109) (al_size _ _)) hb1; obtain ⟨x0, x1, x2, x3, x4, x5, x6, x7, x8, x9, x10⟩ := eleven_cells hp1; obtain ⟨d0, d1, d2, d3⟩ := row4_cells hd1)
  have hp0 := blk_below hp1 ((al_b w1 (.cells #[.bool p.mr, .int .i64 p.ty, .int .u16 p.sq, .int .u32 p.tm, .int .u32 p.ss, .slice C cn cc, .bool p.hx, .int .u16 p.pf, .slice E en ec, .slice L ln lc, .int .i64 p.pad, .int .i64 dl, .bool dk, .bool ds, .int .u16 df] 125)).trans ((al_b (w1.alloc (.cells #[.bool p.mr, .int .i64 p.ty, .int .u16 p.sq, .int .u32 p.tm, .int .u32 p.ss, .slice C cn cc, .bool p.hx, .int .u16 p.pf, .slice E en ec, .slice L ln lc, .int .i64 p.pad, .int .i64 dl, .bool dk, .bool ds, .int .u16 df] 125)) (.cells #[.slice A n c] 127)).mono (by simp)))
  have hd0 := blk_below hd1 ((al_b w1 (.cells #[.bool p.mr, .int .i64 p.ty, .int .u16 p.sq, .int .u32 p.tm, .int .u32 p.ss, .slice C cn cc, .bool p.hx, .int .u16 p.pf, .slice E en ec, .slice L ln lc, .int .i64 p.pad, .int .i64 dl, .bool dk, .bool ds, .int .u16 df] 125)).trans ((al_b (w1.alloc (.cells #[.bool p.mr, .int .i64 p.ty, .int .u16 p.sq, .int .u32 p.tm, .int .u32 p.ss, .slice C cn cc, .bool p.hx, .int .u16 p.pf, .slice E en ec, .slice L ln lc, .int .i64 p.pad, .int .i64 dl, .bool dk, .bool ds, .int .u16 df] 125)) (.cells #[.slice A n c] 127)).mono (by simp)))
  have hm0 := al_keep (heap_alloc_new w1 (.cells #[.bool p.mr, .int .i64 p.ty, .int .u16 p.sq, .int .u32 p.tm, .int .u32 p.ss, .slice C cn cc, .bool p.hx, .int .u16 p.pf, .slice E en ec, .slice L ln lc, .int .i64 p.pad, .int .i64 dl, .bool dk, .bool ds, .int .u16 df] 125)) (.cells #[.slice A n c] 127)
  have hf0 := heap_alloc_new (w1.alloc (.cells #[.bool p.mr, .int .i64 p.ty, .int .u16 p.sq, .int .u32 p.tm, .int .u32 p.ss, .slice C cn cc, .bool p.hx, .int .u16 p.pf, .slice E en ec, .slice L ln lc, .int .i64 p.pad, .int .i64 dl, .bool dk, .bool ds, .int .u16 df] 125)) (.cells #[.slice A n c] 127)
  rw [al_size] at hf0
  have hB0 := below_al (below_al hB1 (.cells #[.bool p.mr, .int .i64 p.ty, .int .u16 p.sq, .int .u32 p.tm, .int .u32 p.ss, .slice C cn cc, .bool p.hx, .int .u16 p.pf, .slice E en ec, .slice L ln lc, .int .i64 p.pad, .int .i64 dl, .bool dk, .bool ds, .int .u16 df] 125)) (.cells #[.slice A n c] 127)
  obtain ⟨g, hg⟩ : ∃ g, g = w1.heap.size := ⟨_, rfl⟩
  generalize (w1.alloc (.cells #[.bool p.mr, .int .i64 p.ty, .int .u16 p.sq, .int .u32 p.tm, .int .u32 p.ss, .slice C cn cc, .bool p.hx, .int .u16 p.pf, .slice E en ec, .slice L ln lc, .int .i64 p.pad, .int .i64 dl, .bool dk, .bool ds, .int .u16 df] 125)).alloc (.cells #[.slice A n c] 127) = wy at *
  obtain ⟨y0, y1, y2, y3, y4, y5, y6, y7, y8, y9, y10, y11, y12, y13, y14⟩ := fifteen_cells hm0
  have f0 : wy.cell? ⟨w1.heap.size + 1, 0, none⟩ = some (.slice A n c) := by rw [cell_of_row _ _ _ _ _ _ hf0]; rfl
  go_upto_region 8 with (first
    | (go_at_call 75; (with_reducible refine (bytes_m p C cn cc E en ec L ln lc dl dk ds df z1 l1 m1 wy (HP.out.below hB0) HO.out HC.out.1 HC.out.2.1 H1.out.1 H1.out.2.1 H1.out.2.2).mono ?_); rintro e w2 ⟨B2, c2, rfl, HB2, hb2⟩; have hB2 := below_next hB0 hb2; have hp2 := blk_below hp0 hb2; have hd2 := blk_below hd0 hb2; have hm2 := blk_below hm0 hb2; have hf2 := blk_below hf0 hb2; have f2 : w2.cell? ⟨w1.heap.size + 1, 0, none⟩ = some (.slice A n c) := (by rw [cell_of_row _ _ _ _ _ _ hf2]; rfl))
    | (go_at_call 75; (with_reducible refine (bytes_f A n c xs l3 z3 m3 w2 (HI.out.1.below hB2) (by have := HC.out.2.2.2; omega) H3.out.1 H3.out.2.1 H3.out.2.2).mono ?_); rintro e w3 ⟨B3, c3, rfl, HB3, hb3⟩; have hB3 := below_next hB2 hb3; have HB2a := Lib.hid (HB2.out.below hb3); have hp3 := blk_below hp2 hb3; have hd3 := blk_below hd2 hb3; have hm3 := blk_below hm2 hb3; have hf3 := blk_below hf2 hb3; obtain ⟨x0, x1, x2, x3, x4, x5, x6, x7, x8, x9, x10⟩ := eleven_cells hp3)
    | (go_at_call 26; (with_reducible refine (rpput_row p C cn cc E en ec L ln lc w3 HO.out z2 H2.out.1 l2 H2.out.2.1 m2 H2.out.2.2 (HP.out.below hB3) HC.out.1 HC.out.2.1).mono ?_); rintro e w4 ⟨B4, c4, rfl, ho4, hb4⟩; have hB4 := below_next hB3 hb4; have HB2b := Lib.hid (HB2a.out.below hb4); have HB3b := Lib.hid ((own_bts HB3.out).below hb4); have hp4 := blk_below hp3 hb4; have hd4 := blk_below hd3 hb4; have hm4 := blk_below hm3 hb4; have hf4 := blk_below hf3 hb4; obtain ⟨x0, x1, x2, x3, x4, x5, x6, x7, x8, x9, x10⟩ := eleven_cells hp4)
    | (go_at_call 76; (with_reducible refine (rdget_z L ln lc p.pl a1 a2 a3 a4 a5 HE.out.1 HE.out.2.1 HE.out.2.2.1 HE.out.2.2.2.1 HE.out.2.2.2.2 w4 (prow_bts (HP.out.below hB4))).mono ?_); rintro e w5 ⟨rfl, hb5⟩; have hb6 := (hb5.alloc hb5.size (.cells #[.int .i64 a1, .bool a2, .bool a3, .int .u16 a4] 109)); have hB6 := below_next hB4 hb6; have HB2c := Lib.hid (HB2b.out.below hb6); have HB3c := Lib.hid (HB3b.out.below hb6); have HW := Lib.hid ((own_bts ho4).below hb6); have hxn := heap_alloc_new w5 (.cells #[.int .i64 a1, .bool a2, .bool a3, .int .u16 a4] 109); have hp6 := blk_below hp4 hb6; have hd6 := blk_below hd4 hb6; have hm6 := blk_below hm4 hb6; have hf6 := blk_below hf4 hb6))
  generalize w5.alloc (.cells #[.int .i64 a1, .bool a2, .bool a3, .int .u16 a4] 109) = w6 at *
  go_cut [61] from 55 to 60 (fun s61 wx => s61 = .bool (!(fitD p.pl dl dk ds df)) ∧ wx = w6)
  case first =>
    clear hm6 hf6
    obtain ⟨u0, u1, u2, u3⟩ := row4_cells hxn
    obtain ⟨d0, d1, d2, d3⟩ := row4_cells hd6
    cases hfit : fitD p.pl dl dk ds df
    · have hc := fit_no HE.out.1 HE.out.2.1 HE.out.2.2.1 HE.out.2.2.2.1 HE.out.2.2.2.2 hfit
      rcases hc with k1 | ⟨rfl, k1⟩ | ⟨rfl, rfl, k2⟩ | ⟨rfl, rfl, rfl, k3⟩ | ⟨rfl, rfl, rfl, rfl, k4⟩
      · have k1' : (a5 != 0) = true := by simpa using k1
        go_wp2
        go_meet
        exact ⟨by rw [hfit]; rfl, rfl⟩
      all_goals
        go_wp2
        go_meet
        exact ⟨by rw [hfit]; rfl, rfl⟩
    · obtain ⟨k0, k1, k2, k3, k4⟩ := fit_yes HE.out.1 HE.out.2.1 HE.out.2.2.1 HE.out.2.2.2.1 HE.out.2.2.2.2 hfit
      subst k0 k1 k2 k3 k4
      go_wp2
      go_meet
      exact ⟨by rw [hfit]; rfl, rfl⟩
  case rest =>
    obtain ⟨rfl, rfl⟩ := hcut
    clear HE
    obtain ⟨y0, y1, y2, y3, y4, y5, y6, y7, y8, y9, y10, y11, y12, y13, y14⟩ := fifteen_cells hm6
    cases hfit : fitD p.pl dl dk ds df
    · obtain ⟨k1, k2, k3⟩ := H1.out
      rw [hfit] at k1 k2
      simp only [Bool.false_eq_true, if_false] at k1 k2
      have k3' : m1 = 0 := by rw [← k3, ← k2]; rfl
      clear k3 hfit
      subst k1 k3' k2
      go_wp2_with (first
        | (go_at_call 29; (with_reducible refine (rputI_v A n c xs wc (HI.out.1.below hB6) (by have := HC.out.2.2.2; omega) l3 z3 m3 H3.out.1 H3.out.2.1 H3.out.2.2).mono ?_); rintro e w7 ⟨B7, c7, rfl, ho7, hb7⟩; have hB7 := below_next hB6 hb7; have hp7 := blk_below hp6 hb7; have hd7 := blk_below hd6 hb7; have hm7 := blk_below hm6 hb7; have hf7 := blk_below hf6 hb7; obtain ⟨y0, y1, y2, y3, y4, y5, y6, y7, y8, y9, y10, y11, y12, y13, y14⟩ := fifteen_cells hm7)
        | (go_at_call 70; (with_reducible refine (flat_m p C cn cc E en ec L ln lc dl dk ds df w7 (HP.out.below hB7) (by have := HC.out.2.2.1; omega) HC.out.1 HC.out.2.1).mono ?_); rintro e w8 ⟨C8, cc8, E8, ec8, L8, lc8, rfl, HR8, hb8⟩; have hA8 := below_al (al_b w8 (.cells #[.bool p.mr, .int .i64 p.ty, .int .u16 p.sq, .int .u32 p.tm, .int .u32 p.ss, .slice C8 cn cc8, .bool p.hx, .int .u16 p.pf, .slice E8 en ec8, .slice L8 ln lc8, .int .i64 p.pad] 39)) (.cells #[.int .i64 dl, .bool dk, .bool ds, .int .u16 df] 109); have hB8 := below_next (below_next hB7 hb8) hA8; have hp8 := blk_below (blk_below hp7 hb8) hA8; have hd8 := blk_below (blk_below hd7 hb8) hA8; have hm8 := blk_below (blk_below hm7 hb8) hA8; have hf8 := blk_below (blk_below hf7 hb8) hA8; have hq8 := al_keep (heap_alloc_new w8 (.cells #[.bool p.mr, .int .i64 p.ty, .int .u16 p.sq, .int .u32 p.tm, .int .u32 p.ss, .slice C8 cn cc8, .bool p.hx, .int .u16 p.pf, .slice E8 en ec8, .slice L8 ln lc8, .int .i64 p.pad] 39)) (.cells #[.int .i64 dl, .bool dk, .bool ds, .int .u16 df] 109); have hy8 := heap_alloc_new (w8.alloc (.cells #[.bool p.mr, .int .i64 p.ty, .int .u16 p.sq, .int .u32 p.tm, .int .u32 p.ss, .slice C8 cn cc8, .bool p.hx, .int .u16 p.pf, .slice E8 en ec8, .slice L8 ln lc8, .int .i64 p.pad] 39)) (.cells #[.int .i64 dl, .bool dk, .bool ds, .int .u16 df] 109); rw [al_size] at hy8; have f8 : ((w8.alloc (.cells #[.bool p.mr, .int .i64 p.ty, .int .u16 p.sq, .int .u32 p.tm, .int .u32 p.ss, .slice C8 cn cc8, .bool p.hx, .int .u16 p.pf, .slice E8 en ec8, .slice L8 ln lc8, .int .i64 p.pad] 39)).alloc (.cells #[.int .i64 dl, .bool dk, .bool ds, .int .u16 df] 109)).cell? ⟨w1.heap.size + 1, 0, none⟩ = some (.slice A n c) := (by rw [cell_of_row _ _ _ _ _ _ hf8]; rfl))
        | (go_at_call 70; (with_reducible refine (flat_f A n c xs _ (HI.out.1.below hB8) HI.out.2.2 (by have := HC.out.2.2.2; omega) HI.out.2.1).mono ?_); rintro e w9 ⟨A9, c9, ys9, rfl, HY9, HE9, hb9⟩; have hA9 := below_al (al_b w9 (.cells #[.bool false, .int .i64 0, .int .u16 0, .int .u32 0, .int .u32 0, .slice none 0 0, .bool false, .int .u16 0, .slice none 0 0, .slice none 0 0, .int .i64 0] 39)) (.cells #[.int .i64 0, .bool false, .bool false, .int .u16 0] 109); have hB9 := below_next (below_next hB8 hb9) hA9; have hp9 := blk_below (blk_below hp8 hb9) hA9; have hd9 := blk_below (blk_below hd8 hb9) hA9; have hq9 := blk_below (blk_below hq8 hb9) hA9; have hy9 := blk_below (blk_below hy8 hb9) hA9; have hb69 := below_next (below_next (below_next (below_next hb7 hb8) hA8) hb9) hA9; have v1 := cv_rd (c := c2) (HB2c.out.len) (HB2c.out.below hb69).rd; have v2 := cv_rd (A := none) (c := 0) (l := []) (n := 0) (w := (w9.alloc (.cells #[.bool false, .int .i64 0, .int .u16 0, .int .u32 0, .int .u32 0, .slice none 0 0, .bool false, .int .u16 0, .slice none 0 0, .slice none 0 0, .int .i64 0] 39)).alloc (.cells #[.int .i64 0, .bool false, .bool false, .int .u16 0] 109)) rfl (Rd.nil _ _); have v3 := cv_rd (c := c3) (HB3c.out.len) (HB3c.out.below hb69).rd; have v4 := cv_rd (c := c7) (own_bts ho7).len ((((own_bts ho7).below hb8).below hA8).below (below_next hb9 hA9)).rd; obtain ⟨x0, x1, x2, x3, x4, x5, x6, x7, x8, x9, x10⟩ := eleven_cells hp9; obtain ⟨q0, q1, q2, q3, q4, q5, q6, q7, q8, q9, q10⟩ := eleven_cells hq9)
        | (go_at_call 71; (with_reducible refine (samePkt_row p p rfl C cn cc E en ec L ln lc C8 cn cc8 E8 en ec8 L8 ln lc8 _ (HP.out.below hB9) ((HR8.out.below hA8).below (below_next hb9 hA9))).mono ?_); rintro e w10 ⟨rfl, hb10⟩; have hB10 := below_next hB9 hb10; have hd10 := blk_below hd9 hb10; have hy10 := blk_below hy9 hb10; obtain ⟨d0, d1, d2, d3⟩ := row4_cells hd10; obtain ⟨u0, u1, u2, u3⟩ := row4_cells hy10)
        | (go_at_call 36; (with_reducible refine (sameIts_any A9 n c9 ys9 A n c xs w10 ((HY9.out.below hA9).below hb10) (HI.out.1.below hB10) HE9.out).mono ?_); rintro e w11 ⟨rfl, hb11⟩; have hB11 := below_next hB10 hb11))
      go_ret
      exact ⟨rfl, hB11⟩
    · obtain ⟨j1, j2, j3⟩ := H1.out
      obtain ⟨i1, i2, i3⟩ := H2.out
      rw [hfit] at j1 j2
      simp only [if_true] at j1 j2
      have q1 : z1 = z2 := j1.trans i1.symm
      have q2 : l1 = l2 := j2.symm.trans i2
      have q3 : m1 = m2 := by rw [← j3, ← i3, q2]
      subst q1 q2 q3
      clear hfit j1 j2 j3 i1 i2 i3
      go_wp2_with (first
        | (go_at_call 29; (with_reducible refine (rputI_v A n c xs wc (HI.out.1.below hB6) (by have := HC.out.2.2.2; omega) l3 z3 m3 H3.out.1 H3.out.2.1 H3.out.2.2).mono ?_); rintro e w7 ⟨B7, c7, rfl, ho7, hb7⟩; have hB7 := below_next hB6 hb7; have hp7 := blk_below hp6 hb7; have hd7 := blk_below hd6 hb7; have hm7 := blk_below hm6 hb7; have hf7 := blk_below hf6 hb7; obtain ⟨y0, y1, y2, y3, y4, y5, y6, y7, y8, y9, y10, y11, y12, y13, y14⟩ := fifteen_cells hm7)
        | (go_at_call 70; (with_reducible refine (flat_m p C cn cc E en ec L ln lc dl dk ds df w7 (HP.out.below hB7) (by have := HC.out.2.2.1; omega) HC.out.1 HC.out.2.1).mono ?_); rintro e w8 ⟨C8, cc8, E8, ec8, L8, lc8, rfl, HR8, hb8⟩; have hA8 := below_al (al_b w8 (.cells #[.bool p.mr, .int .i64 p.ty, .int .u16 p.sq, .int .u32 p.tm, .int .u32 p.ss, .slice C8 cn cc8, .bool p.hx, .int .u16 p.pf, .slice E8 en ec8, .slice L8 ln lc8, .int .i64 p.pad] 39)) (.cells #[.int .i64 dl, .bool dk, .bool ds, .int .u16 df] 109); have hB8 := below_next (below_next hB7 hb8) hA8; have hp8 := blk_below (blk_below hp7 hb8) hA8; have hd8 := blk_below (blk_below hd7 hb8) hA8; have hm8 := blk_below (blk_below hm7 hb8) hA8; have hf8 := blk_below (blk_below hf7 hb8) hA8; have hq8 := al_keep (heap_alloc_new w8 (.cells #[.bool p.mr, .int .i64 p.ty, .int .u16 p.sq, .int .u32 p.tm, .int .u32 p.ss, .slice C8 cn cc8, .bool p.hx, .int .u16 p.pf, .slice E8 en ec8, .slice L8 ln lc8, .int .i64 p.pad] 39)) (.cells #[.int .i64 dl, .bool dk, .bool ds, .int .u16 df] 109); have hy8 := heap_alloc_new (w8.alloc (.cells #[.bool p.mr, .int .i64 p.ty, .int .u16 p.sq, .int .u32 p.tm, .int .u32 p.ss, .slice C8 cn cc8, .bool p.hx, .int .u16 p.pf, .slice E8 en ec8, .slice L8 ln lc8, .int .i64 p.pad] 39)) (.cells #[.int .i64 dl, .bool dk, .bool ds, .int .u16 df] 109); rw [al_size] at hy8; have f8 : ((w8.alloc (.cells #[.bool p.mr, .int .i64 p.ty, .int .u16 p.sq, .int .u32 p.tm, .int .u32 p.ss, .slice C8 cn cc8, .bool p.hx, .int .u16 p.pf, .slice E8 en ec8, .slice L8 ln lc8, .int .i64 p.pad] 39)).alloc (.cells #[.int .i64 dl, .bool dk, .bool ds, .int .u16 df] 109)).cell? ⟨w1.heap.size + 1, 0, none⟩ = some (.slice A n c) := (by rw [cell_of_row _ _ _ _ _ _ hf8]; rfl))
        | (go_at_call 70; (with_reducible refine (flat_f A n c xs _ (HI.out.1.below hB8) HI.out.2.2 (by have := HC.out.2.2.2; omega) HI.out.2.1).mono ?_); rintro e w9 ⟨A9, c9, ys9, rfl, HY9, HE9, hb9⟩; have hA9 := below_al (al_b w9 (.cells #[.bool false, .int .i64 0, .int .u16 0, .int .u32 0, .int .u32 0, .slice none 0 0, .bool false, .int .u16 0, .slice none 0 0, .slice none 0 0, .int .i64 0] 39)) (.cells #[.int .i64 0, .bool false, .bool false, .int .u16 0] 109); have hB9 := below_next (below_next hB8 hb9) hA9; have hp9 := blk_below (blk_below hp8 hb9) hA9; have hd9 := blk_below (blk_below hd8 hb9) hA9; have hq9 := blk_below (blk_below hq8 hb9) hA9; have hy9 := blk_below (blk_below hy8 hb9) hA9; have hb69 := below_next (below_next (below_next (below_next hb7 hb8) hA8) hb9) hA9; have v1 := cv_rd (c := c2) (HB2c.out.len) (HB2c.out.below hb69).rd; have v2 := cv_rd (c := c4) (HW.out.len) (HW.out.below hb69).rd; have v3 := cv_rd (c := c3) (HB3c.out.len) (HB3c.out.below hb69).rd; have v4 := cv_rd (c := c7) (own_bts ho7).len ((((own_bts ho7).below hb8).below hA8).below (below_next hb9 hA9)).rd; obtain ⟨x0, x1, x2, x3, x4, x5, x6, x7, x8, x9, x10⟩ := eleven_cells hp9; obtain ⟨q0, q1, q2, q3, q4, q5, q6, q7, q8, q9, q10⟩ := eleven_cells hq9)
        | (go_at_call 71; (with_reducible refine (samePkt_row p p rfl C cn cc E en ec L ln lc C8 cn cc8 E8 en ec8 L8 ln lc8 _ (HP.out.below hB9) ((HR8.out.below hA8).below (below_next hb9 hA9))).mono ?_); rintro e w10 ⟨rfl, hb10⟩; have hB10 := below_next hB9 hb10; have hd10 := blk_below hd9 hb10; have hy10 := blk_below hy9 hb10; obtain ⟨d0, d1, d2, d3⟩ := row4_cells hd10; obtain ⟨u0, u1, u2, u3⟩ := row4_cells hy10)
        | (go_at_call 36; (with_reducible refine (sameIts_any A9 n c9 ys9 A n c xs w10 ((HY9.out.below hA9).below hb10) (HI.out.1.below hB10) HE9.out).mono ?_); rintro e w11 ⟨rfl, hb11⟩; have hB11 := below_next hB10 hb11))
      go_ret
      exact ⟨rfl, hB11⟩
namespace siftMade
open Go.ChangeShapes Go.WideShapes Go.ChangeAt Go.RowKit
open Go.ChangeMaps (open_string shut_string)
set_option linter.unusedVariables false

theorem own : ownKnob Try.prog.godebug = none := by kernel_rfl
theorem laidOut : laidOutB Try.prog = true := by kernel_rfl

set_option maxRecDepth 100000 in
theorem lifted (os : Os) (started : os.Started) (H : Type) (enc : TypeId × Value → H) :
    ReturnsInHanded {} Try.checked os 13 .any (Rows.siftMadeSpec.pre6 enc Try.prog Try.f13 Rows.siftMadeRow.domain false) (Rows.siftMadeSpec.post enc Try.prog Try.f13 false true false false) := by
  refine returnsInHanded_of_change_sized (C := Try.checked) own started (by kernel_rfl) Try.func13
    (ChangeSpec.witness6 (enc := enc) (C := Try.checked) false ⟨#[], #[.agg #[.bool false, .int .i64 0, .int .u16 0, .int .u32 0, .int .u32 0, .slice none 0 0, .bool false, .int .u16 0, .slice none 0 0, .slice none 0 0, .int .i64 0], .agg #[.int .i64 0, .bool false, .bool false, .int .u16 0], .slice none 0 0], []⟩ 8 (by kernel_rfl) (by kernel_rfl) (by kernel_rfl) (by kernel_rfl)) ?_
  intro W base args ds gs before hval0 hW hcnd hsz0 _
  have hsz : (DataW.weightsEach Try.prog (Try.f13.params.toList ++ Rows.siftMadeSpec.plain.varTypes Try.prog) (ds ++ gs)).all (· ≤ reachBytes) = true := hsz0
  have hval : ∀ (j : Nat) t v, Try.f13.params[j]? = some t → args[j]? = some v → Value.okWide Try.prog W .any base t v := hval0
  have hW' := hW
  obtain ⟨p, q, hA0, hV, rfl, hfz, hnd⟩ := hW
  have hA : DataW.TrodAll enc Try.prog W 0 (fun _ => true) true Try.f13.params.toList args.toList ds p := hA0
  rw [Try.params13] at hA hval hsz
  obtain ⟨v0, vs0, d0, ds0, p0, q0, hargs, rfl, rfl, h0, r0⟩ := trodAll_cons hA
  obtain ⟨v1, vs1, d1, ds1, p1, q1, rfl, rfl, rfl, h1, r1⟩ := trodAll_cons r0
  obtain ⟨v2, vs2, d2, ds2, p2, q2, rfl, rfl, rfl, h2, r2⟩ := trodAll_cons r1
  obtain ⟨rfl, rfl, rfl⟩ := trodAll_nil r2
  obtain rfl : args = #[v0, v1, v2] := by cases args; simp_all
  obtain ⟨rfl, rfl⟩ := trodVars_none hV
  have k0 := h0
  have lt0 : ∀ x ∈ p0, x.block < W.heap.size := by obtain ⟨m, hm⟩ := k0; exact DataW.trod_lt m _ _ _ hm
  have wg0 : ∀ n ∈ d0.weights Try.prog 39, n ≤ reachBytes := fun x hx => by have := List.all_eq_true.1 hsz _ (DataW.weights_mem_each (j := 0) rfl rfl x hx); simpa using this
  obtain ⟨P0, A0, n0, c0, E0, en0, ec0, L0, ln0, lc0, rfl, ra0, re0, rl0, ok0, be0, bl0⟩ := open_packet (hval 0 39 v0 rfl rfl) h0 wg0
  have bc0 : n0 * 4 ≤ 140737488351232 := packet_cn k0 wg0
  obtain ⟨L1, k1, s1, f1, rfl, rfl, rfl, wL1, wf1⟩ := open_desc (hval 1 109 v1 rfl rfl) h1
  obtain ⟨a2, len2, cap2, rfl⟩ := okWide_slice Try.underlying48 (hval 2 48 v2 rfl rfl)
  have k2 := h2
  have lt2 : ∀ x ∈ p2, x.block < W.heap.size := by obtain ⟨m, hm⟩ := k2; exact DataW.trod_lt m _ _ _ hm
  obtain ⟨xs2, it2⟩ : ∃ xs, Its W a2 len2 cap2 xs := by obtain ⟨fuel, hf⟩ := h2; exact open_items hf
  have hl2 : len2 = 0 ∨ ∃ es sp, d2 = .slice es sp ∧ es.length = len2 := by obtain ⟨fuel, hf⟩ := h2; exact slice_len Try.underlying48 hf
  have hb2 : len2 * 120 ≤ 140737488351232 := reach_slice hsz (j := 2) rfl rfl Try.underlying48 (by kernel_rfl) hl2
  have sb2 : ∀ x ∈ xs2, SlB x := by obtain ⟨fuel, hf⟩ := h2; exact its_reach hf (fun x hx => by have := List.all_eq_true.1 hsz _ (DataW.weights_mem_each (j := 2) rfl rfl x hx); simpa using this) it2
  have nl2 : a2 = none → len2 = 0 ∧ cap2 = 0 := by obtain ⟨fuel, hf⟩ := h2; exact items_nil hf
  clear hA0 hval0 hsz0
  refine (siftMade_walk P0 A0 n0 c0 E0 en0 ec0 L0 ln0 lc0 L1 k1 s1 f1 a2 len2 cap2 xs2 W ra0 re0 rl0 ok0 be0 bl0 bc0 ⟨bounds_i64 wL1, bounds_u16 wf1⟩ it2 hb2 sb2 nl2).mono fun e W' ⟨he, bel⟩ => ?_
  subst he
  exact ⟨_, rfl, _, _, _, [], _, [], hW', trodAll_mk1 (shut_bool Try.underlying4 _), (trodAll_cons_mk (Below.trod laidOut (by kernel_rfl) (of_decide_eq_true (by kernel_rfl)) k0 bel lt0) (trodAll_cons_mk (shut_desc wL1 wf1) (trodAll_cons_mk (Below.trod laidOut (by kernel_rfl) (of_decide_eq_true (by kernel_rfl)) k2 bel lt2) trodAll_mk0))), rfl, bel.frame _, fun h => by cases h⟩

/-- The statement. -/
theorem proved : Rows.SiftMadeSaid :=
  OpenClaim.holds_of_wide 13 Try.f13 rfl rfl rfl rfl rfl rfl rfl ⟨rfl, rfl, rfl, rfl, rfl⟩ rfl rfl rfl rfl rfl (by kernel_rfl) Try.func13 (by kernel_rfl)
    (of_decide_eq_true (by kernel_rfl)) (by unfold Func.isWrapper; rw [if_neg (of_decide_eq_false (by kernel_rfl))]; exact ⟨rfl, rfl⟩)
    (fun os started H enc _ => lifted os started H enc)
#print axioms proved
end siftMade
end Go.Proofs.Ytknlkmencdlpcaa
