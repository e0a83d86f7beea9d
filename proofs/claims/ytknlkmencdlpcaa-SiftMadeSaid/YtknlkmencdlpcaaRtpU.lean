/-
What Put of package sluicegateref4 writes.
What the reference tells of packets in memory.
-/
import Derived.Test.YtknlkmencdlpcaaRtpR
import Derived.Deep.CutBlock
import Derived.Test.YtknlkmencdlpcaaFeed3
import Derived.Test.YtknlkmencdlpcaaPkt
namespace Go.Proofs.Ytknlkmencdlpcaa
set_option linter.unusedVariables false
set_option linter.unusedSimpArgs false
open Go Go.RowKit

theorem lit_one8 (w : World) (x : UInt8) (X : Int) (hX : X = x.toNat) : Rd (w.alloc (.cells #[.int .u8 X] 5)) (some ⟨w.heap.size, 0, none⟩) (bys [x]) := by
  subst hX
  intro j u hu
  refine ⟨_, rfl, ?_⟩
  rw [add_lit, cell_of_row _ _ _ _ _ _ (heap_alloc_new w _)]
  rw [← hu]
  show ((bys [x]).toArray)[j]? = _
  exact List.getElem?_toArray
theorem lit_two8 (w : World) (x y : UInt8) (X Y : Int) (hX : X = x.toNat) (hY : Y = y.toNat) :
    (w.alloc (.cells #[.int .u8 X, .int .u8 Y] 5)).ownsRow w.heap.size 5 1 (.slice (some ⟨w.heap.size, 0, none⟩) 2 2) 2 (bys [x, y]) := by
  subst hX hY
  exact World.ownsRow_lit (base := w.heap.size) (e := 5) (size := 1) w #[.int .u8 x.toNat, .int .u8 y.toNat] 2 (Nat.le_refl _) (by unfold maxLen; omega) rfl
theorem BodyS.app {w0 w wa : World} {cs : Array Value} {B B1 : Option Addr} {m c m1 c1 : Nat} {L l : List UInt8} (h : BodyS w0 w (.cells cs 39) B m c L) (hg : w.grownBy wa (B.map Addr.block)) (ho : wa.ownsRow w0.heap.size 5 1 (.slice B1 m1 c1) m1 (bys L ++ bys l)) :
    BodyS w0 wa (.cells cs 39) B1 m1 c1 (L ++ l) := by
  refine ⟨(hg.block _ (blk_in h.it) (fun e => ?_)).trans h.it, by rw [bys_append] at ho; exact ho, h.b.grown hg h.b.size (fun q hq => own_from h.own q hq)⟩
  rcases own_off h.own h.it (by decide) with e1 | e1
  · rw [ownBlock_slice] at e1; rw [e1] at e; cases e
  · rw [ownBlock_slice] at e1; exact e1 e.symm
section
variable (p : Pkt) (C : Option Addr) (cn cc : Nat) (E : Option Addr) (en ec : Nat) (L : Option Addr) (ln lc : Nat) (w : World) (h g : Bool) (P T : Nat) (hh : p.hx = h) (hg : p.mr = g) (hP : p.pad = (P : Int)) (hT : p.ty = (T : Int))
include hh hg hP hT
theorem rmayP_w (b : Bool) (hb : mayP p = b) (hc : p.cs.length = cn) (he : p.ex.length = en) (hen : en ≤ 140737488351232) :
    Calls Try.prog 85 #[.agg #[.bool g, .int .i64 (T : Int), .int .u16 p.sq, .int .u32 p.tm, .int .u32 p.ss, .slice C cn cc, .bool h, .int .u16 p.pf, .slice E en ec, .slice L ln lc, .int .i64 (P : Int)]] w fun e w' => e = .returned (.bool b) ∧ Below w.heap.size w w' := by
  subst hh hg hb
  rw [← hP, ← hT]
  exact rmayP_any p C cn cc E en ec L ln lc w hc he hen
theorem rsizeP_w (S : Nat) (hS : sizeP p = S) (hc : p.cs.length = cn) (he : p.ex.length = en) (hl : p.pl.length = ln) (b2 : en ≤ 140737488351232) (b3 : ln ≤ 140737488351232) :
    Calls Try.prog 86 #[.agg #[.bool g, .int .i64 (T : Int), .int .u16 p.sq, .int .u32 p.tm, .int .u32 p.ss, .slice C cn cc, .bool h, .int .u16 p.pf, .slice E en ec, .slice L ln lc, .int .i64 (P : Int)]] w fun e w' => e = .returned (.int .i64 (S : Int)) ∧ Below w.heap.size w w' := by
  subst hh hg hS
  rw [← hP, ← hT]
  exact rsizeP_any p C cn cc E en ec L ln lc w hc he hl b2 b3
set_option maxRecDepth 20000 in
set_option maxHeartbeats 8000000 in
theorem rpput_yes (rc : Row w C cn cc 1 4 (u32s p.cs)) (re : Row w E en ec 1 1 (bys p.ex)) (rl : Row w L ln lc 1 1 (bys p.pl)) (ok : p.Ok) (b2 : en ≤ 140737488351232) (b3 : ln ≤ 140737488351232) (h0 : errP p = 0) :
    Calls Try.prog 26 #[.agg #[.bool g, .int .i64 (T : Int), .int .u16 p.sq, .int .u32 p.tm, .int .u32 p.ss, .slice C cn cc, .bool h, .int .u16 p.pf, .slice E en ec, .slice L ln lc, .int .i64 (P : Int)]] w fun e w' =>
      ∃ B c', e = .returned (.tuple #[.slice B (sizeP p) c', .int .i64 0]) ∧ w'.ownsRow w.heap.size 5 1 (.slice B (sizeP p) c') (sizeP p) (bys (pktL p)) ∧ Below w.heap.size w w' := by
  have hc : p.cs.length = cn := by have := rc.len; rw [u32s_length] at this; omega
  have he : p.ex.length = en := by have := re.len; rw [bys_length] at this; omega
  have hl : p.pl.length = ln := by have := rl.len; rw [bys_length] at this; omega
  obtain ⟨hm, hs5⟩ := err_may h0
  obtain ⟨m1, m2, m3, m4, m5, m6⟩ := mayP_parts hm
  rw [hc] at m3
  rw [he] at m5
  have hT2 : T < 128 := by omega
  have hP2 : P ≤ 255 := by omega
  have HF : Hid (firstN p = 128 + cn + (if 0 < P then 32 else 0) + (if h then 16 else 0)) := by
    show _ = _; unfold firstN; rw [hc, hh, hP]; congr 2; congr 1; simp
  have HSe : Hid (secN p = if g then 128 + T else T) := by
    show _ = _; unfold secN; rw [hg, hT]; cases g <;> simp <;> omega
  have HHd : Hid (headP p = 12 + 4 * cn + (if h then 4 + en else 0)) := by show _ = _; unfold headP; rw [hc, he, hh]
  have HSz : Hid (sizeP p = headP p + ln + P) := by show _ = _; unfold sizeP; rw [if_pos hm, hl, hP]; rfl
  have hfn : firstN p < 256 := by rw [HF.out]; split <;> split <;> omega
  have hsn : secN p < 256 := secN_lt p
  have hhd : headP p + ln + P ≤ 512 := by rw [← HSz.out]; exact hs5
  have hpk : Hid (pktL p = ([UInt8.ofNat (firstN p), UInt8.ofNat (secN p)] ++ enc 2 p.sq ++ enc 4 p.tm ++ enc 4 p.ss ++ p.cs.flatMap (enc 4) ++ extL p ++ p.pl) ++ padL p.pad) := by
    show _ = _
    rw [pktL_hd]
    have e : hd0 p (decide (0 < p.pad)) = firstN p := by unfold hd0 firstN; simp only [decide_eq_true_eq]
    unfold hdP
    rw [e]
    simp only [List.append_assoc]
  have HXL : Hid (extL p = if h then enc 2 p.pf ++ enc 2 (en / 4) ++ p.ex else []) := by show _ = _; unfold extL; rw [hh, he]; simp only [List.append_assoc]
  have HC := Lib.hid (And.intro hc (And.intro he hl))
  have HM := Lib.hid hm
  have HV := Lib.hid (And.intro hh (And.intro hg (And.intro hP hT)))
  have HRC := Lib.hid rc
  have HRE := Lib.hid re
  have HRL := Lib.hid rl
  have HO := Lib.hid ok
  have hsq := ok.sq
  have htm := ok.tm
  have hss := ok.ss
  have hpf := ok.pf
  have h12 : 12 + 4 * cn ≤ headP p := by rw [HHd.out]; omega
  have HS5 := Lib.hid (show decide ((512 : Int) < ((sizeP p : Nat) : Int)) = false by simp; omega)
  obtain ⟨sz, hsz⟩ : ∃ sz, sizeP p = sz := ⟨_, rfl⟩
  have HZ := Lib.hid hsz
  have q5 : decide ((512 : Int) < (sz : Int)) = false := by rw [← hsz]; exact HS5.out
  have q5' : decide (512 < sz) = false := by have := q5; simp at this ⊢; omega
  rw [hsz]
  clear hc he hl hm rc re rl ok h0 m1 m2 m4 m6 hP hT hh hg hs5 HS5 hsz
  obtain ⟨f1, hf1⟩ : ∃ f1, 128 + cn + (if 0 < P then 32 else 0) = f1 := ⟨_, rfl⟩
  obtain ⟨f2, hf2⟩ : ∃ f2, firstN p = f2 := ⟨_, rfl⟩
  obtain ⟨s2, hs2⟩ : ∃ s2, secN p = s2 := ⟨_, rfl⟩
  obtain ⟨hd, hhdE⟩ : ∃ hd, headP p = hd := ⟨_, rfl⟩
  have HFF : Hid (f2 = f1 + (if h then 16 else 0)) := by show _ = _; rw [← hf2, HF.out, hf1]
  have HF1 := Lib.hid hf1.symm
  have HSS : Hid (s2 = if g then 128 + T else T) := by show _ = _; rw [← hs2, HSe.out]
  rw [hf2, hs2] at hpk
  rw [hf2] at hfn
  rw [hs2] at hsn
  rw [hhdE] at hhd HHd HSz h12
  have hf1l : f1 < 256 := by have := HFF.out; split at this <;> omega
  clear hf1 hf2 hs2 hhdE HF HSe
  go_enter Try.func26, Try.ntmps26
  go_upto_if 22 with (first
    | (go_at_call 85; (with_reducible refine (rmayP_w p C cn cc E en ec L ln lc _ h g P T HV.out.1 HV.out.2.1 HV.out.2.2.1 HV.out.2.2.2 true HM.out HC.out.1 HC.out.2.1 b2).mono ?_); rintro e w1 ⟨rfl, hb1⟩; have hb2 := ((Below.refl w.heap.size w).alloc (Nat.le_refl _) _).trans (hb1.mono (by simp)); have hit := blk_below (blk_alloc _ _) hb1; obtain ⟨x0, x1, x2, x3, x4, x5, x6, x7, x8, x9, x10⟩ := eleven_cells hit)
    | (go_at_call 86; (with_reducible refine (rsizeP_w p C cn cc E en ec L ln lc _ h g P T HV.out.1 HV.out.2.1 HV.out.2.2.1 HV.out.2.2.2 sz HZ.out HC.out.1 HC.out.2.1 HC.out.2.2 b2 b3).mono ?_); rintro e w2 ⟨rfl, hb3⟩; have hb4 := hb2.trans (hb3.mono hb2.size); have hit2 := blk_below hit hb3; obtain ⟨y0, y1, y2, y3, y4, y5, y6, y7, y8, y9, y10⟩ := eleven_cells hit2))
  have HB := Lib.hid (And.intro hb4 hit2)
  clear hb1 hb2 hb3 hb4 hit hit2 x0 x1 x2 x3 x4 x5 x6 x7 x8 x9 x10
  go_cut [4] from 23 to 24 (fun s4 wx => s4 = .int .i64 (f1 : Int) ∧ wx = w2)
  case first =>
    by_cases hp : 0 < P
    · have hfa : (128 : Int) + (cn : Int) + 32 = (f1 : Int) := by have := HF1.out; rw [if_pos hp] at this; omega
      go_wp2_with fail
      go_meet
      exact ⟨rfl, rfl⟩
    · have hfa : (128 : Int) + (cn : Int) = (f1 : Int) := by have := HF1.out; rw [if_neg hp] at this; omega
      go_wp2_with fail
      go_meet
      exact ⟨by rw [hfa], rfl⟩
  case rest =>
  obtain ⟨rfl, hw⟩ := hcut
  replace hw := hw.symm
  subst hw
  go_upto_if 26 with fail
  go_cut [4] from 27 to 28 (fun s4 wx => s4 = .int .i64 (f2 : Int) ∧ wx = w2)
  case first =>
    cases h
    · have hfa : f1 = f2 := by have := HFF.out; simp at this; omega
      go_wp2_with fail
      go_meet
      exact ⟨by rw [hfa], rfl⟩
    · have hfa : (f1 : Int) + 16 = (f2 : Int) := by have := HFF.out; simp at this; omega
      go_wp2_with fail
      go_meet
      exact ⟨rfl, rfl⟩
  case rest =>
  obtain ⟨rfl, hw⟩ := hcut
  replace hw := hw.symm
  subst hw
  go_upto_if 32 with fail
  go_cut [5] from 33 to 34 (fun s5 wx => s5 = .int .i64 (s2 : Int) ∧ wx = w2)
  case first =>
    cases g
    · have hfa : T = s2 := by have := HSS.out; simp at this; omega
      go_wp2_with fail
      go_meet
      exact ⟨by rw [hfa], rfl⟩
    · have hfa : (T : Int) + 128 = (s2 : Int) := by have := HSS.out; simp at this; omega
      go_wp2_with fail
      go_meet
      exact ⟨rfl, rfl⟩
  case rest =>
  obtain ⟨rfl, hw⟩ := hcut
  replace hw := hw.symm
  subst hw
  have HS0 : Hid (BodyS w (w2.alloc (.cells #[.int .u8 (f2 : Int), .int .u8 (s2 : Int)] 5)) (.cells #[.bool g, .int .i64 (T : Int), .int .u16 p.sq, .int .u32 p.tm, .int .u32 p.ss, .slice C cn cc, .bool h, .int .u16 p.pf, .slice E en ec, .slice L ln lc, .int .i64 (P : Int)] 39) (some ⟨w2.heap.size, 0, none⟩) 2 2 [UInt8.ofNat f2, UInt8.ofNat s2]) :=
    ⟨blk_below HB.out.2 ((Below.refl _ _).alloc (Nat.le_refl _) _), own_base (lit_two8 w2 (UInt8.ofNat f2) (UInt8.ofNat s2) (f2 : Int) (s2 : Int) (by rw [UInt8.toNat_ofNat']; omega) (by rw [UInt8.toNat_ofNat']; omega)) HB.out.1.size, HB.out.1.alloc HB.out.1.size _⟩
  obtain ⟨x0, x1, x2, x3, x4, x5, x6, x7, x8, x9, x10⟩ := eleven_cells HS0.out.it
  go_wp2_with (first
    | (go_at_call 87; (with_reducible refine (rapp_S w _ _ _ 2 _ _ HS0.out (by omega) 2 2 rfl _ p.sq rfl (by omega) (by omega) 4 rfl).mono ?_); rintro e w3 ⟨B3, c3, rfl, h', hb3⟩; have HS3 := Lib.hid h'; clear h'; obtain ⟨z0, z1, z2, z3, z4, z5, z6, z7, z8, z9, z10⟩ := eleven_cells HS3.out.it)
    | (go_at_call 87; (with_reducible refine (rapp_S w w3 _ _ 4 _ _ HS3.out (by omega) 4 4 rfl _ p.tm rfl (by omega) (by omega) 8 rfl).mono ?_); rintro e w4 ⟨B4, c4, rfl, h', hb4⟩; have HS4 := Lib.hid h'; clear h'; obtain ⟨x0, x1, x2, x3, x4, x5, x6, x7, x8, x9, x10⟩ := eleven_cells HS4.out.it)
    | (go_at_call 87; (with_reducible refine (rapp_S w w4 _ _ 8 _ _ HS4.out (by omega) 4 4 rfl _ p.ss rfl (by omega) (by omega) 12 rfl).mono ?_); rintro e w5 ⟨B5, c5, rfl, h', hb5⟩; have HS5 := Lib.hid h'; clear h'; obtain ⟨z0, z1, z2, z3, z4, z5, z6, z7, z8, z9, z10⟩ := eleven_cells HS5.out.it))
  have HS6 : Hid (BodyS w w5 (.cells #[.bool g, .int .i64 (T : Int), .int .u16 p.sq, .int .u32 p.tm, .int .u32 p.ss, .slice C cn cc, .bool h, .int .u16 p.pf, .slice E en ec, .slice L ln lc, .int .i64 (P : Int)] 39) B5 12 c5 (([UInt8.ofNat f2, UInt8.ofNat s2] ++ enc 2 p.sq ++ enc 4 p.tm ++ enc 4 p.ss) ++ fm4 (p.cs.take 0))) := by show BodyS _ _ _ _ _ _ _; simpa [fm4] using HS5.out
  clear x0 x1 x2 x3 x4 x5 x6 x7 x8 x9 x10 y0 y1 y2 y3 y4 y5 y6 y7 y8 y9 y10 z0 z1 z2 z3 z4 z5 z6 z7 z8 z9 z10 HS0 HS3 HS4 HS5 hb3 hb4 hb5
  go_loopw [6, 8, 58] (fun s6 s8 ix wr => ∃ (k m : Nat) (B : Option Addr) (c' : Nat), ix = .int .i64 k ∧ s6 = .slice B m c' ∧ k ≤ cn ∧ m = 12 + 4 * k ∧ Hid (BodyS w wr (.cells #[.bool g, .int .i64 (T : Int), .int .u16 p.sq, .int .u32 p.tm, .int .u32 p.ss, .slice C cn cc, .bool h, .int .u16 p.pf, .slice E en ec, .slice L ln lc, .int .i64 (P : Int)] 39) B m c' (([UInt8.ofNat f2, UInt8.ofNat s2] ++ enc 2 p.sq ++ enc 4 p.tm ++ enc 4 p.ss) ++ fm4 (p.cs.take k)))) (fun _ _ ix _ => cn - (intOf ix).toNat)
  case atStart => exact ⟨0, 12, B5, c5, rfl, rfl, Nat.zero_le _, rfl, HS6⟩
  case round =>
    obtain ⟨k, m, B, c', rfl, rfl, hkn, hmk, HSk⟩ := hrel
    clear HS6
    have hmle : m ≤ 600 := by omega
    have HMK := Lib.hid hmk
    obtain ⟨x0, x1, x2, x3, x4, x5, x6, x7, x8, x9, x10⟩ := eleven_cells HSk.out.it
    by_cases hlt : k < cn
    · have hk : k < p.cs.length := by rw [HC.out.1]; exact hlt
      obtain ⟨ad, rfl, a0⟩ := u32_at (HRC.out.rd.below HSk.out.b) hk
      have hz := HO.out.cs _ (List.getElem_mem hk)
      have HTK := Lib.hid (fm4_take p.cs hk)
      generalize p.cs[k] = z at *
      clear hmk
      go_wp2_with ((go_at_call 87; (with_reducible refine (rapp_S w _ _ _ m _ _ HSk.out (by omega) 4 4 rfl _ z rfl (by omega) (by omega) (m + 4) rfl).mono ?_); rintro e w7 ⟨B7, c7, rfl, h', hb7⟩; have HS7 := Lib.hid h'; clear h'; obtain ⟨z0, z1, z2, z3, z4, z5, z6, z7, z8, z9, z10⟩ := eleven_cells HS7.out.it))
      exact ⟨⟨k + 1, m + 4, B7, c7, rfl, rfl, by omega, by rw [HMK.out]; omega, by rw [HTK.out, ← List.append_assoc]; exact HS7⟩, by simp [intOf]; omega⟩
    · have e1 : p.cs.take k = p.cs := List.take_of_length_le (by rw [HC.out.1]; omega)
      rw [e1] at HSk
      have hm12 : m = 12 + 4 * cn := by omega
      have HM12 := Lib.hid hm12
      clear e1 HMK hmk hm12
      go_upto_if 68 with fail
      go_cut [6] from 69 to 84 (fun s6 wx => ∃ B c', s6 = .slice B hd c' ∧ Hid (BodyS w wx (.cells #[.bool g, .int .i64 (T : Int), .int .u16 p.sq, .int .u32 p.tm, .int .u32 p.ss, .slice C cn cc, .bool h, .int .u16 p.pf, .slice E en ec, .slice L ln lc, .int .i64 (P : Int)] 39) B hd c' (([UInt8.ofNat f2, UInt8.ofNat s2] ++ enc 2 p.sq ++ enc 4 p.tm ++ enc 4 p.ss) ++ fm4 p.cs ++ extL p)))
      case first =>
        cases h
        · have hmh : m = hd := by have h1 := HHd.out; have h2 := HM12.out; simp at h1; omega
          have e2 : extL p = [] := by rw [HXL.out]; rfl
          have HE := Lib.hid (And.intro hmh e2)
          clear hmh e2
          go_wp2_with fail
          go_meet
          exact ⟨B, c', by rw [← HE.out.1], by rw [HE.out.2, List.append_nil, ← HE.out.1]; exact HSk⟩
        · have hmh : m + 4 + en = hd := by have h1 := HHd.out; have h2 := HM12.out; simp at h1; omega
          have e2 : extL p = enc 2 p.pf ++ enc 2 (en / 4) ++ p.ex := by rw [HXL.out]; rfl
          have HE := Lib.hid (And.intro hmh e2)
          obtain ⟨q, hq⟩ : ∃ q, en = 4 * q := ⟨en / 4, by omega⟩
          have hq1 : (en : Int) / 4 = (q : Int) := by omega
          have hq2 : (en : Int).tdiv 4 = (q : Int) := by rw [Int.tdiv_eq_ediv_of_nonneg (by omega)]; omega
          have hq3 : en / 4 = q := by omega
          have hqs : q < 65536 := by omega
          have HQ := Lib.hid hq3
          have hen5 : en ≤ 512 := by omega
          clear hmh e2 hq hq3
          go_wp2_with (first
            | (go_at_call 87; (with_reducible refine (rapp_S w _ _ _ m _ _ HSk.out (by omega) 2 2 rfl _ p.pf rfl (by omega) (by omega) (m + 2) rfl).mono ?_); rintro e w8 ⟨B8, c8, rfl, h', hb8⟩; have HS8 := Lib.hid h'; clear h'; obtain ⟨z0, z1, z2, z3, z4, z5, z6, z7, z8, z9, z10⟩ := eleven_cells HS8.out.it)
            | (go_at_call 87; (with_reducible refine (rapp_S w w8 _ _ (m + 2) _ _ HS8.out (by omega) 2 2 rfl _ q rfl (by omega) (by omega) (m + 4) rfl).mono ?_); rintro e w9 ⟨B9, c9, rfl, h', hb9⟩; have HS9 := Lib.hid h'; clear h'; obtain ⟨x0, x1, x2, x3, x4, x5, x6, x7, x8, x9, x10⟩ := eleven_cells HS9.out.it)
            | (at_builtin; refine wpList_app slU8 rfl _ _ rfl w.heap.size B9 (m + 4) c9 _ rfl HS9.out.own E en ec (bys p.ex) rfl (by rw [bys_length, HC.out.2.1, Nat.mul_one]) (HRE.out.rd.below HS9.out.b) (bys_one _) (by omega) HS9.out.b.size ?_; intro A1 d1 wa ho hg1 hA1; have HSa := Lib.hid (HS9.out.app hg1 ho)))
          go_meet
          exact ⟨A1, d1, by rw [← HE.out.1], by rw [HE.out.2, HQ.out, ← HE.out.1]; simpa only [List.append_assoc] using HSa⟩
      case rest =>
      obtain ⟨B0, c0, rfl, HSe⟩ := hcut
      clear HM12 HSk HXL x0 x1 x2 x3 x4 x5 x6 x7 x8 x9 x10
      obtain ⟨x0, x1, x2, x3, x4, x5, x6, x7, x8, x9, x10⟩ := eleven_cells HSe.out.it
      have hln5 : ln ≤ 512 := by omega
      have hhd5 : hd ≤ 512 := by omega
      go_wp2_with (at_builtin; refine wpList_app slU8 rfl _ _ rfl w.heap.size B0 hd c0 _ rfl HSe.out.own L ln lc (bys p.pl) rfl (by rw [bys_length, HC.out.2.2, Nat.mul_one]) (HRL.out.rd.below HSe.out.b) (bys_one _) (by omega) HSe.out.b.size ?_; intro A1 d1 wa ho hg1 hA1; have HSa := Lib.hid (HSe.out.app hg1 ho); clear ho hg1 hA1)
      clear x0 x1 x2 x3 x4 x5 x6 x7 x8 x9 x10 HSe
      generalize hL3 : ([UInt8.ofNat f2, UInt8.ofNat s2] ++ enc 2 p.sq ++ enc 4 p.tm ++ enc 4 p.ss) ++ fm4 p.cs ++ extL p ++ p.pl = L3 at *
      have HL3 := Lib.hid hL3
      clear hL3
      go_loopw [6, 9] (fun s6 s9 wr => ∃ (k m : Nat) (B : Option Addr) (c' : Nat), s9 = .int .i64 k ∧ s6 = .slice B m c' ∧ 1 ≤ k ∧ (k ≤ P ∨ k = 1) ∧ m + 1 = hd + ln + k ∧ Hid (BodyS w wr (.cells #[.bool g, .int .i64 (T : Int), .int .u16 p.sq, .int .u32 p.tm, .int .u32 p.ss, .slice C cn cc, .bool h, .int .u16 p.pf, .slice E en ec, .slice L ln lc, .int .i64 (P : Int)] 39) B m c' (L3 ++ List.replicate (k - 1) 0))) (fun _ s9 _ => P - (intOf s9).toNat)
      case atStart => exact ⟨1, hd + ln, A1, d1, rfl, rfl, Nat.le_refl _, .inr rfl, rfl, by simpa using HSa⟩
      case round =>
        obtain ⟨k, m, B, c', rfl, rfl, hk1, hkP, hmk, HSk⟩ := hrel
        clear HSa
        obtain ⟨x0, x1, x2, x3, x4, x5, x6, x7, x8, x9, x10⟩ := eleven_cells HSk.out.it
        by_cases hlt : k < P
        · have hltI : (k : Int) < (P : Int) := by omega
          obtain ⟨j, hj⟩ : ∃ j, k = j + 1 := ⟨k - 1, by omega⟩
          have hrep : List.replicate (k - 1) (0 : UInt8) ++ [0] = List.replicate (k + 1 - 1) 0 := by rw [hj]; simp [List.replicate_succ']
          have HRp := Lib.hid hrep
          have HMK := Lib.hid hmk
          have hm9 : m ≤ 900 := by omega
          clear hj hrep hmk hkP
          go_wp2_with (at_builtin; refine wpList_app slU8 rfl _ _ rfl w.heap.size B m c' _ rfl (HSk.out.alloc _).own (some ⟨_, 0, none⟩) 1 1 (bys [0]) rfl rfl (lit_one8 _ 0 0 rfl) (bys_one _) (by omega) (HSk.out.alloc _).b.size ?_; intro A2 d2 wb ho hg1 hA2; have HSb := Lib.hid ((HSk.out.alloc _).app hg1 ho); clear ho hg1 hA2)
          exact ⟨⟨k + 1, m + 1, A2, d2, rfl, rfl, by omega, .inl (by omega), by have := HMK.out; omega, by rw [← HRp.out, ← List.append_assoc]; exact HSb⟩, by simp [intOf]; omega⟩
        · by_cases hp : 0 < P
          · have hkk : k = P := by omega
            have hmz : m + 1 = sz := by have h1 := HSz.out; have h2 := HZ.out; omega
            have hpadL : padL p.pad = List.replicate (k - 1) 0 ++ [UInt8.ofNat P] := by unfold padL; rw [HV.out.2.2.1, if_pos (by omega), hkk]; rfl
            have HPd := Lib.hid hpadL
            have HE := Lib.hid hmz
            have hltI : ¬ (k : Int) < (P : Int) := by omega
            have hpI : (0 : Int) < (P : Int) := by omega
            have hm9 : m ≤ 900 := by omega
            have hP256 : P < 256 := by omega
            clear hpadL hmz hkk hmk hkP
            go_wp2_with (at_builtin; refine wpList_app slU8 rfl _ _ rfl w.heap.size B m c' _ rfl (HSk.out.alloc _).own (some ⟨_, 0, none⟩) 1 1 (bys [UInt8.ofNat P]) rfl rfl (lit_one8 _ (UInt8.ofNat P) (P : Int) (by rw [UInt8.toNat_ofNat']; omega)) (bys_one _) (by omega) (HSk.out.alloc _).b.size ?_; intro A2 d2 wb ho hg1 hA2; have HSb := Lib.hid ((HSk.out.alloc _).app hg1 ho); clear ho hg1 hA2)
            go_ret2
            refine ⟨A2, d2, by rw [HE.out]; rfl, ?_, HSb.out.b⟩
            rw [hpk.out, HPd.out, ← HE.out, ← List.append_assoc]
            rw [← HL3.out] at HSb
            exact HSb.out.own
          · have hP0 : P = 0 := by omega
            have hk0 : k = 1 := by omega
            subst hP0 hk0
            have hmz : m = sz := by have h1 := HSz.out; have h2 := HZ.out; omega
            have hpadL : padL p.pad = [] := by unfold padL; rw [HV.out.2.2.1]; rfl
            have HPd := Lib.hid hpadL
            have HE := Lib.hid hmz
            clear hpadL hmz hmk
            go_wp2
            go_ret2
            refine ⟨B, c', by rw [HE.out]; rfl, ?_, HSk.out.b⟩
            rw [hpk.out, HPd.out, ← HE.out, List.append_nil]
            rw [← HL3.out] at HSk
            have := HSk.out.own
            rw [show (1 - 1 : Nat) = 0 from rfl, List.replicate_zero, List.append_nil] at this
            exact this
end
end Go.Proofs.Ytknlkmencdlpcaa

namespace Go.Proofs.Ytknlkmencdlpcaa
set_option linter.unusedVariables false
set_option linter.unusedSimpArgs false
open Go Go.RowKit

section
variable (p : Pkt) (C : Option Addr) (cn cc : Nat) (E : Option Addr) (en ec : Nat) (L : Option Addr) (ln lc : Nat) (w : World)
theorem rmayP_row (b : Bool) (hb : mayP p = b) (h : PRow w p C cn cc E en ec L ln lc) (hen : en ≤ 140737488351232) :
    Calls Try.prog 85 #[.agg #[.bool p.mr, .int .i64 p.ty, .int .u16 p.sq, .int .u32 p.tm, .int .u32 p.ss, .slice C cn cc, .bool p.hx, .int .u16 p.pf, .slice E en ec, .slice L ln lc, .int .i64 p.pad]] w fun e w' => e = .returned (.bool b) ∧ Below w.heap.size w w' := by
  subst hb; exact rmayP_any p C cn cc E en ec L ln lc w h.hcn h.hen hen
theorem rsizeP_row (S : Nat) (hS : sizeP p = S) (h : PRow w p C cn cc E en ec L ln lc) (b2 : en ≤ 140737488351232) (b3 : ln ≤ 140737488351232) :
    Calls Try.prog 86 #[.agg #[.bool p.mr, .int .i64 p.ty, .int .u16 p.sq, .int .u32 p.tm, .int .u32 p.ss, .slice C cn cc, .bool p.hx, .int .u16 p.pf, .slice E en ec, .slice L ln lc, .int .i64 p.pad]] w fun e w' => e = .returned (.int .i64 (S : Int)) ∧ Below w.heap.size w w' := by
  subst hS; exact rsizeP_any p C cn cc E en ec L ln lc w h.hcn h.hen h.hln b2 b3
set_option maxRecDepth 20000 in
set_option maxHeartbeats 1000000 in
theorem rpput_no (hz : errP p ≠ 0) (h : PRow w p C cn cc E en ec L ln lc) (b2 : en ≤ 140737488351232) (b3 : ln ≤ 140737488351232) :
    Calls Try.prog 26 #[.agg #[.bool p.mr, .int .i64 p.ty, .int .u16 p.sq, .int .u32 p.tm, .int .u32 p.ss, .slice C cn cc, .bool p.hx, .int .u16 p.pf, .slice E en ec, .slice L ln lc, .int .i64 p.pad]] w fun e w' =>
      e = .returned (.tuple #[.slice none 0 0, .int .i64 (errP p : Nat)]) ∧ Below w.heap.size w w' := by
  have HP := Lib.hid h
  clear h
  rcases err_cases p with ⟨h0, _⟩ | ⟨h1, hm⟩ | ⟨h5, hm, hs⟩
  · exact absurd h0 hz
  · have HM := Lib.hid hm
    have HE := Lib.hid h1
    clear hz h1 hm
    go_enter Try.func26, Try.ntmps26
    go_wp2_with (go_at_call 85; (with_reducible refine (rmayP_row p C cn cc E en ec L ln lc _ false HM.out (HP.out.below ((Below.refl _ _).alloc (Nat.le_refl _) _)) b2).mono ?_); rintro e w1 ⟨rfl, hb1⟩)
    go_ret2
    exact ⟨by rw [HE.out]; rfl, ((Below.refl w.heap.size w).alloc (Nat.le_refl _) _).trans (hb1.mono (by simp))⟩
  · have HM := Lib.hid hm
    have HE := Lib.hid h5
    have hs2 : decide ((512 : Int) < ((sizeP p : Nat) : Int)) = true := by simp; omega
    clear hz h5 hm hs
    go_enter Try.func26, Try.ntmps26
    go_wp2_with (first
      | (go_at_call 85; (with_reducible refine (rmayP_row p C cn cc E en ec L ln lc _ true HM.out (HP.out.below ((Below.refl _ _).alloc (Nat.le_refl _) _)) b2).mono ?_); rintro e w1 ⟨rfl, hb1⟩; have hb2 := ((Below.refl w.heap.size w).alloc (Nat.le_refl _) _).trans (hb1.mono (by simp)); have hit := blk_below (blk_alloc _ _) hb1; obtain ⟨x0, x1, x2, x3, x4, x5, x6, x7, x8, x9, x10⟩ := eleven_cells hit)
      | (go_at_call 86; (with_reducible refine (rsizeP_row p C cn cc E en ec L ln lc _ _ rfl (HP.out.below hb2) b2 b3).mono ?_); rintro e w2 ⟨rfl, hb3⟩))
    go_ret2
    exact ⟨by rw [HE.out]; rfl, hb2.trans (hb3.mono hb2.size)⟩
/-- Put of package sluicegateref4: the packet's bytes, or what is wrong. -/
theorem rpput_row (ok : p.Ok) (Z : Int) (hZ : Z = (errP p : Nat)) (l : List UInt8) (hl : outP p = l) (k : Nat) (hk : l.length = k) (h : PRow w p C cn cc E en ec L ln lc) (b2 : en ≤ 140737488351232) (b3 : ln ≤ 140737488351232) :
    Calls Try.prog 26 #[.agg #[.bool p.mr, .int .i64 p.ty, .int .u16 p.sq, .int .u32 p.tm, .int .u32 p.ss, .slice C cn cc, .bool p.hx, .int .u16 p.pf, .slice E en ec, .slice L ln lc, .int .i64 p.pad]] w fun e w' =>
      ∃ B c', e = .returned (.tuple #[.slice B k c', .int .i64 Z]) ∧ w'.ownsRow w.heap.size 5 1 (.slice B k c') k (bys l) ∧ Below w.heap.size w w' := by
  subst hZ hl hk
  by_cases hz : errP p = 0
  · obtain ⟨hm, _⟩ := err_may hz
    obtain ⟨m1, _, _, m4, _⟩ := mayP_parts hm
    obtain ⟨P, hP⟩ : ∃ P : Nat, p.pad = P := ⟨p.pad.toNat, by omega⟩
    obtain ⟨T, hT⟩ : ∃ T : Nat, p.ty = T := ⟨p.ty.toNat, by omega⟩
    have key := rpput_yes p C cn cc E en ec L ln lc w p.hx p.mr P T rfl rfl hP hT h.rc h.re h.rl ok b2 b3 hz
    rw [← hP, ← hT] at key
    refine key.mono ?_
    rintro e w' ⟨B, c', rfl, ho, hb⟩
    rw [outP_yes hz, sizeP_len hm, hz]
    exact ⟨B, c', rfl, ho, hb⟩
  · refine (rpput_no p C cn cc E en ec L ln lc w hz h b2 b3).mono ?_
    rintro e w' ⟨rfl, hb⟩
    rw [outP_nil hz]
    exact ⟨none, 0, rfl, World.ownsRow_nil _ _ _ _, hb⟩
end

theorem below_next {w w1 w2 : World} (h : Below w.heap.size w w1) (h2 : Below w1.heap.size w1 w2) : Below w.heap.size w w2 := h.trans (h2.mono h.size)
end Go.Proofs.Ytknlkmencdlpcaa
