/-
What Put of package rtp writes: a packet that may be and is not too long.
What Put of package rtp writes: any packet.
-/
import Derived.Test.YtknlkmencdlpcaaRtp4
namespace Go.Proofs.Ytknlkmencdlpcaa
set_option linter.unusedVariables false
set_option linter.unusedSimpArgs false
open Go Go.RowKit

theorem psize_h (p : Pkt) (h : Bool) (hp : p.hx = h) (C : Option Addr) (cn cc : Nat) (E : Option Addr) (en ec : Nat) (L : Option Addr) (ln lc : Nat) (w : World) (hc : p.cs.length = cn) (he : p.ex.length = en) (hl : p.pl.length = ln) (b2 : en ≤ 140737488351232) (b3 : ln ≤ 140737488351232) : Calls Try.prog 116 #[.agg #[.bool p.mr, .int .i64 p.ty, .int .u16 p.sq, .int .u32 p.tm, .int .u32 p.ss, .slice C cn cc, .bool h, .int .u16 p.pf, .slice E en ec, .slice L ln lc, .int .i64 p.pad]] w fun e w' => e = .returned (.int .i64 (sizeP p : Nat)) ∧ Below w.heap.size w w' := by
  subst hp; exact psize_any p C cn cc E en ec L ln lc w hc he hl b2 b3
theorem second_h (p : Pkt) (h : Bool) (hp : p.hx = h) (C : Option Addr) (cn cc : Nat) (E : Option Addr) (en ec : Nat) (L : Option Addr) (ln lc : Nat) (w : World)  : Calls Try.prog 118 #[.agg #[.bool p.mr, .int .i64 p.ty, .int .u16 p.sq, .int .u32 p.tm, .int .u32 p.ss, .slice C cn cc, .bool h, .int .u16 p.pf, .slice E en ec, .slice L ln lc, .int .i64 p.pad]] w fun e w' => e = .returned (.int .u8 (secN p : Nat)) ∧ Below w.heap.size w w' := by
  subst hp; exact second_any p C cn cc E en ec L ln lc w 
theorem head_h (p : Pkt) (h : Bool) (hp : p.hx = h) (C : Option Addr) (cn cc : Nat) (E : Option Addr) (en ec : Nat) (L : Option Addr) (ln lc : Nat) (w : World) (hc : p.cs.length = cn) (he : p.ex.length = en) (h1 : cn ≤ 281474976710656) (h2 : en ≤ 281474976710656) : Calls Try.prog 119 #[.agg #[.bool p.mr, .int .i64 p.ty, .int .u16 p.sq, .int .u32 p.tm, .int .u32 p.ss, .slice C cn cc, .bool h, .int .u16 p.pf, .slice E en ec, .slice L ln lc, .int .i64 p.pad]] w fun e w' => e = .returned (.int .i64 (headP p : Nat)) ∧ Below w.heap.size w w' := by
  subst hp; exact head_any p C cn cc E en ec L ln lc w hc he h1 h2
theorem first_h (p : Pkt) (h : Bool) (hp : p.hx = h) (C : Option Addr) (cn cc : Nat) (E : Option Addr) (en ec : Nat) (L : Option Addr) (ln lc : Nat) (w : World) (hc : p.cs.length = cn) (h15 : cn ≤ 15) : Calls Try.prog 117 #[.agg #[.bool p.mr, .int .i64 p.ty, .int .u16 p.sq, .int .u32 p.tm, .int .u32 p.ss, .slice C cn cc, .bool h, .int .u16 p.pf, .slice E en ec, .slice L ln lc, .int .i64 p.pad]] w fun e w' => e = .returned (.int .u8 (firstN p : Nat)) ∧ Below w.heap.size w w' := by
  subst hp; exact first_any p C cn cc E en ec L ln lc w hc h15
set_option maxRecDepth 20000 in
set_option maxHeartbeats 4000000 in
theorem pput_t (p : Pkt) (hp : p.hx = true) (C : Option Addr) (cn cc : Nat) (E : Option Addr) (en ec : Nat) (L : Option Addr) (ln lc : Nat) (w : World) (rc : Row w C cn cc 1 4 (u32s p.cs)) (re : Row w E en ec 1 1 (bys p.ex)) (rl : Row w L ln lc 1 1 (bys p.pl)) (ok : p.Ok)
    (b2 : en ≤ 140737488351232) (b3 : ln ≤ 140737488351232) (hz : errP p = 0) :
    Calls Try.prog 73 #[.agg #[.bool p.mr, .int .i64 p.ty, .int .u16 p.sq, .int .u32 p.tm, .int .u32 p.ss, .slice C cn cc, .bool true, .int .u16 p.pf, .slice E en ec, .slice L ln lc, .int .i64 p.pad]] w fun e w' =>
      ∃ B c', e = .returned (.tuple #[.slice B (sizeP p) c', .int .i64 0]) ∧ w'.ownsRow w.heap.size 5 1 (.slice B (sizeP p) c') (sizeP p) (bys (pktL p)) ∧ Below w.heap.size w w' := by
  have hc : p.cs.length = cn := by have := rc.len; rw [u32s_length] at this; omega
  have he : p.ex.length = en := by have := re.len; rw [bys_length] at this; omega
  have hl : p.pl.length = ln := by have := rl.len; rw [bys_length] at this; omega
  have hn1 : 1 ≤ sizeP p ∧ sizeP p ≤ 512 := by
    unfold errP at hz
    by_cases h1 : sizeP p = 0
    · rw [if_pos h1] at hz; cases hz
    · rw [if_neg h1] at hz
      by_cases h2 : sizeP p > 512
      · rw [if_pos h2] at hz; cases hz
      · omega
  have hm : mayP p = true := by
    cases h : mayP p
    · have : sizeP p = 0 := by unfold sizeP; rw [h]; rfl
      omega
    · rfl
  have hmm := hm
  simp only [mayP, Bool.and_eq_true, decide_eq_true_eq] at hmm
  rw [hp] at hmm
  obtain ⟨⟨ty0, ty1⟩, hfb, ⟨c15, pad0, pad1⟩, ex4, hxx⟩ := hmm
  have hsz : sizeP p = headP p + ln + p.pad.toNat := by unfold sizeP; rw [hm, hl]; rfl
  have hhd : headP p = 12 + 4 * cn + (4 + en) := by unfold headP; rw [hc, he, hp]; rfl
  have HL := Lib.hid (And.intro hc (And.intro he hl))
  have HS := Lib.hid hsz
  have HH := Lib.hid hhd
  have HRC := Lib.hid rc
  have HRE := Lib.hid re
  have HRL := Lib.hid rl
  have HO := Lib.hid ok
  have c15' : cn ≤ 15 := by omega
  have HX4 := Lib.hid (And.intro ex4 hxx)
  have n12' : 12 ≤ sizeP p := by rw [hsz, hhd]; omega
  have HPX := Lib.hid hp
  clear hp hz hm rc re rl ok hfb ex4 hxx hc he hl hsz hhd c15
  obtain ⟨n, hn⟩ : ∃ n, n = sizeP p := ⟨_, rfl⟩
  rw [← hn] at hn1 n12' ⊢
  obtain ⟨hn1, hn2⟩ := hn1
  have HN := Lib.hid hn
  clear hn
  have q0 : ((n : Int) == 0) = false := by simp; omega
  have q512 : decide ((512 : Int) < (n : Int)) = false := by simp; omega
  have hmk := fun kl kc wx => run_mk (P := Try.prog) slU8 rfl n (by omega) kl kc wx
  go_enter Try.func73, Try.ntmps73
  go_upto_region 7 with (first
    | (go_at_call 116; (with_reducible refine (psize_h p _ HPX.out C cn cc E en ec L ln lc _ HL.out.1 HL.out.2.1 HL.out.2.2 b2 b3).mono ?_); rintro e w1 ⟨rfl, hb1⟩; rw [← HN.out]; have hb2 := ((Below.refl w.heap.size w).alloc (Nat.le_refl _) _).trans (hb1.mono (by simp)); have hit := blk_below (blk_alloc _ _) hb1; obtain ⟨x0, x1, x2, x3, x4, x5, x6, x7, x8, x9, x10⟩ := eleven_cells hit))
  have hmade := own_made (.int .u8 0) w1 n 5 (by unfold maxLen; omega) w.heap.size hb2.size
  rw [zeros_eq] at hmade
  have hP0 : PutP w (w1.alloc (.cells (madeCells #[.int .u8 0] n) 5)) #[.bool p.mr, .int .i64 p.ty, .int .u16 p.sq, .int .u32 p.tm, .int .u32 p.ss, .slice C cn cc, .bool true, .int .u16 p.pf, .slice E en ec, .slice L ln lc, .int .i64 p.pad] w1.heap.size n [] :=
    ⟨blk_below hit ((Below.refl _ _).alloc (Nat.le_refl _) _), by simpa using hmade, hb2.alloc hb2.size _, Nat.zero_le _⟩
  have HP0 := Lib.hid hP0
  clear hP0 hmade hit hb1 hb2 hmk x0 x1 x2 x3 x4 x5 x6 x7 x8 x9 x10
  have HFN := Lib.hid (firstN_lt (p := p) (by rw [HL.out.1]; exact c15'))
  generalize w1.alloc (.cells (madeCells #[.int .u8 0] n) 5) = w2 at *
  go_cut [] from 19 to 26 (fun wx => Hid (PutP w wx #[.bool p.mr, .int .i64 p.ty, .int .u16 p.sq, .int .u32 p.tm, .int .u32 p.ss, .slice C cn cc, .bool true, .int .u16 p.pf, .slice E en ec, .slice L ln lc, .int .i64 p.pad] w1.heap.size n [UInt8.ofNat (firstN p), UInt8.ofNat (secN p)]))
  case first =>
    refine region_plan (calmB_sound _) (.fork [0, 1, 2] (.leaf [4, 3, 5, 6, 7, 8, 9]) (.leaf [3, 4, 5, 6, 7, 8, 9])) (by kernel_rfl) (by kernel_rfl) (by kernel_rfl) ?_
    have HP := Lib.hid HP0.out.drew
    generalize w2.drew = w3 at *
    obtain ⟨x0, x1, x2, x3, x4, x5, x6, x7, x8, x9, x10⟩ := eleven_cells HP.out.it
    have n0 : 0 < n := by omega
    have n1 : 1 < n := by omega
    have n1' : (1 : Int) < n := by omega
    refine wpPlan_fork fun P1 hP1 => ?_
    simp only [List.filterMap_cons, List.filterMap_nil, List.getElem?_toArray, List.getElem?_cons_succ, List.getElem?_cons_zero]
    change wpList _ _ _ [_, _, _] _ _
    go_wp2
    refine hP1 _ _ ?_ ?_
    · refine wpPlan_leaf fun P2 hP2 => ?_
      simp only [List.filterMap_cons, List.filterMap_nil, List.getElem?_toArray, List.getElem?_cons_succ, List.getElem?_cons_zero]
      change wpList _ _ _ [_, _, _, _, _, _, _] _ _
      go_wp2_with (first | (go_at_call 117; (with_reducible refine (first_h p _ HPX.out C cn cc E en ec L ln lc _ HL.out.1 c15').mono ?_); rintro e w4 ⟨rfl, hb4⟩; have HP := Lib.hid (HP.out.below hb4); obtain ⟨y0, y1, y2, y3, y4, y5, y6, y7, y8, y9, y10⟩ := eleven_cells HP.out.it) | (go_at_call 118; (with_reducible refine (second_h p _ HPX.out C cn cc E en ec L ln lc _).mono ?_); rintro e w5 ⟨rfl, hb5⟩; have hP := HP.out.below hb5; obtain ⟨⟨s0, f0⟩, ⟨s1, f1⟩, hP2⟩ := hP.two (by omega) (firstN p) (secN p) HFN.out (secN_lt p)))
      go_meet
      exact Lib.hid hP2
    · refine wpPlan_leaf fun P3 hP3 => ?_
      simp only [List.filterMap_cons, List.filterMap_nil, List.getElem?_toArray, List.getElem?_cons_succ, List.getElem?_cons_zero]
      change wpList _ _ _ [_, _, _, _, _, _, _] _ _
      go_wp2_with (first | (go_at_call 117; (with_reducible refine (first_h p _ HPX.out C cn cc E en ec L ln lc _ HL.out.1 c15').mono ?_); rintro e w4 ⟨rfl, hb4⟩; have HP := Lib.hid (HP.out.below hb4); obtain ⟨y0, y1, y2, y3, y4, y5, y6, y7, y8, y9, y10⟩ := eleven_cells HP.out.it) | (go_at_call 118; (with_reducible refine (second_h p _ HPX.out C cn cc E en ec L ln lc _).mono ?_); rintro e w5 ⟨rfl, hb5⟩; have hP := HP.out.below hb5; obtain ⟨⟨s0, f0⟩, ⟨s1, f1⟩, hP2⟩ := hP.two (by omega) (firstN p) (secN p) HFN.out (secN_lt p)))
      go_meet
      exact Lib.hid hP2
  case rest =>
    have HP := hcut
    clear HP0
    have k1 := HO.out.sq
    have k2 := HO.out.tm
    have k3 := HO.out.ss
    have k4 := HO.out.pf
    have hH1 : headP p ≤ n := by rw [HN.out, HS.out]; omega
    have hH2 : headP p = 12 + 4 * cn + (4 + en) := HH.out
    have HHn := Lib.hid (And.intro hH1 hH2)
    have c12 : 12 + 4 * cn ≤ n := by rw [hH2] at hH1; omega
    clear hH1 hH2
    obtain ⟨x0, x1, x2, x3, x4, x5, x6, x7, x8, x9, x10⟩ := eleven_cells HP.out.it
    go_wp2_with (first
      | (go_at_call 79; (with_reducible refine (PutP.put HP.out 2 2 _ 2 p.sq (by simp [enc_length]) rfl rfl (by omega) (by omega) (by simp [enc_length]; omega) hn2).mono ?_); rintro e w3 ⟨rfl, hQ⟩; have HP3 := Lib.hid hQ; clear hQ; obtain ⟨y0, y1, y2, y3, y4, y5, y6, y7, y8, y9, y10⟩ := eleven_cells HP3.out.it)
      | (go_at_call 79; (with_reducible refine (PutP.put HP3.out 4 4 _ 4 p.tm (by simp [enc_length]) rfl rfl (by omega) (by omega) (by simp [enc_length]; omega) hn2).mono ?_); rintro e w4 ⟨rfl, hQ⟩; have HP4 := Lib.hid hQ; clear hQ; obtain ⟨y0, y1, y2, y3, y4, y5, y6, y7, y8, y9, y10⟩ := eleven_cells HP4.out.it)
      | (go_at_call 79; (with_reducible refine (PutP.put HP4.out 8 4 _ 4 p.ss (by simp [enc_length]) rfl rfl (by omega) (by omega) (by simp [enc_length]; omega) hn2).mono ?_); rintro e w5 ⟨rfl, hQ⟩; have HP5 := Lib.hid hQ; clear hQ; obtain ⟨y0, y1, y2, y3, y4, y5, y6, y7, y8, y9, y10⟩ := eleven_cells HP5.out.it))
    generalize hD : (([UInt8.ofNat (firstN p), UInt8.ofNat (secN p)] ++ enc 2 p.sq) ++ enc 4 p.tm) ++ enc 4 p.ss = D0 at *
    have hD12 : D0.length = 12 := by rw [← hD]; simp [enc_length]
    have HD := Lib.hid hD
    have HD12 := Lib.hid hD12
    clear hD hD12 HP HP3 HP4 k1 k2 k3 x0 x1 x2 x3 x4 x5 x6 x7 x8 x9 x10 y0 y1 y2 y3 y4 y5 y6 y7 y8 y9 y10
    go_loopw [6, 45] (fun s6 ix wr => ∃ k a : Nat, ix = .int .i64 k ∧ s6 = .int .i64 a ∧ k ≤ cn ∧ a = 12 + 4 * k ∧ Hid (PutP w wr #[.bool p.mr, .int .i64 p.ty, .int .u16 p.sq, .int .u32 p.tm, .int .u32 p.ss, .slice C cn cc, .bool true, .int .u16 p.pf, .slice E en ec, .slice L ln lc, .int .i64 p.pad] w1.heap.size n (D0 ++ fm4 (p.cs.take k)))) (fun _ ix _ => cn - (intOf ix).toNat)
    case atStart => exact ⟨0, 12, rfl, rfl, Nat.zero_le _, by omega, by simpa [fm4] using HP5⟩
    case round =>
      obtain ⟨k, a, rfl, rfl, hkn, hak, HPk⟩ := hrel
      have ha : a ≤ 100 := by omega
      have HAK := Lib.hid hak
      have hlen : Hid (a = (D0 ++ fm4 (p.cs.take k)).length) := by
        show _ = _
        rw [List.length_append, fm4_length, HD12.out, List.length_take, HL.out.1, hak]
        omega
      clear hak
      by_cases hlt : k < cn
      · have hk : k < p.cs.length := by rw [HL.out.1]; exact hlt
        obtain ⟨ad, rfl, c0⟩ := u32_at (HRC.out.rd.below HPk.out.b) hk
        have hx := HO.out.cs _ (List.getElem_mem hk)
        have HST := Lib.hid (fm4_take p.cs hk)
        generalize p.cs[k] = z at *
        have hroom : (D0 ++ fm4 (p.cs.take k)).length + 4 ≤ n := by rw [← hlen.out, HAK.out]; omega
        have HROOM := Lib.hid hroom
        clear hroom
        go_wp2_with (go_at_call 79; (with_reducible refine (PutP.put HPk.out a 4 _ 4 z (by rw [hlen.out]) rfl rfl (by omega) (by omega) HROOM.out hn2).mono ?_); rintro e w6 ⟨rfl, hQ⟩; have HQ := Lib.hid hQ; clear hQ)
        exact ⟨⟨k + 1, a + 4, rfl, rfl, by omega, by rw [HAK.out]; omega, by rw [HST.out, ← List.append_assoc]; exact HQ⟩, by simp [intOf]; omega⟩
      · have e1 : p.cs.take k = p.cs := List.take_of_length_le (by rw [HL.out.1]; omega)
        rw [e1] at HPk hlen
        have hkk : k = cn := by omega
        subst hkk
        obtain ⟨x0, x1, x2, x3, x4, x5, x6, x7, x8, x9, x10⟩ := eleven_cells HPk.out.it
        generalize hD1 : D0 ++ fm4 p.cs = D1 at *
        have HD1 := Lib.hid hD1
        clear hD1 e1
        have hxlen : D1.length + 4 + en ≤ n := by have := HHn.out; rw [← hlen.out, HAK.out]; omega
        obtain ⟨q, hq⟩ : ∃ q, en = 4 * q := ⟨en / 4, by have h1 := HX4.out.1; rw [HL.out.2.1] at h1; omega⟩
        have hq' : q < 65536 := by omega
        have HQ4 := Lib.hid hq
        have HRM := Lib.hid hxlen
        have hquo : Int.tdiv (en : Int) 4 = (q : Int) := by rw [hq]; simp
        have HA := Lib.hid (show ((a : Nat) : Int) + 2 = ((D1 ++ enc 2 p.pf).length : Nat) by simp [enc_length, hlen.out])
        have HB := Lib.hid (show D1.length + 2 ≤ n by omega)
        have HC := Lib.hid (show (D1 ++ enc 2 p.pf).length + 2 ≤ n by simp [enc_length]; omega)
        clear hxlen hq
        go_wp2_with (first
          | (go_at_call 79; (with_reducible refine (PutP.put HPk.out a 2 _ 2 p.pf (by rw [hlen.out]) rfl rfl (by omega) (by omega) HB.out hn2).mono ?_); rintro e w6 ⟨rfl, hQ⟩; have HP6 := Lib.hid hQ; clear hQ; obtain ⟨x0, x1, x2, x3, x4, x5, x6, x7, x8, x9, x10⟩ := eleven_cells HP6.out.it)
          | (go_at_call 79; (with_reducible refine (PutP.put HP6.out _ 2 _ 2 q HA.out rfl rfl (by omega) (by omega) HC.out hn2).mono ?_); rintro e w7 ⟨rfl, hQ⟩; have HP7 := Lib.hid hQ; clear hQ))
        have BA := Lib.hid (show ((D1 ++ enc 2 p.pf) ++ enc 2 q).length = a + 4 by simp [enc_length]; rw [hlen.out])
        have BB := Lib.hid (show a + 4 ≤ n by have h1 := HRM.out; have h2 := hlen.out; omega)
        have BC := Lib.hid (show ((D1 ++ enc 2 p.pf) ++ enc 2 q).length + p.ex.length ≤ n by rw [BA.out, HL.out.2.1]; have h1 := HRM.out; have h2 := hlen.out; omega)
        have BE := Lib.hid BA.out.symm
        have b0 : (0 : Int) ≤ (a : Int) + 4 := by omega
        have b1 : (a : Int) + 4 ≤ (n : Int) := by have := BB.out; omega
        refine region_plan (calmB_sound _) (.check [0, 1, 4] 2 (.leaf [2, 3, 5, 6])) (by kernel_rfl) (by kernel_rfl) (by kernel_rfl) ?_
        have HP8 := Lib.hid HP7.out.drew
        generalize w7.drew = w8 at *
        clear x0 x1 x2 x3 x4 x5 x6 x7 x8 x9 x10
        obtain ⟨x0, x1, x2, x3, x4, x5, x6, x7, x8, x9, x10⟩ := eleven_cells HP8.out.it
        refine wpPlan_check fun P1 hP1 => ?_
        simp only [List.filterMap_cons, List.filterMap_nil, List.getElem?_toArray, List.getElem?_cons_succ, List.getElem?_cons_zero]
        change wpList _ _ _ [_, _, _] _ _
        go_wp2
        refine hP1 _ _ (fun _ => .inl ⟨_, _, _, _, rfl, rfl⟩) ?_
        refine wpPlan_leaf fun P2 hP2 => ?_
        simp only [List.filterMap_cons, List.filterMap_nil, List.getElem?_toArray, List.getElem?_cons_succ, List.getElem?_cons_zero]
        change wpList _ _ _ [_, _, _, _] _ _
        go_wp2_with (refine wpList_cpy slU8 rfl _ _ rfl w.heap.size (some ⟨w1.heap.size, 0, none⟩) n n _ HP8.out.own (a + 4) BB.out _ (n - (a + 4)) _ rfl rfl (fun hpos => by rw [if_neg (show ¬ n = a + 4 by omega)]; simp [Addr.add]) _ en _ rfl (bys p.ex) (by rw [bys_length]; exact HL.out.2.1) (HRE.out.rd.below HP8.out.b) (bys_one _) ?_; intro w9 ho hg hz; have HP9 := Lib.hid (PutP.cpd HP8.out p.ex BC.out (a + 4) (n - (a + 4)) BE.out rfl ho hg); clear ho hg hz; generalize (if n = a + 4 then (some ⟨w1.heap.size, 0, none⟩ : Option Addr) else some ⟨w1.heap.size, a + 4, none⟩) = d77)
        all_goals
          have HD2 := Lib.hid (show (((D1 ++ enc 2 p.pf) ++ enc 2 q) ++ p.ex).length = headP p by rw [List.length_append, BA.out, HL.out.2.1, HAK.out, HH.out]; omega)
          have HDD : Hid (((D1 ++ enc 2 p.pf) ++ enc 2 q) ++ p.ex = [UInt8.ofNat (firstN p), UInt8.ofNat (secN p)] ++ (enc 2 p.sq ++ (enc 4 p.tm ++ (enc 4 p.ss ++ (p.cs.flatMap (enc 4) ++ (enc 2 p.pf ++ (enc 2 q ++ p.ex))))))) := by
            show _ = _
            rw [← HD1.out, ← HD.out]; simp [fm4]
          generalize ((D1 ++ enc 2 p.pf) ++ enc 2 q) ++ p.ex = D2 at *
          have HP10 := Lib.hid (HP9.out).drew
          have hh1 : headP p ≤ n := HHn.out.1
          have HS1 : Hid (headP p + p.pl.length + p.pad.toNat = n) := by show _ = _; rw [HN.out, HS.out, HL.out.2.2]
          have HPL := Lib.hid (pktL_split p _ _ HDD.out (by rw [HPX.out, HL.out.2.1]; rw [HQ4.out]; simp))
          obtain ⟨m, hm⟩ : ∃ m, n = m + 1 := ⟨n - 1, by omega⟩
          have hm1 : (n : Int) - 1 = (m : Int) := by omega
          have hm2 : m < n := by omega
          have hm3 : (m : Int) < (n : Int) := by omega
          have HM := Lib.hid hm
          clear hm
          obtain ⟨P, hP⟩ : ∃ P : Nat, p.pad = P := ⟨p.pad.toNat, by omega⟩
          have hwr : IntKind.u8.wrap p.pad = (P : Int) := by rw [IntKind.wrap_u8, hP]; omega
          have hP2 : Hid (P < 256) := by show _ < _; omega
          have HPP := Lib.hid hP
          clear hP
          obtain ⟨hh, hhe⟩ : ∃ hh, hh = headP p := ⟨_, rfl⟩
          have HHE := Lib.hid hhe.symm
          rw [← hhe] at hh1 HS1 HD2
          clear hhe
          have BF := Lib.hid hh1
          have BG := Lib.hid HD2.out.symm
          have b3' : (0 : Int) ≤ (hh : Int) := by omega
          have b4 : (hh : Int) ≤ (n : Int) := by omega
          have BH := Lib.hid (show D2.length + p.pl.length ≤ n by rw [HD2.out]; have := HS1.out; omega)
          refine region_plan (calmB_sound _) (.fork [0, 1, 4] (.leaf [5, 2, 3, 6]) (.leaf [2, 3, 5, 6])) (by kernel_rfl) (by kernel_rfl) (by kernel_rfl) ?_
          generalize w9.drew = w10 at *
          clear x0 x1 x2 x3 x4 x5 x6 x7 x8 x9 x10
          obtain ⟨x0, x1, x2, x3, x4, x5, x6, x7, x8, x9, x10⟩ := eleven_cells HP10.out.it
          refine wpPlan_fork fun P1 hP1 => ?_
          simp only [List.filterMap_cons, List.filterMap_nil, List.getElem?_toArray, List.getElem?_cons_succ, List.getElem?_cons_zero]
          change wpList _ _ _ [_, _, _] _ _
          go_wp2
          refine hP1 _ _ ?_ ?_
          · refine wpPlan_leaf fun P2 hP2 => ?_
            simp only [List.filterMap_cons, List.filterMap_nil, List.getElem?_toArray, List.getElem?_cons_succ, List.getElem?_cons_zero]
            change wpList _ _ _ [_, _, _, _] _ _
            go_wp2_with (first | (go_at_call 119; (with_reducible refine (head_h p _ HPX.out C _ cc E en ec L ln lc _ HL.out.1 HL.out.2.1 (by omega) (by omega)).mono ?_); rintro e w11 ⟨rfl, hb11⟩; rw [HHE.out]; have HP11 := Lib.hid (HP10.out.below hb11); obtain ⟨x0, x1, x2, x3, x4, x5, x6, x7, x8, x9, x10⟩ := eleven_cells HP11.out.it) | (refine wpList_cpy slU8 rfl _ _ rfl w.heap.size (some ⟨w1.heap.size, 0, none⟩) n n _ HP11.out.own hh BF.out _ (n - hh) _ rfl rfl (fun hpos => by rw [if_neg (show ¬ n = hh by omega)]; simp [Addr.add]) _ ln _ rfl (bys p.pl) (by rw [bys_length]; exact HL.out.2.2) (HRL.out.rd.below HP11.out.b) (bys_one _) ?_; intro w12 ho hg hz; have HP12 := Lib.hid (PutP.cpd HP11.out p.pl BH.out hh (n - hh) BG.out rfl ho hg); clear ho hg hz; generalize (if n = hh then (some ⟨w1.heap.size, 0, none⟩ : Option Addr) else some ⟨w1.heap.size, hh, none⟩) = d84; obtain ⟨v, lc0, lf0⟩ := PutP.last HP12.out m hm2; clear x0 x1 x2 x3 x4 x5 x6 x7 x8 x9 x10; obtain ⟨x0, x1, x2, x3, x4, x5, x6, x7, x8, x9, x10⟩ := eleven_cells HP12.out.it))
            all_goals
              go_ret2
              refine ⟨some ⟨w1.heap.size, 0, none⟩, n, rfl, ?_⟩
              have hl12 : (D2 ++ p.pl).length + P = n := by rw [List.length_append, HD2.out]; have h1 := HS1.out; have h2 := HPP.out; omega
              have hM := HM.out
              have hnm : n - 1 = m := by omega
              first
                | (rw [HPL.out, if_pos (by assumption)]; have hpos : 0 < p.pad := (by assumption); have h2 := HPP.out; have hf := (PutP.fin1 HP12.out P P hP2.out (by omega) hl12).2.2; rw [hnm] at hf; rw [show p.pad.toNat = P by omega]; exact hf)
                | (rw [HPL.out, if_neg (show ¬ 0 < p.pad by omega), List.append_nil]; have h2 := HPP.out; exact PutP.fin0 HP12.out (by omega))
          · refine wpPlan_leaf fun P3 hP3 => ?_
            simp only [List.filterMap_cons, List.filterMap_nil, List.getElem?_toArray, List.getElem?_cons_succ, List.getElem?_cons_zero]
            change wpList _ _ _ [_, _, _, _] _ _
            go_wp2_with (first | (go_at_call 119; (with_reducible refine (head_h p _ HPX.out C _ cc E en ec L ln lc _ HL.out.1 HL.out.2.1 (by omega) (by omega)).mono ?_); rintro e w11 ⟨rfl, hb11⟩; rw [HHE.out]; have HP11 := Lib.hid (HP10.out.below hb11); obtain ⟨x0, x1, x2, x3, x4, x5, x6, x7, x8, x9, x10⟩ := eleven_cells HP11.out.it) | (refine wpList_cpy slU8 rfl _ _ rfl w.heap.size (some ⟨w1.heap.size, 0, none⟩) n n _ HP11.out.own hh BF.out _ (n - hh) _ rfl rfl (fun hpos => by rw [if_neg (show ¬ n = hh by omega)]; simp [Addr.add]) _ ln _ rfl (bys p.pl) (by rw [bys_length]; exact HL.out.2.2) (HRL.out.rd.below HP11.out.b) (bys_one _) ?_; intro w12 ho hg hz; have HP12 := Lib.hid (PutP.cpd HP11.out p.pl BH.out hh (n - hh) BG.out rfl ho hg); clear ho hg hz; generalize (if n = hh then (some ⟨w1.heap.size, 0, none⟩ : Option Addr) else some ⟨w1.heap.size, hh, none⟩) = d84; obtain ⟨v, lc0, lf0⟩ := PutP.last HP12.out m hm2; clear x0 x1 x2 x3 x4 x5 x6 x7 x8 x9 x10; obtain ⟨x0, x1, x2, x3, x4, x5, x6, x7, x8, x9, x10⟩ := eleven_cells HP12.out.it))
            all_goals
              go_ret2
              refine ⟨some ⟨w1.heap.size, 0, none⟩, n, rfl, ?_⟩
              have hl12 : (D2 ++ p.pl).length + P = n := by rw [List.length_append, HD2.out]; have h1 := HS1.out; have h2 := HPP.out; omega
              have hM := HM.out
              have hnm : n - 1 = m := by omega
              first
                | (rw [HPL.out, if_pos (by assumption)]; have hpos : 0 < p.pad := (by assumption); have h2 := HPP.out; have hf := (PutP.fin1 HP12.out P P hP2.out (by omega) hl12).2.2; rw [hnm] at hf; rw [show p.pad.toNat = P by omega]; exact hf)
                | (rw [HPL.out, if_neg (show ¬ 0 < p.pad by omega), List.append_nil]; have h2 := HPP.out; exact PutP.fin0 HP12.out (by omega))

set_option maxRecDepth 20000 in
set_option maxHeartbeats 4000000 in
theorem pput_f (p : Pkt) (hp : p.hx = false) (C : Option Addr) (cn cc : Nat) (E : Option Addr) (en ec : Nat) (L : Option Addr) (ln lc : Nat) (w : World) (rc : Row w C cn cc 1 4 (u32s p.cs)) (re : Row w E en ec 1 1 (bys p.ex)) (rl : Row w L ln lc 1 1 (bys p.pl)) (ok : p.Ok)
    (b2 : en ≤ 140737488351232) (b3 : ln ≤ 140737488351232) (hz : errP p = 0) :
    Calls Try.prog 73 #[.agg #[.bool p.mr, .int .i64 p.ty, .int .u16 p.sq, .int .u32 p.tm, .int .u32 p.ss, .slice C cn cc, .bool false, .int .u16 p.pf, .slice E en ec, .slice L ln lc, .int .i64 p.pad]] w fun e w' =>
      ∃ B c', e = .returned (.tuple #[.slice B (sizeP p) c', .int .i64 0]) ∧ w'.ownsRow w.heap.size 5 1 (.slice B (sizeP p) c') (sizeP p) (bys (pktL p)) ∧ Below w.heap.size w w' := by
  have hc : p.cs.length = cn := by have := rc.len; rw [u32s_length] at this; omega
  have he : p.ex.length = en := by have := re.len; rw [bys_length] at this; omega
  have hl : p.pl.length = ln := by have := rl.len; rw [bys_length] at this; omega
  have hn1 : 1 ≤ sizeP p ∧ sizeP p ≤ 512 := by
    unfold errP at hz
    by_cases h1 : sizeP p = 0
    · rw [if_pos h1] at hz; cases hz
    · rw [if_neg h1] at hz
      by_cases h2 : sizeP p > 512
      · rw [if_pos h2] at hz; cases hz
      · omega
  have hm : mayP p = true := by
    cases h : mayP p
    · have : sizeP p = 0 := by unfold sizeP; rw [h]; rfl
      omega
    · rfl
  have hmm := hm
  simp only [mayP, Bool.and_eq_true, decide_eq_true_eq] at hmm
  rw [hp] at hmm
  obtain ⟨⟨ty0, ty1⟩, hfb, ⟨c15, pad0, pad1⟩, ex4, hxx⟩ := hmm
  have hsz : sizeP p = headP p + ln + p.pad.toNat := by unfold sizeP; rw [hm, hl]; rfl
  have hhd : headP p = 12 + 4 * cn + 0 := by unfold headP; rw [hc, he, hp]; rfl
  have HL := Lib.hid (And.intro hc (And.intro he hl))
  have HS := Lib.hid hsz
  have HH := Lib.hid hhd
  have HRC := Lib.hid rc
  have HRE := Lib.hid re
  have HRL := Lib.hid rl
  have HO := Lib.hid ok
  have c15' : cn ≤ 15 := by omega
  have HX4 := Lib.hid (And.intro ex4 hxx)
  have n12' : 12 ≤ sizeP p := by rw [hsz, hhd]; omega
  have HPX := Lib.hid hp
  clear hp hz hm rc re rl ok hfb ex4 hxx hc he hl hsz hhd c15
  obtain ⟨n, hn⟩ : ∃ n, n = sizeP p := ⟨_, rfl⟩
  rw [← hn] at hn1 n12' ⊢
  obtain ⟨hn1, hn2⟩ := hn1
  have HN := Lib.hid hn
  clear hn
  have q0 : ((n : Int) == 0) = false := by simp; omega
  have q512 : decide ((512 : Int) < (n : Int)) = false := by simp; omega
  have hmk := fun kl kc wx => run_mk (P := Try.prog) slU8 rfl n (by omega) kl kc wx
  go_enter Try.func73, Try.ntmps73
  go_upto_region 7 with (first
    | (go_at_call 116; (with_reducible refine (psize_h p _ HPX.out C cn cc E en ec L ln lc _ HL.out.1 HL.out.2.1 HL.out.2.2 b2 b3).mono ?_); rintro e w1 ⟨rfl, hb1⟩; rw [← HN.out]; have hb2 := ((Below.refl w.heap.size w).alloc (Nat.le_refl _) _).trans (hb1.mono (by simp)); have hit := blk_below (blk_alloc _ _) hb1; obtain ⟨x0, x1, x2, x3, x4, x5, x6, x7, x8, x9, x10⟩ := eleven_cells hit))
  have hmade := own_made (.int .u8 0) w1 n 5 (by unfold maxLen; omega) w.heap.size hb2.size
  rw [zeros_eq] at hmade
  have hP0 : PutP w (w1.alloc (.cells (madeCells #[.int .u8 0] n) 5)) #[.bool p.mr, .int .i64 p.ty, .int .u16 p.sq, .int .u32 p.tm, .int .u32 p.ss, .slice C cn cc, .bool false, .int .u16 p.pf, .slice E en ec, .slice L ln lc, .int .i64 p.pad] w1.heap.size n [] :=
    ⟨blk_below hit ((Below.refl _ _).alloc (Nat.le_refl _) _), by simpa using hmade, hb2.alloc hb2.size _, Nat.zero_le _⟩
  have HP0 := Lib.hid hP0
  clear hP0 hmade hit hb1 hb2 hmk x0 x1 x2 x3 x4 x5 x6 x7 x8 x9 x10
  have HFN := Lib.hid (firstN_lt (p := p) (by rw [HL.out.1]; exact c15'))
  generalize w1.alloc (.cells (madeCells #[.int .u8 0] n) 5) = w2 at *
  go_cut [] from 19 to 26 (fun wx => Hid (PutP w wx #[.bool p.mr, .int .i64 p.ty, .int .u16 p.sq, .int .u32 p.tm, .int .u32 p.ss, .slice C cn cc, .bool false, .int .u16 p.pf, .slice E en ec, .slice L ln lc, .int .i64 p.pad] w1.heap.size n [UInt8.ofNat (firstN p), UInt8.ofNat (secN p)]))
  case first =>
    refine region_plan (calmB_sound _) (.fork [0, 1, 2] (.leaf [4, 3, 5, 6, 7, 8, 9]) (.leaf [3, 4, 5, 6, 7, 8, 9])) (by kernel_rfl) (by kernel_rfl) (by kernel_rfl) ?_
    have HP := Lib.hid HP0.out.drew
    generalize w2.drew = w3 at *
    obtain ⟨x0, x1, x2, x3, x4, x5, x6, x7, x8, x9, x10⟩ := eleven_cells HP.out.it
    have n0 : 0 < n := by omega
    have n1 : 1 < n := by omega
    have n1' : (1 : Int) < n := by omega
    refine wpPlan_fork fun P1 hP1 => ?_
    simp only [List.filterMap_cons, List.filterMap_nil, List.getElem?_toArray, List.getElem?_cons_succ, List.getElem?_cons_zero]
    change wpList _ _ _ [_, _, _] _ _
    go_wp2
    refine hP1 _ _ ?_ ?_
    · refine wpPlan_leaf fun P2 hP2 => ?_
      simp only [List.filterMap_cons, List.filterMap_nil, List.getElem?_toArray, List.getElem?_cons_succ, List.getElem?_cons_zero]
      change wpList _ _ _ [_, _, _, _, _, _, _] _ _
      go_wp2_with (first | (go_at_call 117; (with_reducible refine (first_h p _ HPX.out C cn cc E en ec L ln lc _ HL.out.1 c15').mono ?_); rintro e w4 ⟨rfl, hb4⟩; have HP := Lib.hid (HP.out.below hb4); obtain ⟨y0, y1, y2, y3, y4, y5, y6, y7, y8, y9, y10⟩ := eleven_cells HP.out.it) | (go_at_call 118; (with_reducible refine (second_h p _ HPX.out C cn cc E en ec L ln lc _).mono ?_); rintro e w5 ⟨rfl, hb5⟩; have hP := HP.out.below hb5; obtain ⟨⟨s0, f0⟩, ⟨s1, f1⟩, hP2⟩ := hP.two (by omega) (firstN p) (secN p) HFN.out (secN_lt p)))
      go_meet
      exact Lib.hid hP2
    · refine wpPlan_leaf fun P3 hP3 => ?_
      simp only [List.filterMap_cons, List.filterMap_nil, List.getElem?_toArray, List.getElem?_cons_succ, List.getElem?_cons_zero]
      change wpList _ _ _ [_, _, _, _, _, _, _] _ _
      go_wp2_with (first | (go_at_call 117; (with_reducible refine (first_h p _ HPX.out C cn cc E en ec L ln lc _ HL.out.1 c15').mono ?_); rintro e w4 ⟨rfl, hb4⟩; have HP := Lib.hid (HP.out.below hb4); obtain ⟨y0, y1, y2, y3, y4, y5, y6, y7, y8, y9, y10⟩ := eleven_cells HP.out.it) | (go_at_call 118; (with_reducible refine (second_h p _ HPX.out C cn cc E en ec L ln lc _).mono ?_); rintro e w5 ⟨rfl, hb5⟩; have hP := HP.out.below hb5; obtain ⟨⟨s0, f0⟩, ⟨s1, f1⟩, hP2⟩ := hP.two (by omega) (firstN p) (secN p) HFN.out (secN_lt p)))
      go_meet
      exact Lib.hid hP2
  case rest =>
    have HP := hcut
    clear HP0
    have k1 := HO.out.sq
    have k2 := HO.out.tm
    have k3 := HO.out.ss
    have k4 := HO.out.pf
    have hH1 : headP p ≤ n := by rw [HN.out, HS.out]; omega
    have hH2 : headP p = 12 + 4 * cn + 0 := HH.out
    have HHn := Lib.hid (And.intro hH1 hH2)
    have c12 : 12 + 4 * cn ≤ n := by rw [hH2] at hH1; omega
    clear hH1 hH2
    obtain ⟨x0, x1, x2, x3, x4, x5, x6, x7, x8, x9, x10⟩ := eleven_cells HP.out.it
    go_wp2_with (first
      | (go_at_call 79; (with_reducible refine (PutP.put HP.out 2 2 _ 2 p.sq (by simp [enc_length]) rfl rfl (by omega) (by omega) (by simp [enc_length]; omega) hn2).mono ?_); rintro e w3 ⟨rfl, hQ⟩; have HP3 := Lib.hid hQ; clear hQ; obtain ⟨y0, y1, y2, y3, y4, y5, y6, y7, y8, y9, y10⟩ := eleven_cells HP3.out.it)
      | (go_at_call 79; (with_reducible refine (PutP.put HP3.out 4 4 _ 4 p.tm (by simp [enc_length]) rfl rfl (by omega) (by omega) (by simp [enc_length]; omega) hn2).mono ?_); rintro e w4 ⟨rfl, hQ⟩; have HP4 := Lib.hid hQ; clear hQ; obtain ⟨y0, y1, y2, y3, y4, y5, y6, y7, y8, y9, y10⟩ := eleven_cells HP4.out.it)
      | (go_at_call 79; (with_reducible refine (PutP.put HP4.out 8 4 _ 4 p.ss (by simp [enc_length]) rfl rfl (by omega) (by omega) (by simp [enc_length]; omega) hn2).mono ?_); rintro e w5 ⟨rfl, hQ⟩; have HP5 := Lib.hid hQ; clear hQ; obtain ⟨y0, y1, y2, y3, y4, y5, y6, y7, y8, y9, y10⟩ := eleven_cells HP5.out.it))
    generalize hD : (([UInt8.ofNat (firstN p), UInt8.ofNat (secN p)] ++ enc 2 p.sq) ++ enc 4 p.tm) ++ enc 4 p.ss = D0 at *
    have hD12 : D0.length = 12 := by rw [← hD]; simp [enc_length]
    have HD := Lib.hid hD
    have HD12 := Lib.hid hD12
    clear hD hD12 HP HP3 HP4 k1 k2 k3 x0 x1 x2 x3 x4 x5 x6 x7 x8 x9 x10 y0 y1 y2 y3 y4 y5 y6 y7 y8 y9 y10
    go_loopw [6, 45] (fun s6 ix wr => ∃ k a : Nat, ix = .int .i64 k ∧ s6 = .int .i64 a ∧ k ≤ cn ∧ a = 12 + 4 * k ∧ Hid (PutP w wr #[.bool p.mr, .int .i64 p.ty, .int .u16 p.sq, .int .u32 p.tm, .int .u32 p.ss, .slice C cn cc, .bool false, .int .u16 p.pf, .slice E en ec, .slice L ln lc, .int .i64 p.pad] w1.heap.size n (D0 ++ fm4 (p.cs.take k)))) (fun _ ix _ => cn - (intOf ix).toNat)
    case atStart => exact ⟨0, 12, rfl, rfl, Nat.zero_le _, by omega, by simpa [fm4] using HP5⟩
    case round =>
      obtain ⟨k, a, rfl, rfl, hkn, hak, HPk⟩ := hrel
      have ha : a ≤ 100 := by omega
      have HAK := Lib.hid hak
      have hlen : Hid (a = (D0 ++ fm4 (p.cs.take k)).length) := by
        show _ = _
        rw [List.length_append, fm4_length, HD12.out, List.length_take, HL.out.1, hak]
        omega
      clear hak
      by_cases hlt : k < cn
      · have hk : k < p.cs.length := by rw [HL.out.1]; exact hlt
        obtain ⟨ad, rfl, c0⟩ := u32_at (HRC.out.rd.below HPk.out.b) hk
        have hx := HO.out.cs _ (List.getElem_mem hk)
        have HST := Lib.hid (fm4_take p.cs hk)
        generalize p.cs[k] = z at *
        have hroom : (D0 ++ fm4 (p.cs.take k)).length + 4 ≤ n := by rw [← hlen.out, HAK.out]; omega
        have HROOM := Lib.hid hroom
        clear hroom
        go_wp2_with (go_at_call 79; (with_reducible refine (PutP.put HPk.out a 4 _ 4 z (by rw [hlen.out]) rfl rfl (by omega) (by omega) HROOM.out hn2).mono ?_); rintro e w6 ⟨rfl, hQ⟩; have HQ := Lib.hid hQ; clear hQ)
        exact ⟨⟨k + 1, a + 4, rfl, rfl, by omega, by rw [HAK.out]; omega, by rw [HST.out, ← List.append_assoc]; exact HQ⟩, by simp [intOf]; omega⟩
      · have e1 : p.cs.take k = p.cs := List.take_of_length_le (by rw [HL.out.1]; omega)
        rw [e1] at HPk hlen
        have hkk : k = cn := by omega
        subst hkk
        obtain ⟨x0, x1, x2, x3, x4, x5, x6, x7, x8, x9, x10⟩ := eleven_cells HPk.out.it
        generalize hD1 : D0 ++ fm4 p.cs = D1 at *
        have HD1 := Lib.hid hD1
        clear hD1 e1
        go_wp2_with fail
        have HD2 := Lib.hid (show (D1).length = headP p by rw [← hlen.out, HAK.out, HH.out]; omega)
        have HDD : Hid (D1 = [UInt8.ofNat (firstN p), UInt8.ofNat (secN p)] ++ (enc 2 p.sq ++ (enc 4 p.tm ++ (enc 4 p.ss ++ (p.cs.flatMap (enc 4) ++ ([])))))) := by
          show _ = _
          rw [← HD1.out, ← HD.out]; simp [fm4]
        generalize D1 = D2 at *
        have HP10 := Lib.hid (HPk.out).drew
        have hh1 : headP p ≤ n := HHn.out.1
        have HS1 : Hid (headP p + p.pl.length + p.pad.toNat = n) := by show _ = _; rw [HN.out, HS.out, HL.out.2.2]
        have HPL := Lib.hid (pktL_split p _ _ HDD.out (by rw [HPX.out, HL.out.2.1]; simp))
        obtain ⟨m, hm⟩ : ∃ m, n = m + 1 := ⟨n - 1, by omega⟩
        have hm1 : (n : Int) - 1 = (m : Int) := by omega
        have hm2 : m < n := by omega
        have hm3 : (m : Int) < (n : Int) := by omega
        have HM := Lib.hid hm
        clear hm
        obtain ⟨P, hP⟩ : ∃ P : Nat, p.pad = P := ⟨p.pad.toNat, by omega⟩
        have hwr : IntKind.u8.wrap p.pad = (P : Int) := by rw [IntKind.wrap_u8, hP]; omega
        have hP2 : Hid (P < 256) := by show _ < _; omega
        have HPP := Lib.hid hP
        clear hP
        obtain ⟨hh, hhe⟩ : ∃ hh, hh = headP p := ⟨_, rfl⟩
        have HHE := Lib.hid hhe.symm
        rw [← hhe] at hh1 HS1 HD2
        clear hhe
        have BF := Lib.hid hh1
        have BG := Lib.hid HD2.out.symm
        have b3' : (0 : Int) ≤ (hh : Int) := by omega
        have b4 : (hh : Int) ≤ (n : Int) := by omega
        have BH := Lib.hid (show D2.length + p.pl.length ≤ n by rw [HD2.out]; have := HS1.out; omega)
        refine region_plan (calmB_sound _) (.fork [0, 1, 4] (.leaf [5, 2, 3, 6]) (.leaf [2, 3, 5, 6])) (by kernel_rfl) (by kernel_rfl) (by kernel_rfl) ?_
        generalize wr.drew = w10 at *
        clear x0 x1 x2 x3 x4 x5 x6 x7 x8 x9 x10
        obtain ⟨x0, x1, x2, x3, x4, x5, x6, x7, x8, x9, x10⟩ := eleven_cells HP10.out.it
        refine wpPlan_fork fun P1 hP1 => ?_
        simp only [List.filterMap_cons, List.filterMap_nil, List.getElem?_toArray, List.getElem?_cons_succ, List.getElem?_cons_zero]
        change wpList _ _ _ [_, _, _] _ _
        go_wp2
        refine hP1 _ _ ?_ ?_
        · refine wpPlan_leaf fun P2 hP2 => ?_
          simp only [List.filterMap_cons, List.filterMap_nil, List.getElem?_toArray, List.getElem?_cons_succ, List.getElem?_cons_zero]
          change wpList _ _ _ [_, _, _, _] _ _
          go_wp2_with (first | (go_at_call 119; (with_reducible refine (head_h p _ HPX.out C _ cc E en ec L ln lc _ HL.out.1 HL.out.2.1 (by omega) (by omega)).mono ?_); rintro e w11 ⟨rfl, hb11⟩; rw [HHE.out]; have HP11 := Lib.hid (HP10.out.below hb11); obtain ⟨x0, x1, x2, x3, x4, x5, x6, x7, x8, x9, x10⟩ := eleven_cells HP11.out.it) | (refine wpList_cpy slU8 rfl _ _ rfl w.heap.size (some ⟨w1.heap.size, 0, none⟩) n n _ HP11.out.own hh BF.out _ (n - hh) _ rfl rfl (fun hpos => by rw [if_neg (show ¬ n = hh by omega)]; simp [Addr.add]) _ ln _ rfl (bys p.pl) (by rw [bys_length]; exact HL.out.2.2) (HRL.out.rd.below HP11.out.b) (bys_one _) ?_; intro w12 ho hg hz; have HP12 := Lib.hid (PutP.cpd HP11.out p.pl BH.out hh (n - hh) BG.out rfl ho hg); clear ho hg hz; generalize (if n = hh then (some ⟨w1.heap.size, 0, none⟩ : Option Addr) else some ⟨w1.heap.size, hh, none⟩) = d84; obtain ⟨v, lc0, lf0⟩ := PutP.last HP12.out m hm2; clear x0 x1 x2 x3 x4 x5 x6 x7 x8 x9 x10; obtain ⟨x0, x1, x2, x3, x4, x5, x6, x7, x8, x9, x10⟩ := eleven_cells HP12.out.it))
          all_goals
            go_ret2
            refine ⟨some ⟨w1.heap.size, 0, none⟩, n, rfl, ?_⟩
            have hl12 : (D2 ++ p.pl).length + P = n := by rw [List.length_append, HD2.out]; have h1 := HS1.out; have h2 := HPP.out; omega
            have hM := HM.out
            have hnm : n - 1 = m := by omega
            first
              | (rw [HPL.out, if_pos (by assumption)]; have hpos : 0 < p.pad := (by assumption); have h2 := HPP.out; have hf := (PutP.fin1 HP12.out P P hP2.out (by omega) hl12).2.2; rw [hnm] at hf; rw [show p.pad.toNat = P by omega]; exact hf)
              | (rw [HPL.out, if_neg (show ¬ 0 < p.pad by omega), List.append_nil]; have h2 := HPP.out; exact PutP.fin0 HP12.out (by omega))
        · refine wpPlan_leaf fun P3 hP3 => ?_
          simp only [List.filterMap_cons, List.filterMap_nil, List.getElem?_toArray, List.getElem?_cons_succ, List.getElem?_cons_zero]
          change wpList _ _ _ [_, _, _, _] _ _
          go_wp2_with (first | (go_at_call 119; (with_reducible refine (head_h p _ HPX.out C _ cc E en ec L ln lc _ HL.out.1 HL.out.2.1 (by omega) (by omega)).mono ?_); rintro e w11 ⟨rfl, hb11⟩; rw [HHE.out]; have HP11 := Lib.hid (HP10.out.below hb11); obtain ⟨x0, x1, x2, x3, x4, x5, x6, x7, x8, x9, x10⟩ := eleven_cells HP11.out.it) | (refine wpList_cpy slU8 rfl _ _ rfl w.heap.size (some ⟨w1.heap.size, 0, none⟩) n n _ HP11.out.own hh BF.out _ (n - hh) _ rfl rfl (fun hpos => by rw [if_neg (show ¬ n = hh by omega)]; simp [Addr.add]) _ ln _ rfl (bys p.pl) (by rw [bys_length]; exact HL.out.2.2) (HRL.out.rd.below HP11.out.b) (bys_one _) ?_; intro w12 ho hg hz; have HP12 := Lib.hid (PutP.cpd HP11.out p.pl BH.out hh (n - hh) BG.out rfl ho hg); clear ho hg hz; generalize (if n = hh then (some ⟨w1.heap.size, 0, none⟩ : Option Addr) else some ⟨w1.heap.size, hh, none⟩) = d84; obtain ⟨v, lc0, lf0⟩ := PutP.last HP12.out m hm2; clear x0 x1 x2 x3 x4 x5 x6 x7 x8 x9 x10; obtain ⟨x0, x1, x2, x3, x4, x5, x6, x7, x8, x9, x10⟩ := eleven_cells HP12.out.it))
          all_goals
            go_ret2
            refine ⟨some ⟨w1.heap.size, 0, none⟩, n, rfl, ?_⟩
            have hl12 : (D2 ++ p.pl).length + P = n := by rw [List.length_append, HD2.out]; have h1 := HS1.out; have h2 := HPP.out; omega
            have hM := HM.out
            have hnm : n - 1 = m := by omega
            first
              | (rw [HPL.out, if_pos (by assumption)]; have hpos : 0 < p.pad := (by assumption); have h2 := HPP.out; have hf := (PutP.fin1 HP12.out P P hP2.out (by omega) hl12).2.2; rw [hnm] at hf; rw [show p.pad.toNat = P by omega]; exact hf)
              | (rw [HPL.out, if_neg (show ¬ 0 < p.pad by omega), List.append_nil]; have h2 := HPP.out; exact PutP.fin0 HP12.out (by omega))

end Go.Proofs.Ytknlkmencdlpcaa

namespace Go.Proofs.Ytknlkmencdlpcaa
set_option linter.unusedVariables false
set_option linter.unusedSimpArgs false
open Go Go.RowKit

section
variable (p : Pkt) (C : Option Addr) (cn cc : Nat) (E : Option Addr) (en ec : Nat) (L : Option Addr) (ln lc : Nat) (w : World)
set_option maxRecDepth 20000 in
set_option maxHeartbeats 1000000 in
theorem pput_no (hc : p.cs.length = cn) (he : p.ex.length = en) (hl : p.pl.length = ln) (b2 : en ≤ 140737488351232) (b3 : ln ≤ 140737488351232) (hz : errP p ≠ 0) :
    Calls Try.prog 73 #[.agg #[.bool p.mr, .int .i64 p.ty, .int .u16 p.sq, .int .u32 p.tm, .int .u32 p.ss, .slice C cn cc, .bool p.hx, .int .u16 p.pf, .slice E en ec, .slice L ln lc, .int .i64 p.pad]] w fun e w' =>
      e = .returned (.tuple #[.slice none 0 0, .int .i64 (errP p : Nat)]) ∧ Below w.heap.size w w' := by
  have HC := Lib.hid (And.intro hc (And.intro he hl))
  clear hc he hl
  obtain ⟨n, hn⟩ : ∃ n, n = sizeP p := ⟨_, rfl⟩
  have HN := Lib.hid hn.symm
  have HE : Hid (errP p = if n = 0 then 1 else if n > 512 then 5 else 0) := by show _ = _; rw [hn]; rfl
  have hz2 : n = 0 ∨ n > 512 := by
    have := HE.out
    by_cases h : n = 0
    · exact .inl h
    · rw [if_neg h] at this
      by_cases h2 : n > 512
      · exact .inr h2
      · rw [if_neg h2] at this; exact absurd this hz
  clear hn hz
  rcases hz2 with h0 | h5
  · subst h0
    go_enter Try.func73, Try.ntmps73
    go_wp2_with (go_at_call 116; (with_reducible refine (psize_any p C cn cc E en ec L ln lc _ HC.out.1 HC.out.2.1 HC.out.2.2 b2 b3).mono ?_); rintro e w1 ⟨rfl, hb1⟩; rw [HN.out])
    go_ret2
    exact ⟨by rw [HE.out]; rfl, ((Below.refl w.heap.size w).alloc (Nat.le_refl _) _).trans (hb1.mono (by simp))⟩
  · have q0 : ((n : Int) == 0) = false := by simp; omega
    have q5 : decide ((512 : Int) < (n : Int)) = true := by simp; omega
    have H5 := Lib.hid h5
    clear h5
    go_enter Try.func73, Try.ntmps73
    go_wp2_with (go_at_call 116; (with_reducible refine (psize_any p C cn cc E en ec L ln lc _ HC.out.1 HC.out.2.1 HC.out.2.2 b2 b3).mono ?_); rintro e w1 ⟨rfl, hb1⟩; rw [HN.out])
    go_ret2
    exact ⟨by rw [HE.out, if_neg (by have := H5.out; omega), if_pos H5.out]; rfl, ((Below.refl w.heap.size w).alloc (Nat.le_refl _) _).trans (hb1.mono (by simp))⟩
/-- Put: the packet's bytes, or what is wrong. -/
theorem pput_any (rc : Row w C cn cc 1 4 (u32s p.cs)) (re : Row w E en ec 1 1 (bys p.ex)) (rl : Row w L ln lc 1 1 (bys p.pl)) (ok : p.Ok) (b2 : en ≤ 140737488351232) (b3 : ln ≤ 140737488351232) :
    Calls Try.prog 73 #[.agg #[.bool p.mr, .int .i64 p.ty, .int .u16 p.sq, .int .u32 p.tm, .int .u32 p.ss, .slice C cn cc, .bool p.hx, .int .u16 p.pf, .slice E en ec, .slice L ln lc, .int .i64 p.pad]] w fun e w' =>
      ∃ B k c', e = .returned (.tuple #[.slice B k c', .int .i64 (errP p : Nat)]) ∧ k = (outP p).length ∧ w'.ownsRow w.heap.size 5 1 (.slice B k c') k (bys (outP p)) ∧ Below w.heap.size w w' := by
  have hc : p.cs.length = cn := by have := rc.len; rw [u32s_length] at this; omega
  have he : p.ex.length = en := by have := re.len; rw [bys_length] at this; omega
  have hl : p.pl.length = ln := by have := rl.len; rw [bys_length] at this; omega
  by_cases hz : errP p = 0
  · have ho : outP p = pktL p := by unfold outP; rw [if_pos hz]
    have hk : ∀ {B : Option Addr} {c' : Nat} {w' : World}, w'.ownsRow w.heap.size 5 1 (.slice B (sizeP p) c') (sizeP p) (bys (pktL p)) → sizeP p = (pktL p).length := fun h => by have := h.1; rw [bys_length] at this; omega
    rw [hz, ho]
    cases hx : p.hx
    · refine (pput_f p hx C cn cc E en ec L ln lc w rc re rl ok b2 b3 hz).mono ?_
      rintro e w' ⟨B, c', rfl, h2, h3⟩
      exact ⟨B, _, c', rfl, hk h2, h2, h3⟩
    · refine (pput_t p hx C cn cc E en ec L ln lc w rc re rl ok b2 b3 hz).mono ?_
      rintro e w' ⟨B, c', rfl, h2, h3⟩
      exact ⟨B, _, c', rfl, hk h2, h2, h3⟩
  · have ho : outP p = [] := by unfold outP; rw [if_neg hz]
    rw [ho]
    refine (pput_no p C cn cc E en ec L ln lc w hc he hl b2 b3 hz).mono ?_
    rintro e w' ⟨rfl, hb⟩
    exact ⟨none, 0, 0, rfl, rfl, World.ownsRow_nil _ _ _ _, hb⟩
end
end Go.Proofs.Ytknlkmencdlpcaa
