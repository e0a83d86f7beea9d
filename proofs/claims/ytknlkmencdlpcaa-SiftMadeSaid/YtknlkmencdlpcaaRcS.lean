/-
The items that bytes are, as the reference reads them; items that are alike.
What shown of law 9 tells.
The contracts of rtcp's reference, with what they tell as it is needed.
-/
import Derived.Test.YtknlkmencdlpcaaRc9
import Derived.Test.YtknlkmencdlpcaaRc3
import Derived.Test.YtknlkmencdlpcaaSameItm
import Derived.Test.YtknlkmencdlpcaaFrame
import Derived.Test.YtknlkmencdlpcaaItsFrame
namespace Go.Proofs.Ytknlkmencdlpcaa
set_option linter.unusedVariables false
set_option linter.unusedSimpArgs false
open Go Go.RowKit

theorem lit_slg (w : World) (g : Nat) (hg : w.heap.size = g) (x : Sl) : Rd (w.alloc (.cells (slV x).toArray 54)) (some ⟨g, 0, none⟩) (slV x) := by
  subst hg
  exact lit_sl w x
theorem rgi_v (A : Option Addr) (n c : Nat) (l : List UInt8) (w : World) (h : Bts w A n c l) (q : Itm) (N E : Nat) (hq : getG l = q) (hN : gN l = N) (hE : gE l = E) :
    Calls Try.prog 94 #[.slice A n c] w fun e w' => ∃ A1 k1 c1 G1 g1 d1 Q1 p1 e1, e = .returned (.tuple #[.agg #[.int .i64 q.k, .int .u32 q.s, .int .u64 q.ntp, .int .u32 q.tm, .int .u32 q.pk, .int .u32 q.oc, .slice A1 k1 c1, .slice G1 g1 d1, .int .u32 q.me, .slice Q1 p1 e1], .int .i64 N, .int .i64 E]) ∧ Hid (SlO w' w.heap.size q A1 k1 c1 G1 g1 d1 Q1 p1 e1) ∧ Below w.heap.size w w' := by
  subst hq hN hE
  exact rgi_any A n c l w h
def accH (fb : Bool) (m k : Nat) (is : List Itm) (l : List UInt8) : Nat × List Itm := if fb = false ∧ m = 0 then (0, is) else accG k is l
theorem acc_next {k m N : Nat} (hk : k < 8) (is : List Itm) {r : List UInt8} (h : gE r = 0) (hN : gL r = N) (hl : r.length = m) : accG k is r = accH false (m - N) (k + 1) (is ++ [getG r]) (r.drop N) := by
  have hb := (getG_back h).2.2.2.2
  unfold accH
  by_cases hm : m = N
  · rw [if_pos ⟨rfl, by omega⟩, acc_last hk is h (by omega)]
  · rw [if_neg (by rintro ⟨_, h2⟩; omega), acc_step hk is h (by omega), hN]
set_option maxRecDepth 20000 in
set_option maxHeartbeats 8000000 in
theorem rgetI_any (A : Option Addr) (n c : Nat) (l : List UInt8) (w : World) (h : Bts w A n c l) :
    Calls Try.prog 35 #[.slice A n c] w fun e w' => RcG l w e w' := by
  have HB := Lib.hid h
  have HLN := Lib.hid h.len
  have hw := Below.refl w.heap.size w
  clear h
  by_cases h5 : 512 < n
  · have HE : Hid (getsE l = 5) := by show _ = _; unfold getsE; rw [if_pos (by rw [HLN.out]; exact h5)]
    go_enter Try.func35, Try.ntmps35
    go_wp2
    go_ret2
    exact rcg_err 5 (by rw [HE.out]; rfl) (by rw [HE.out]; decide) hw
  have HG : Hid (getsE l = (gets 8 l).1 ∧ getsL l = (gets 8 l).2) := by
    have : ¬ 512 < l.length := by rw [HLN.out]; exact h5
    exact ⟨by unfold getsE; rw [if_neg this], by unfold getsL; rw [if_neg this]⟩
  go_enter Try.func35, Try.ntmps35
  go_wp2
  go_loopw [0, 4, 5] (fun s0 s4 s5 wr => ∃ (k m : Nat) (X : Option Addr) (cX : Nat) (A4 : Option Addr) (c4 : Nat) (r : List UInt8) (xs : List Sl) (fb : Bool), s0 = .slice X m cX ∧ s4 = .slice A4 k c4 ∧ s5 = .bool fb ∧ k ≤ 8 ∧ m ≤ 512 ∧ ((fb = true ∧ k = 0) ∨ (fb = false ∧ 1 ≤ k)) ∧ Hid (Bts w X m cX r) ∧ Hid (ItsO wr w.heap.size A4 k c4 xs) ∧ Hid (gets 8 l = accH fb m k (itm xs) r) ∧ Hid (Below w.heap.size w wr)) (fun _ s4 _ _ => 8 - lenV s4)
  case atStart => exact ⟨0, n, A, c, none, 0, l, [], true, rfl, rfl, rfl, by omega, by omega, .inl ⟨rfl, rfl⟩, HB, itso_nil _ _, (by show _ = _; unfold accH; rw [if_neg (by simp)]; exact (acc_start l).symm), hw⟩
  case round =>
    obtain ⟨k, m, X, cX, A4, c4, r, xs, fb, rfl, rfl, rfl, hk8, hm5, hfb, HR, HI, HA, HW⟩ := hrel
    cases fb
    · by_cases hm0 : m = 0
      · subst hm0
        have HE : Hid (getsE l = 0 ∧ itm xs = getsL l) := by
          have ha := HA.out
          unfold accH at ha
          rw [if_pos ⟨rfl, rfl⟩] at ha
          exact ⟨by rw [HG.out.1, ha], by rw [HG.out.2, ha]⟩
        clear hfb
        go_wp2
        go_ret2
        exact ⟨A4, k, c4, xs, by rw [HE.out.1]; rfl, HE.out.2, HI, HW.out⟩
      · have HB2 : Hid (gets 8 l = accG k (itm xs) r) := by
          have ha := HA.out
          unfold accH at ha
          rw [if_neg (by rintro ⟨_, h2⟩; omega)] at ha
          exact ha
        have hm1 : 0 < m := by omega
        have hmI : (0 : Int) < (m : Int) := by omega
        clear hfb hm0
        by_cases hk : k = 8
        · subst hk
          have HE : Hid (getsE l = 3) := by show _ = _; rw [HG.out.1, HB2.out, acc_more]
          go_wp2
          go_ret2
          exact rcg_err 3 (by rw [HE.out]; rfl) (by rw [HE.out]; decide) HW.out
        have hk7 : k < 8 := by omega
        have hkb : ((k : Int) == 8) = false := by simp; omega
        obtain ⟨q, hq⟩ : ∃ q, getG r = q := ⟨_, rfl⟩
        obtain ⟨N, hN⟩ : ∃ N, gN r = N := ⟨_, rfl⟩
        obtain ⟨E, hE⟩ : ∃ E, gE r = E := ⟨_, rfl⟩
        have HV := fun w' h' => rgi_v X m cX r w' h' q N E hq hN hE
        replace HV := Lib.hid HV
        by_cases h0 : E = 0
        · subst h0
          obtain ⟨g1, g2, g3, g4, g5⟩ := getG_back hE
          have hNL : gL r = N := by rw [← hN]; unfold gN; rw [if_pos hE]
          rw [hNL] at g4 g5
          have hlr := HR.out.len
          have hNm : N ≤ m := by omega
          have hnc := HR.out.nc
          have hcm := HR.out.cm
          unfold maxLen at hcm
          have hNc : N ≤ cX := by omega
          have hNmI : (N : Int) ≤ (m : Int) := by omega
          have HQO : Hid (q.Ok) := by rw [← hq]; exact g2
          have HA2 : Hid (gets 8 l = accH false (m - N) (k + 1) (itm xs ++ [q]) (r.drop N)) := HB2.out.trans (by rw [acc_next hk7 (itm xs) hE hNL hlr, hq])
          have HLR := Lib.hid hlr
          have hN8 : 8 ≤ N := g4
          obtain ⟨ad, hX, _⟩ := bts_byte HR.out (k := 0) (by omega)
          subst hX
          clear hq hN hE g1 g2 g3 g4 g5 hNL hlr hk
          by_cases hcN : cX = N
          · obtain rfl : m = N := by omega
            subst hcN
            go_wp2_with (first
              | (go_at_call 94; ((with_reducible refine (HV.out _ (HR.out.below HW.out)).mono ?_); rintro e w2 ⟨A1, k1, c1, G1, g1, d1, Q1, p1, e1, rfl, HO, hb2⟩; have HQ2 := Lib.hid (blk_alloc w2 (.cells #[.int .i64 q.k, .int .u32 q.s, .int .u64 q.ntp, .int .u32 q.tm, .int .u32 q.pk, .int .u32 q.oc, .slice A1 k1 c1, .slice G1 g1 d1, .int .u32 q.me, .slice Q1 p1 e1] 54)); have HW2 := Lib.hid (HW.out.trans (hb2.mono HW.out.size)); have HI2 := Lib.hid (HI.out.below hb2); have HX2 : Hid (SlX w2 w.heap.size ⟨q, A1, k1, c1, G1, g1, d1, Q1, p1, e1⟩) := ⟨own_base HO.out.oa HW.out.size, own_base HO.out.og HW.out.size, own_base HO.out.op HW.out.size⟩; have hbA := (Below.refl w2.heap.size w2).alloc (Nat.le_refl _) (.cells #[.int .i64 q.k, .int .u32 q.s, .int .u64 q.ntp, .int .u32 q.tm, .int .u32 q.pk, .int .u32 q.oc, .slice A1 k1 c1, .slice G1 g1 d1, .int .u32 q.me, .slice Q1 p1 e1] 54); have HW3 := Lib.hid (HW2.out.trans (hbA.mono HW2.out.size)); have HI3 := Lib.hid (HI2.out.below hbA); have HX3 := Lib.hid (slx_below HX2.out hbA); clear hbA; obtain ⟨x0, x1, x2, x3, x4, x5, x6, x7, x8, x9⟩ := ten_cells HQ2.out))
              | (at_builtin; go_loud (refine wpList_app slIt rfl _ _ rfl w.heap.size A4 k c4 (rowI xs) rfl (HI3.out.own.alloc _) (some ⟨w2.heap.size + 1, 0, none⟩) 1 1 (slV ⟨q, A1, k1, c1, G1, g1, d1, Q1, p1, e1⟩) rfl rfl (lit_slg (w2.alloc (.cells #[.int .i64 q.k, .int .u32 q.s, .int .u64 q.ntp, .int .u32 q.tm, .int .u32 q.pk, .int .u32 q.oc, .slice A1 k1 c1, .slice G1 g1 d1, .int .u32 q.me, .slice Q1 p1 e1] 54)) (w2.heap.size + 1) (by simp) ⟨q, A1, k1, c1, G1, g1, d1, Q1, p1, e1⟩) (slV_one ⟨q, A1, k1, c1, G1, g1, d1, Q1, p1, e1⟩) (by omega) (HW3.out.alloc HW3.out.size _).size ?_; intro A5 c5 w5 ho5 hg5 hA5; have hbB := (Below.refl (w2.alloc (.cells #[.int .i64 q.k, .int .u32 q.s, .int .u64 q.ntp, .int .u32 q.tm, .int .u32 q.pk, .int .u32 q.oc, .slice A1 k1 c1, .slice G1 g1 d1, .int .u32 q.me, .slice Q1 p1 e1] 54)).heap.size (w2.alloc (.cells #[.int .i64 q.k, .int .u32 q.s, .int .u64 q.ntp, .int .u32 q.tm, .int .u32 q.pk, .int .u32 q.oc, .slice A1 k1 c1, .slice G1 g1 d1, .int .u32 q.me, .slice Q1 p1 e1] 54))).alloc (Nat.le_refl _) (.cells #[.int .i64 q.k, .int .u32 q.s, .int .u64 q.ntp, .int .u32 q.tm, .int .u32 q.pk, .int .u32 q.oc, .slice A1 k1 c1, .slice G1 g1 d1, .int .u32 q.me, .slice Q1 p1 e1] 54); have HI5 := Lib.hid ((HI3.out.below hbB).app (x := ⟨q, A1, k1, c1, G1, g1, d1, Q1, p1, e1⟩) (slx_below HX3.out hbB) HQO.out ho5 hg5); have HW5 := Lib.hid ((HW3.out.alloc HW3.out.size _).grown hg5 (HW3.out.alloc HW3.out.size _).size (own_from (HI3.out.own.alloc (.cells #[.int .i64 q.k, .int .u32 q.s, .int .u64 q.ntp, .int .u32 q.tm, .int .u32 q.pk, .int .u32 q.oc, .slice A1 k1 c1, .slice G1 g1 d1, .int .u32 q.me, .slice Q1 p1 e1] 54)))); clear ho5 hg5 hA5 hbB)))
            refine ⟨⟨k + 1, 0, some ad, 0, A5, c5, [], _, false, by simp, rfl, rfl, by omega, by omega, .inr ⟨rfl, by omega⟩, ⟨rfl, by omega, by unfold maxLen; omega, Rd.nil _ _⟩, HI5, ?_, HW5⟩, by simp only [lenV]; omega⟩
            show _ = _
            rw [HA2.out, Nat.sub_self, List.drop_of_length_le (by rw [HLR.out]; omega)]
            simp only [itm, List.map_append, List.map_cons, List.map_nil]
          · have HBN : Hid (Bts w (some (ad.add N)) (m - N) (cX - N) (r.drop N)) := by
              have hp := part_rd HR.out N (m - N) (by omega)
              have hl : (r.drop N).take (m - N) = r.drop N := List.take_of_length_le (by rw [List.length_drop, HLR.out]; exact Nat.le_refl _)
              rw [hl] at hp
              exact ⟨by rw [List.length_drop, HLR.out], by omega, by unfold maxLen; omega, hp⟩
            go_wp2_with (first
              | (go_at_call 94; ((with_reducible refine (HV.out _ (HR.out.below HW.out)).mono ?_); rintro e w2 ⟨A1, k1, c1, G1, g1, d1, Q1, p1, e1, rfl, HO, hb2⟩; have HQ2 := Lib.hid (blk_alloc w2 (.cells #[.int .i64 q.k, .int .u32 q.s, .int .u64 q.ntp, .int .u32 q.tm, .int .u32 q.pk, .int .u32 q.oc, .slice A1 k1 c1, .slice G1 g1 d1, .int .u32 q.me, .slice Q1 p1 e1] 54)); have HW2 := Lib.hid (HW.out.trans (hb2.mono HW.out.size)); have HI2 := Lib.hid (HI.out.below hb2); have HX2 : Hid (SlX w2 w.heap.size ⟨q, A1, k1, c1, G1, g1, d1, Q1, p1, e1⟩) := ⟨own_base HO.out.oa HW.out.size, own_base HO.out.og HW.out.size, own_base HO.out.op HW.out.size⟩; have hbA := (Below.refl w2.heap.size w2).alloc (Nat.le_refl _) (.cells #[.int .i64 q.k, .int .u32 q.s, .int .u64 q.ntp, .int .u32 q.tm, .int .u32 q.pk, .int .u32 q.oc, .slice A1 k1 c1, .slice G1 g1 d1, .int .u32 q.me, .slice Q1 p1 e1] 54); have HW3 := Lib.hid (HW2.out.trans (hbA.mono HW2.out.size)); have HI3 := Lib.hid (HI2.out.below hbA); have HX3 := Lib.hid (slx_below HX2.out hbA); clear hbA; obtain ⟨x0, x1, x2, x3, x4, x5, x6, x7, x8, x9⟩ := ten_cells HQ2.out))
              | (at_builtin; go_loud (refine wpList_app slIt rfl _ _ rfl w.heap.size A4 k c4 (rowI xs) rfl (HI3.out.own.alloc _) (some ⟨w2.heap.size + 1, 0, none⟩) 1 1 (slV ⟨q, A1, k1, c1, G1, g1, d1, Q1, p1, e1⟩) rfl rfl (lit_slg (w2.alloc (.cells #[.int .i64 q.k, .int .u32 q.s, .int .u64 q.ntp, .int .u32 q.tm, .int .u32 q.pk, .int .u32 q.oc, .slice A1 k1 c1, .slice G1 g1 d1, .int .u32 q.me, .slice Q1 p1 e1] 54)) (w2.heap.size + 1) (by simp) ⟨q, A1, k1, c1, G1, g1, d1, Q1, p1, e1⟩) (slV_one ⟨q, A1, k1, c1, G1, g1, d1, Q1, p1, e1⟩) (by omega) (HW3.out.alloc HW3.out.size _).size ?_; intro A5 c5 w5 ho5 hg5 hA5; have hbB := (Below.refl (w2.alloc (.cells #[.int .i64 q.k, .int .u32 q.s, .int .u64 q.ntp, .int .u32 q.tm, .int .u32 q.pk, .int .u32 q.oc, .slice A1 k1 c1, .slice G1 g1 d1, .int .u32 q.me, .slice Q1 p1 e1] 54)).heap.size (w2.alloc (.cells #[.int .i64 q.k, .int .u32 q.s, .int .u64 q.ntp, .int .u32 q.tm, .int .u32 q.pk, .int .u32 q.oc, .slice A1 k1 c1, .slice G1 g1 d1, .int .u32 q.me, .slice Q1 p1 e1] 54))).alloc (Nat.le_refl _) (.cells #[.int .i64 q.k, .int .u32 q.s, .int .u64 q.ntp, .int .u32 q.tm, .int .u32 q.pk, .int .u32 q.oc, .slice A1 k1 c1, .slice G1 g1 d1, .int .u32 q.me, .slice Q1 p1 e1] 54); have HI5 := Lib.hid ((HI3.out.below hbB).app (x := ⟨q, A1, k1, c1, G1, g1, d1, Q1, p1, e1⟩) (slx_below HX3.out hbB) HQO.out ho5 hg5); have HW5 := Lib.hid ((HW3.out.alloc HW3.out.size _).grown hg5 (HW3.out.alloc HW3.out.size _).size (own_from (HI3.out.own.alloc (.cells #[.int .i64 q.k, .int .u32 q.s, .int .u64 q.ntp, .int .u32 q.tm, .int .u32 q.pk, .int .u32 q.oc, .slice A1 k1 c1, .slice G1 g1 d1, .int .u32 q.me, .slice Q1 p1 e1] 54)))); clear ho5 hg5 hA5 hbB)))
            refine ⟨⟨k + 1, m - N, some (ad.add N), cX - N, A5, c5, r.drop N, _, false, rfl, rfl, rfl, by omega, by omega, .inr ⟨rfl, by omega⟩, HBN, HI5, ?_, HW5⟩, by simp only [lenV]; omega⟩
            show _ = _
            rw [HA2.out]
            simp only [itm, List.map_append, List.map_cons, List.map_nil]
        · have HE : Hid (getsE l = E) := by show _ = _; rw [HG.out.1, HB2.out, acc_err hk7 _ (by rw [hE]; exact h0), hE]
          have h0b : ((E : Int) != 0) = true := by simp; omega
          have HE0 := Lib.hid h0
          clear hq hN hE hk h0
          go_wp2_with (go_at_call 94; ((with_reducible refine (HV.out _ (HR.out.below HW.out)).mono ?_); rintro e w2 ⟨A1, k1, c1, G1, g1, d1, Q1, p1, e1, rfl, HO, hb2⟩; have HQ2 := Lib.hid (blk_alloc w2 (.cells #[.int .i64 q.k, .int .u32 q.s, .int .u64 q.ntp, .int .u32 q.tm, .int .u32 q.pk, .int .u32 q.oc, .slice A1 k1 c1, .slice G1 g1 d1, .int .u32 q.me, .slice Q1 p1 e1] 54)); have HW2 := Lib.hid (HW.out.trans (hb2.mono HW.out.size)); have HI2 := Lib.hid (HI.out.below hb2); have HX2 : Hid (SlX w2 w.heap.size ⟨q, A1, k1, c1, G1, g1, d1, Q1, p1, e1⟩) := ⟨own_base HO.out.oa HW.out.size, own_base HO.out.og HW.out.size, own_base HO.out.op HW.out.size⟩; have hbA := (Below.refl w2.heap.size w2).alloc (Nat.le_refl _) (.cells #[.int .i64 q.k, .int .u32 q.s, .int .u64 q.ntp, .int .u32 q.tm, .int .u32 q.pk, .int .u32 q.oc, .slice A1 k1 c1, .slice G1 g1 d1, .int .u32 q.me, .slice Q1 p1 e1] 54); have HW3 := Lib.hid (HW2.out.trans (hbA.mono HW2.out.size)); have HI3 := Lib.hid (HI2.out.below hbA); have HX3 := Lib.hid (slx_below HX2.out hbA); clear hbA; obtain ⟨x0, x1, x2, x3, x4, x5, x6, x7, x8, x9⟩ := ten_cells HQ2.out))
          go_ret2
          exact rcg_err E (by rw [HE.out]) (by rw [HE.out]; exact HE0.out) HW3.out
    · have HB2 : Hid (gets 8 l = accG k (itm xs) r) := by
        have ha := HA.out
        unfold accH at ha
        rw [if_neg (by simp)] at ha
        exact ha
      clear hfb
      by_cases hk : k = 8
      · subst hk
        have HE : Hid (getsE l = 3) := by show _ = _; rw [HG.out.1, HB2.out, acc_more]
        go_wp2
        go_ret2
        exact rcg_err 3 (by rw [HE.out]; rfl) (by rw [HE.out]; decide) HW.out
      have hk7 : k < 8 := by omega
      have hkb : ((k : Int) == 8) = false := by simp; omega
      obtain ⟨q, hq⟩ : ∃ q, getG r = q := ⟨_, rfl⟩
      obtain ⟨N, hN⟩ : ∃ N, gN r = N := ⟨_, rfl⟩
      obtain ⟨E, hE⟩ : ∃ E, gE r = E := ⟨_, rfl⟩
      have HV := fun w' h' => rgi_v X m cX r w' h' q N E hq hN hE
      replace HV := Lib.hid HV
      by_cases h0 : E = 0
      · subst h0
        obtain ⟨g1, g2, g3, g4, g5⟩ := getG_back hE
        have hNL : gL r = N := by rw [← hN]; unfold gN; rw [if_pos hE]
        rw [hNL] at g4 g5
        have hlr := HR.out.len
        have hNm : N ≤ m := by omega
        have hnc := HR.out.nc
        have hcm := HR.out.cm
        unfold maxLen at hcm
        have hNc : N ≤ cX := by omega
        have hNmI : (N : Int) ≤ (m : Int) := by omega
        have HQO : Hid (q.Ok) := by rw [← hq]; exact g2
        have HA2 : Hid (gets 8 l = accH false (m - N) (k + 1) (itm xs ++ [q]) (r.drop N)) := HB2.out.trans (by rw [acc_next hk7 (itm xs) hE hNL hlr, hq])
        have HLR := Lib.hid hlr
        have hN8 : 8 ≤ N := g4
        obtain ⟨ad, hX, _⟩ := bts_byte HR.out (k := 0) (by omega)
        subst hX
        clear hq hN hE g1 g2 g3 g4 g5 hNL hlr hk
        by_cases hcN : cX = N
        · obtain rfl : m = N := by omega
          subst hcN
          go_wp2_with (first
            | (go_at_call 94; ((with_reducible refine (HV.out _ (HR.out.below HW.out)).mono ?_); rintro e w2 ⟨A1, k1, c1, G1, g1, d1, Q1, p1, e1, rfl, HO, hb2⟩; have HQ2 := Lib.hid (blk_alloc w2 (.cells #[.int .i64 q.k, .int .u32 q.s, .int .u64 q.ntp, .int .u32 q.tm, .int .u32 q.pk, .int .u32 q.oc, .slice A1 k1 c1, .slice G1 g1 d1, .int .u32 q.me, .slice Q1 p1 e1] 54)); have HW2 := Lib.hid (HW.out.trans (hb2.mono HW.out.size)); have HI2 := Lib.hid (HI.out.below hb2); have HX2 : Hid (SlX w2 w.heap.size ⟨q, A1, k1, c1, G1, g1, d1, Q1, p1, e1⟩) := ⟨own_base HO.out.oa HW.out.size, own_base HO.out.og HW.out.size, own_base HO.out.op HW.out.size⟩; have hbA := (Below.refl w2.heap.size w2).alloc (Nat.le_refl _) (.cells #[.int .i64 q.k, .int .u32 q.s, .int .u64 q.ntp, .int .u32 q.tm, .int .u32 q.pk, .int .u32 q.oc, .slice A1 k1 c1, .slice G1 g1 d1, .int .u32 q.me, .slice Q1 p1 e1] 54); have HW3 := Lib.hid (HW2.out.trans (hbA.mono HW2.out.size)); have HI3 := Lib.hid (HI2.out.below hbA); have HX3 := Lib.hid (slx_below HX2.out hbA); clear hbA; obtain ⟨x0, x1, x2, x3, x4, x5, x6, x7, x8, x9⟩ := ten_cells HQ2.out))
            | (at_builtin; go_loud (refine wpList_app slIt rfl _ _ rfl w.heap.size A4 k c4 (rowI xs) rfl (HI3.out.own.alloc _) (some ⟨w2.heap.size + 1, 0, none⟩) 1 1 (slV ⟨q, A1, k1, c1, G1, g1, d1, Q1, p1, e1⟩) rfl rfl (lit_slg (w2.alloc (.cells #[.int .i64 q.k, .int .u32 q.s, .int .u64 q.ntp, .int .u32 q.tm, .int .u32 q.pk, .int .u32 q.oc, .slice A1 k1 c1, .slice G1 g1 d1, .int .u32 q.me, .slice Q1 p1 e1] 54)) (w2.heap.size + 1) (by simp) ⟨q, A1, k1, c1, G1, g1, d1, Q1, p1, e1⟩) (slV_one ⟨q, A1, k1, c1, G1, g1, d1, Q1, p1, e1⟩) (by omega) (HW3.out.alloc HW3.out.size _).size ?_; intro A5 c5 w5 ho5 hg5 hA5; have hbB := (Below.refl (w2.alloc (.cells #[.int .i64 q.k, .int .u32 q.s, .int .u64 q.ntp, .int .u32 q.tm, .int .u32 q.pk, .int .u32 q.oc, .slice A1 k1 c1, .slice G1 g1 d1, .int .u32 q.me, .slice Q1 p1 e1] 54)).heap.size (w2.alloc (.cells #[.int .i64 q.k, .int .u32 q.s, .int .u64 q.ntp, .int .u32 q.tm, .int .u32 q.pk, .int .u32 q.oc, .slice A1 k1 c1, .slice G1 g1 d1, .int .u32 q.me, .slice Q1 p1 e1] 54))).alloc (Nat.le_refl _) (.cells #[.int .i64 q.k, .int .u32 q.s, .int .u64 q.ntp, .int .u32 q.tm, .int .u32 q.pk, .int .u32 q.oc, .slice A1 k1 c1, .slice G1 g1 d1, .int .u32 q.me, .slice Q1 p1 e1] 54); have HI5 := Lib.hid ((HI3.out.below hbB).app (x := ⟨q, A1, k1, c1, G1, g1, d1, Q1, p1, e1⟩) (slx_below HX3.out hbB) HQO.out ho5 hg5); have HW5 := Lib.hid ((HW3.out.alloc HW3.out.size _).grown hg5 (HW3.out.alloc HW3.out.size _).size (own_from (HI3.out.own.alloc (.cells #[.int .i64 q.k, .int .u32 q.s, .int .u64 q.ntp, .int .u32 q.tm, .int .u32 q.pk, .int .u32 q.oc, .slice A1 k1 c1, .slice G1 g1 d1, .int .u32 q.me, .slice Q1 p1 e1] 54)))); clear ho5 hg5 hA5 hbB)))
          refine ⟨⟨k + 1, 0, some ad, 0, A5, c5, [], _, false, by simp, rfl, rfl, by omega, by omega, .inr ⟨rfl, by omega⟩, ⟨rfl, by omega, by unfold maxLen; omega, Rd.nil _ _⟩, HI5, ?_, HW5⟩, by simp only [lenV]; omega⟩
          show _ = _
          rw [HA2.out, Nat.sub_self, List.drop_of_length_le (by rw [HLR.out]; omega)]
          simp only [itm, List.map_append, List.map_cons, List.map_nil]
        · have HBN : Hid (Bts w (some (ad.add N)) (m - N) (cX - N) (r.drop N)) := by
            have hp := part_rd HR.out N (m - N) (by omega)
            have hl : (r.drop N).take (m - N) = r.drop N := List.take_of_length_le (by rw [List.length_drop, HLR.out]; exact Nat.le_refl _)
            rw [hl] at hp
            exact ⟨by rw [List.length_drop, HLR.out], by omega, by unfold maxLen; omega, hp⟩
          go_wp2_with (first
            | (go_at_call 94; ((with_reducible refine (HV.out _ (HR.out.below HW.out)).mono ?_); rintro e w2 ⟨A1, k1, c1, G1, g1, d1, Q1, p1, e1, rfl, HO, hb2⟩; have HQ2 := Lib.hid (blk_alloc w2 (.cells #[.int .i64 q.k, .int .u32 q.s, .int .u64 q.ntp, .int .u32 q.tm, .int .u32 q.pk, .int .u32 q.oc, .slice A1 k1 c1, .slice G1 g1 d1, .int .u32 q.me, .slice Q1 p1 e1] 54)); have HW2 := Lib.hid (HW.out.trans (hb2.mono HW.out.size)); have HI2 := Lib.hid (HI.out.below hb2); have HX2 : Hid (SlX w2 w.heap.size ⟨q, A1, k1, c1, G1, g1, d1, Q1, p1, e1⟩) := ⟨own_base HO.out.oa HW.out.size, own_base HO.out.og HW.out.size, own_base HO.out.op HW.out.size⟩; have hbA := (Below.refl w2.heap.size w2).alloc (Nat.le_refl _) (.cells #[.int .i64 q.k, .int .u32 q.s, .int .u64 q.ntp, .int .u32 q.tm, .int .u32 q.pk, .int .u32 q.oc, .slice A1 k1 c1, .slice G1 g1 d1, .int .u32 q.me, .slice Q1 p1 e1] 54); have HW3 := Lib.hid (HW2.out.trans (hbA.mono HW2.out.size)); have HI3 := Lib.hid (HI2.out.below hbA); have HX3 := Lib.hid (slx_below HX2.out hbA); clear hbA; obtain ⟨x0, x1, x2, x3, x4, x5, x6, x7, x8, x9⟩ := ten_cells HQ2.out))
            | (at_builtin; go_loud (refine wpList_app slIt rfl _ _ rfl w.heap.size A4 k c4 (rowI xs) rfl (HI3.out.own.alloc _) (some ⟨w2.heap.size + 1, 0, none⟩) 1 1 (slV ⟨q, A1, k1, c1, G1, g1, d1, Q1, p1, e1⟩) rfl rfl (lit_slg (w2.alloc (.cells #[.int .i64 q.k, .int .u32 q.s, .int .u64 q.ntp, .int .u32 q.tm, .int .u32 q.pk, .int .u32 q.oc, .slice A1 k1 c1, .slice G1 g1 d1, .int .u32 q.me, .slice Q1 p1 e1] 54)) (w2.heap.size + 1) (by simp) ⟨q, A1, k1, c1, G1, g1, d1, Q1, p1, e1⟩) (slV_one ⟨q, A1, k1, c1, G1, g1, d1, Q1, p1, e1⟩) (by omega) (HW3.out.alloc HW3.out.size _).size ?_; intro A5 c5 w5 ho5 hg5 hA5; have hbB := (Below.refl (w2.alloc (.cells #[.int .i64 q.k, .int .u32 q.s, .int .u64 q.ntp, .int .u32 q.tm, .int .u32 q.pk, .int .u32 q.oc, .slice A1 k1 c1, .slice G1 g1 d1, .int .u32 q.me, .slice Q1 p1 e1] 54)).heap.size (w2.alloc (.cells #[.int .i64 q.k, .int .u32 q.s, .int .u64 q.ntp, .int .u32 q.tm, .int .u32 q.pk, .int .u32 q.oc, .slice A1 k1 c1, .slice G1 g1 d1, .int .u32 q.me, .slice Q1 p1 e1] 54))).alloc (Nat.le_refl _) (.cells #[.int .i64 q.k, .int .u32 q.s, .int .u64 q.ntp, .int .u32 q.tm, .int .u32 q.pk, .int .u32 q.oc, .slice A1 k1 c1, .slice G1 g1 d1, .int .u32 q.me, .slice Q1 p1 e1] 54); have HI5 := Lib.hid ((HI3.out.below hbB).app (x := ⟨q, A1, k1, c1, G1, g1, d1, Q1, p1, e1⟩) (slx_below HX3.out hbB) HQO.out ho5 hg5); have HW5 := Lib.hid ((HW3.out.alloc HW3.out.size _).grown hg5 (HW3.out.alloc HW3.out.size _).size (own_from (HI3.out.own.alloc (.cells #[.int .i64 q.k, .int .u32 q.s, .int .u64 q.ntp, .int .u32 q.tm, .int .u32 q.pk, .int .u32 q.oc, .slice A1 k1 c1, .slice G1 g1 d1, .int .u32 q.me, .slice Q1 p1 e1] 54)))); clear ho5 hg5 hA5 hbB)))
          refine ⟨⟨k + 1, m - N, some (ad.add N), cX - N, A5, c5, r.drop N, _, false, rfl, rfl, rfl, by omega, by omega, .inr ⟨rfl, by omega⟩, HBN, HI5, ?_, HW5⟩, by simp only [lenV]; omega⟩
          show _ = _
          rw [HA2.out]
          simp only [itm, List.map_append, List.map_cons, List.map_nil]
      · have HE : Hid (getsE l = E) := by show _ = _; rw [HG.out.1, HB2.out, acc_err hk7 _ (by rw [hE]; exact h0), hE]
        have h0b : ((E : Int) != 0) = true := by simp; omega
        have HE0 := Lib.hid h0
        clear hq hN hE hk h0
        go_wp2_with (go_at_call 94; ((with_reducible refine (HV.out _ (HR.out.below HW.out)).mono ?_); rintro e w2 ⟨A1, k1, c1, G1, g1, d1, Q1, p1, e1, rfl, HO, hb2⟩; have HQ2 := Lib.hid (blk_alloc w2 (.cells #[.int .i64 q.k, .int .u32 q.s, .int .u64 q.ntp, .int .u32 q.tm, .int .u32 q.pk, .int .u32 q.oc, .slice A1 k1 c1, .slice G1 g1 d1, .int .u32 q.me, .slice Q1 p1 e1] 54)); have HW2 := Lib.hid (HW.out.trans (hb2.mono HW.out.size)); have HI2 := Lib.hid (HI.out.below hb2); have HX2 : Hid (SlX w2 w.heap.size ⟨q, A1, k1, c1, G1, g1, d1, Q1, p1, e1⟩) := ⟨own_base HO.out.oa HW.out.size, own_base HO.out.og HW.out.size, own_base HO.out.op HW.out.size⟩; have hbA := (Below.refl w2.heap.size w2).alloc (Nat.le_refl _) (.cells #[.int .i64 q.k, .int .u32 q.s, .int .u64 q.ntp, .int .u32 q.tm, .int .u32 q.pk, .int .u32 q.oc, .slice A1 k1 c1, .slice G1 g1 d1, .int .u32 q.me, .slice Q1 p1 e1] 54); have HW3 := Lib.hid (HW2.out.trans (hbA.mono HW2.out.size)); have HI3 := Lib.hid (HI2.out.below hbA); have HX3 := Lib.hid (slx_below HX2.out hbA); clear hbA; obtain ⟨x0, x1, x2, x3, x4, x5, x6, x7, x8, x9⟩ := ten_cells HQ2.out))
        go_ret2
        exact rcg_err E (by rw [HE.out]) (by rw [HE.out]; exact HE0.out) HW3.out
theorem same_v (x y : Sl) (hi : y.i = x.i) (w : World) (hx : SlR w x) (hy : SlR w y) :
    Calls Try.prog 95 #[.agg #[.int .i64 x.i.k, .int .u32 x.i.s, .int .u64 x.i.ntp, .int .u32 x.i.tm, .int .u32 x.i.pk, .int .u32 x.i.oc, .slice x.A x.n x.c, .slice x.G x.gn x.gc, .int .u32 x.i.me, .slice x.P x.pn x.pc], .agg #[.int .i64 y.i.k, .int .u32 y.i.s, .int .u64 y.i.ntp, .int .u32 y.i.tm, .int .u32 y.i.pk, .int .u32 y.i.oc, .slice y.A y.n y.c, .slice y.G y.gn y.gc, .int .u32 y.i.me, .slice y.P y.pn y.pc]] w fun e w' => e = .returned (.bool true) ∧ Below w.heap.size w w' := by
  obtain ⟨i, A, n, c, G, gn, gc, P, pn, pc⟩ := x
  obtain ⟨i', A', n', c', G', gn', gc', P', pn', pc'⟩ := y
  simp only at hi ⊢
  subst hi
  obtain ⟨a1, a2, a3, _⟩ := hx
  obtain ⟨b1, b2, b3, _⟩ := hy
  simp only at a1 a2 a3 b1 b2 b3
  have e1 : n' = n := by have h1 := a1.len; have h2 := b1.len; omega
  have e2 : gn' = gn := by have h1 := a2.len; have h2 := b2.len; omega
  have e3 : pn' = pn := by have h1 := a3.len; have h2 := b3.len; omega
  subst e1 e2 e3
  exact sameItm_any _ A _ c G _ gc P _ pc A' c' G' gc' P' pc' w a1 a2 a3 b1 b2 b3
theorem itm_get {xs ys : List Sl} (h : itm xs = itm ys) {k : Nat} (h1 : k < xs.length) (h2 : k < ys.length) : ys[k].i = xs[k].i := by
  have := congrArg (fun l => l[k]?) h
  simp only [itm, List.getElem?_map, List.getElem?_eq_getElem h1, List.getElem?_eq_getElem h2, Option.map_some] at this
  injection this with this
  exact this.symm
set_option maxRecDepth 20000 in
set_option maxHeartbeats 8000000 in
/-- Items of the same contents are alike. -/
theorem sameIts_any (A : Option Addr) (n c : Nat) (xs : List Sl) (B : Option Addr) (n' d : Nat) (ys : List Sl) (w : World) (hx : Its w A n c xs) (hy : Its w B n' d ys) (h : itm xs = itm ys) :
    Calls Try.prog 36 #[.slice A n c, .slice B n' d] w fun e w' => e = .returned (.bool true) ∧ Below w.heap.size w w' := by
  obtain rfl : n' = n := by
    have h1 := congrArg List.length h
    rw [itm_len, itm_len, hx.len, hy.len] at h1
    exact h1.symm
  have HX := Lib.hid hx
  have HY := Lib.hid hy
  have HH := Lib.hid h
  have m1 := hx.nc
  have m2 := hx.cm
  have m3 := hy.nc
  have m4 := hy.cm
  unfold maxLen at m2 m4
  have HLX := Lib.hid hx.len
  have HLY := Lib.hid hy.len
  have hw := Below.refl w.heap.size w
  clear hx hy h
  go_enter Try.func36, Try.ntmps36
  go_wp2
  go_loopw [13] (fun ix wr => ∃ k : Nat, ix = .int .i64 k ∧ k ≤ n' ∧ Below w.heap.size w wr) (fun ix _ => n' - (intOf ix).toNat)
  case atStart => exact ⟨0, rfl, Nat.zero_le _, hw⟩
  case round =>
    obtain ⟨k, rfl, hkn, hbr⟩ := hrel
    clear hw
    by_cases hlt : k < n'
    · have h1 : k < xs.length := by rw [HLX.out]; exact hlt
      have h2 : k < ys.length := by rw [HLY.out]; exact hlt
      have HI := Lib.hid (itm_get HH.out h1 h2)
      have hbd : Below w.heap.size w wr.drew := hbr.drew
      obtain ⟨ad, rfl, a0, a1, a2, a3, a4, a5, a6, a7, a8, a9⟩ := rd_sl (HX.out.below hbd).rd h1
      obtain ⟨ae, rfl, e0, e1, e2, e3, e4, e5, e6, e7, e8, e9⟩ := rd_sl (HY.out.below hbd).rd h2
      have HRX := Lib.hid ((HX.out.below hbd).rows _ (List.getElem_mem h1))
      have HRY := Lib.hid ((HY.out.below hbd).rows _ (List.getElem_mem h2))
      generalize xs[k] = x at *
      generalize ys[k] = y at *
      go_wp2
      refine region_planA (calmB_sound _) (.leaf [0, 1, 2, 3, 4, 5, 6, 7, 8, 9]) (by kernel_rfl) (by kernel_rfl) (by kernel_rfl) ?_
      generalize wr.drew = wd at *
      refine wpPlan_leaf fun P1 hP1 => ?_
      simp only [List.filterMap_cons, List.filterMap_nil, List.getElem?_toArray, List.getElem?_cons_succ, List.getElem?_cons_zero]
      change wpList _ _ _ [_, _, _, _, _, _, _, _, _, _] _ _
      go_wp2_with ((go_at_call 95; ((with_reducible refine (same_v x y HI.out _ HRX.out HRY.out).mono ?_); rintro e w2 ⟨rfl, hb2⟩)))
      go_wp2
      exact ⟨⟨k + 1, rfl, by omega, hbd.trans (hb2.mono hbd.size)⟩, by simp [intOf]; omega⟩
    · go_wp2
      go_ret
      exact ⟨rfl, hbr⟩
end Go.Proofs.Ytknlkmencdlpcaa

namespace Go.Proofs.Ytknlkmencdlpcaa
set_option linter.unusedVariables false
set_option linter.unusedSimpArgs false
open Go Go.RowKit

def shI : Itm := ⟨203, 0, 0, 0, 0, 0, [], [5], 0, []⟩
def shJ : Itm := ⟨206, 1, 0, 0, 0, 0, [], [], 2, []⟩
def shL : List UInt8 := [129, 203, 0, 1, 0, 0, 0, 5, 129, 206, 0, 2, 0, 0, 0, 1, 0, 0, 0, 2]
theorem shI_ok : shI.Ok := ⟨by decide, by decide, by decide, by decide, by decide, by decide, (by intro b hb; cases hb), (by intro b hb; simp [shI] at hb; subst hb; decide), by decide, (by intro b hb; cases hb)⟩
theorem shJ_ok : shJ.Ok := ⟨by decide, by decide, by decide, by decide, by decide, by decide, (by intro b hb; cases hb), (by intro b hb; cases hb), by decide, (by intro b hb; cases hb)⟩
theorem own_btsR {w : World} {base : Nat} {A : Option Addr} {n c : Nat} {l : List UInt8} (h : w.ownsRow base 5 1 (.slice A n c) n (bys l)) : Bts w A n c l := by
  have hc := own_cap h
  have hl : l.length = n := by have := h.1; rw [bys_length] at this; omega
  exact ⟨hl, hc.1, hc.2, Rd.own h⟩
theorem sh_puts : putsE [shI, shJ] = 0 ∧ putsL [shI, shJ] = shL ∧ sizG [shI, shJ] = 20 ∧ getsE shL = 0 ∧ getsL shL = [shI, shJ] ∧ mayG shI = true := by
  have h1 : putsE [shI, shJ] = 0 := by decide +kernel
  have h2 : putsL [shI, shJ] = shL := by decide +kernel
  have hok : ∀ i ∈ [shI, shJ], i.Ok := by
    intro i hi
    simp only [List.mem_cons, List.not_mem_nil, or_false] at hi
    rcases hi with rfl | rfl
    · exact shI_ok
    · exact shJ_ok
  have h3 := gets_puts h1 hok
  rw [h2] at h3
  exact ⟨h1, h2, by decide +kernel, h3.1, h3.2, by decide +kernel⟩
theorem sh_its (w : World) : Its ((w.alloc (.cells #[.int .u32 5] 24)).alloc (.cells #[.int .i64 203, .int .u32 0, .int .u64 0, .int .u32 0, .int .u32 0, .int .u32 0, .slice none 0 0, .slice (some ⟨w.heap.size, 0, none⟩) 1 1, .int .u32 0, .slice none 0 0, .int .i64 206, .int .u32 1, .int .u64 0, .int .u32 0, .int .u32 0, .int .u32 0, .slice none 0 0, .slice none 0 0, .int .u32 2, .slice none 0 0] 54)) (some ⟨w.heap.size + 1, 0, none⟩) 2 2 [⟨shI, none, 0, 0, some ⟨w.heap.size, 0, none⟩, 1, 1, none, 0, 0⟩, ⟨shJ, none, 0, 0, none, 0, 0, none, 0, 0⟩] := by
  have hT := two_newR w (.cells #[.int .u32 5] 24) (.cells #[.int .i64 203, .int .u32 0, .int .u64 0, .int .u32 0, .int .u32 0, .int .u32 0, .slice none 0 0, .slice (some ⟨w.heap.size, 0, none⟩) 1 1, .int .u32 0, .slice none 0 0, .int .i64 206, .int .u32 1, .int .u64 0, .int .u32 0, .int .u32 0, .int .u32 0, .slice none 0 0, .slice none 0 0, .int .u32 2, .slice none 0 0] 54)
  refine ⟨rfl, by omega, by unfold maxLen; omega, ?_, ?_⟩
  · intro j u hu
    refine ⟨_, rfl, ?_⟩
    rw [add_lit, cell_of_row _ _ _ _ _ _ hT.2.2, ← hu]
    simp [rowI, slV, shI, shJ]
  · intro x hx
    simp only [List.mem_cons, List.not_mem_nil, or_false] at hx
    rcases hx with rfl | rfl
    · refine ⟨rowB_nil _ _ _, ⟨rfl, Nat.le_refl 1, (by show 1 ≤ maxLen; unfold maxLen; omega), (fun h => by cases h), ?_⟩, rowB_nil _ _ _, ?_⟩
      · intro j u hu
        refine ⟨_, rfl, ?_⟩
        rw [add_lit, cell_of_row _ _ _ _ _ _ hT.2.1, ← hu]
        simp [u32s, shI]
      · exact shI_ok
    · refine ⟨rowB_nil _ _ _, rowB_nil _ _ _, rowB_nil _ _ _, ?_⟩
      exact shJ_ok
/-- Two items that were read: the cells that shown looks at. -/
theorem sh_cells {w : World} {base : Nat} {A : Option Addr} {k c : Nat} {xs : List Sl} (h : ItsO w base A k c xs) (hi : itm xs = [shI, shJ]) : k = 2 ∧ ∃ (g : Nat) (x : Sl), A = some ⟨g, 0, none⟩ ∧ SlR w x ∧ x.i = shI ∧ w.cell? ⟨g, 18, none⟩ = some (.int .u32 2) ∧
    w.cell? ⟨g, 0, none⟩ = some (.int .i64 203) ∧ w.cell? ⟨g, 1, none⟩ = some (.int .u32 0) ∧ w.cell? ⟨g, 2, none⟩ = some (.int .u64 0) ∧ w.cell? ⟨g, 3, none⟩ = some (.int .u32 0) ∧ w.cell? ⟨g, 4, none⟩ = some (.int .u32 0) ∧ w.cell? ⟨g, 5, none⟩ = some (.int .u32 0) ∧
    w.cell? ⟨g, 6, none⟩ = some (.slice x.A x.n x.c) ∧ w.cell? ⟨g, 7, none⟩ = some (.slice x.G x.gn x.gc) ∧ w.cell? ⟨g, 8, none⟩ = some (.int .u32 0) ∧ w.cell? ⟨g, 9, none⟩ = some (.slice x.P x.pn x.pc) := by
  have hl := congrArg List.length hi
  rw [itm_len, h.len] at hl
  have hk : k = 2 := hl
  subst hk
  match xs, h, hi with
  | [x, y], h, hi =>
    simp only [itm, List.map_cons, List.map_nil, List.cons.injEq, and_true] at hi
    obtain ⟨hx, hy⟩ := hi
    obtain ⟨g, cap, hv, _⟩ := h.own.form (by omega)
    injection hv with hA
    subst hA
    have hc := fun j u hu => h.own.cells (g := g) rfl j u hu
    refine ⟨rfl, g, x, rfl, h.its.rows x (by simp), hx, ?_, ?_, ?_, ?_, ?_, ?_, ?_, ?_, ?_, ?_, ?_⟩
    · exact hc 18 _ (by simp [rowI, slV, hy, shJ])
    · exact hc 0 _ (by simp [rowI, slV, hx, shI])
    · exact hc 1 _ (by simp [rowI, slV, hx, shI])
    · exact hc 2 _ (by simp [rowI, slV, hx, shI])
    · exact hc 3 _ (by simp [rowI, slV, hx, shI])
    · exact hc 4 _ (by simp [rowI, slV, hx, shI])
    · exact hc 5 _ (by simp [rowI, slV, hx, shI])
    · exact hc 6 _ (by simp [rowI, slV])
    · exact hc 7 _ (by simp [rowI, slV])
    · exact hc 8 _ (by simp [rowI, slV, hx, shI])
    · exact hc 9 _ (by simp [rowI, slV])
theorem may_sh {w : World} (x : Sl) (hi : x.i = shI) (h : SlR w x) :
    Calls Try.prog 30 #[.agg #[.int .i64 203, .int .u32 0, .int .u64 0, .int .u32 0, .int .u32 0, .int .u32 0, .slice x.A x.n x.c, .slice x.G x.gn x.gc, .int .u32 0, .slice x.P x.pn x.pc]] w fun e w' => e = .returned (.bool true) ∧ Below w.heap.size w w' := by
  have := rcmay_any x.i x.A x.n x.c x.G x.gn x.gc x.P x.pn x.pc w h.ra h.rg h.rp
  rw [hi, sh_puts.2.2.2.2.2] at this
  exact this
/-- The three contracts, with what they tell as it is needed. -/
theorem rcput_v (A : Option Addr) (n c : Nat) (xs : List Sl) (w : World) (h : Its w A n c xs) (hn : n ≤ 140737488351232) (l : List UInt8) (Z : Int) (m : Nat) (hZ : Z = (putsE (itm xs) : Nat)) (hl : putsL (itm xs) = l) (hm : l.length = m) :
    Calls Try.prog 28 #[.slice A n c] w fun e w' => ∃ B c', e = .returned (.tuple #[.slice B m c', .int .i64 Z]) ∧ w'.ownsRow w.heap.size 5 1 (.slice B m c') m (bys l) ∧ Below w.heap.size w w' := by
  refine (rcput_any A n c xs w h hn).mono ?_
  rintro e w' ⟨B, m', c', rfl, hm', ho, hb⟩
  rw [hl] at ho
  have : m' = m := by rw [hm', hl, hm]
  subst this
  exact ⟨B, c', by rw [hZ], ho, hb⟩
theorem rcget_v (A : Option Addr) (n c : Nat) (l : List UInt8) (w : World) (h : Bts w A n c l) (is : List Itm) (Z : Int) (k : Nat) (hZ : Z = (getsE l : Nat)) (hl : getsL l = is) (hk : is.length = k) :
    Calls Try.prog 34 #[.slice A n c] w fun e w' => ∃ A cA xs, e = .returned (.tuple #[.slice A k cA, .int .i64 Z]) ∧ Hid (itm xs = is) ∧ Hid (ItsO w' w.heap.size A k cA xs) ∧ Below w.heap.size w w' := by
  refine (rcget_any A n c l w h).mono ?_
  rintro e w' ⟨A, k', cA, xs, rfl, hi, ho, hb⟩
  rw [hl] at hi
  have : k' = k := by rw [← ho.len, ← itm_len, hi, hk]
  subst this
  exact ⟨A, cA, xs, by rw [hZ], hi, ho, hb⟩
theorem rcsizes_v (A : Option Addr) (n c : Nat) (xs : List Sl) (w : World) (h : Its w A n c xs) (hn : n ≤ 140737488351232) (Z : Int) (hZ : Z = (sizG (itm xs) : Nat)) :
    Calls Try.prog 32 #[.slice A n c] w fun e w' => e = .returned (.int .i64 Z) ∧ Below w.heap.size w w' := by
  rw [hZ]
  exact rcsizes_any A n c xs w h hn
set_option maxRecDepth 20000 in
set_option maxHeartbeats 8000000 in
theorem shown9_any (w : World) : Calls Try.prog 27 #[] w fun e w' => e = .returned (.bool true) ∧ Below w.heap.size w w' := by
  have HI := Lib.hid (sh_its w)
  have HW : Hid (Below w.heap.size w ((w.alloc (.cells #[.int .u32 5] 24)).alloc (.cells #[.int .i64 203, .int .u32 0, .int .u64 0, .int .u32 0, .int .u32 0, .int .u32 0, .slice none 0 0, .slice (some ⟨w.heap.size, 0, none⟩) 1 1, .int .u32 0, .slice none 0 0, .int .i64 206, .int .u32 1, .int .u64 0, .int .u32 0, .int .u32 0, .int .u32 0, .slice none 0 0, .slice none 0 0, .int .u32 2, .slice none 0 0] 54))) := (two_newR w _ _).1
  have HP : Hid (((0 : Int) = (putsE (itm [⟨shI, none, 0, 0, some ⟨w.heap.size, 0, none⟩, 1, 1, none, 0, 0⟩, ⟨shJ, none, 0, 0, none, 0, 0, none, 0, 0⟩]) : Nat)) ∧ putsL (itm [⟨shI, none, 0, 0, some ⟨w.heap.size, 0, none⟩, 1, 1, none, 0, 0⟩, ⟨shJ, none, 0, 0, none, 0, 0, none, 0, 0⟩]) = shL ∧ ((20 : Int) = (sizG (itm [⟨shI, none, 0, 0, some ⟨w.heap.size, 0, none⟩, 1, 1, none, 0, 0⟩, ⟨shJ, none, 0, 0, none, 0, 0, none, 0, 0⟩]) : Nat)) ∧ ((0 : Int) = (getsE shL : Nat)) ∧ getsL shL = [shI, shJ]) := by
    have h := sh_puts
    refine ⟨?_, h.2.1, ?_, ?_, h.2.2.2.2.1⟩
    · rw [show itm [⟨shI, none, 0, 0, some ⟨w.heap.size, 0, none⟩, 1, 1, none, 0, 0⟩, ⟨shJ, none, 0, 0, none, 0, 0, none, 0, 0⟩] = [shI, shJ] from rfl, h.1]; rfl
    · rw [show itm [⟨shI, none, 0, 0, some ⟨w.heap.size, 0, none⟩, 1, 1, none, 0, 0⟩, ⟨shJ, none, 0, 0, none, 0, 0, none, 0, 0⟩] = [shI, shJ] from rfl, h.2.2.1]; rfl
    · rw [h.2.2.2.1]; rfl
  go_enter Try.func27, Try.ntmps27
  go_wp2_with (first
    | (go_at_call 28; go_loud ((with_reducible refine (rcput_v _ 2 2 [⟨shI, none, 0, 0, some ⟨w.heap.size, 0, none⟩, 1, 1, none, 0, 0⟩, ⟨shJ, none, 0, 0, none, 0, 0, none, 0, 0⟩] _ HI.out (by omega) shL 0 20 HP.out.1 HP.out.2.1 (by decide)).mono ?_); rintro e w2 ⟨B, c2, rfl, ho2, hb2⟩; have HO2 := Lib.hid ho2; clear ho2; have HW2 := Lib.hid (HW.out.trans (hb2.mono HW.out.size)); have HI2 := Lib.hid (HI.out.below hb2)))
    | (go_at_call 34; go_loud ((with_reducible refine (rcget_v B 20 c2 shL _ (own_btsR HO2.out) [shI, shJ] 0 2 HP.out.2.2.2.1 HP.out.2.2.2.2 (by decide)).mono ?_); rintro e w3 ⟨A3, c3, xs, rfl, hi3, ho3, hb3⟩; have HW3 := Lib.hid (HW2.out.trans (hb3.mono HW2.out.size)); have HI3 := Lib.hid (HI2.out.below hb3); have k1 := cv_own (HO2.out.kept (own_below hb3) (own_none _)); obtain ⟨_, g, x, rfl, hxr, hxi, y18, y0, y1, y2, y3, y4, y5, y6, y7, y8, y9⟩ := sh_cells ho3.out hi3.out; have HX := Lib.hid (And.intro ho3 hi3); clear ho3 hi3; have hc2 : (1 : Int) < 2 := (by decide); have h02 : 0 < 2 := (by decide)))
    | (go_at_call 32; go_loud ((with_reducible refine (rcsizes_v _ 2 2 [⟨shI, none, 0, 0, some ⟨w.heap.size, 0, none⟩, 1, 1, none, 0, 0⟩, ⟨shJ, none, 0, 0, none, 0, 0, none, 0, 0⟩] _ HI3.out (by omega) 20 HP.out.2.2.1).mono ?_); rintro e w4 ⟨rfl, hb4⟩; have HW4 := Lib.hid (HW3.out.trans (hb4.mono HW3.out.size)); obtain ⟨_, g', x', hgg, hxr', hxi', z18, z0, z1, z2, z3, z4, z5, z6, z7, z8, z9⟩ := sh_cells (HX.out.1.out.below hb4) HX.out.2.out; injection hgg with hgg; injection hgg with hgg; subst hgg))
    | (go_at_call 30; go_loud ((with_reducible refine (may_sh x' hxi' hxr').mono ?_); rintro e w5 ⟨rfl, hb5⟩)))
  go_ret
  exact ⟨rfl, HW4.out.trans (hb5.mono HW4.out.size)⟩
end Go.Proofs.Ytknlkmencdlpcaa

namespace Go.Proofs.Ytknlkmencdlpcaa
set_option linter.unusedVariables false
set_option linter.unusedSimpArgs false
open Go Go.RowKit

theorem rgetI_v (A : Option Addr) (n c : Nat) (l : List UInt8) (w : World) (h : Bts w A n c l) (is : List Itm) (Z : Int) (k : Nat) (hZ : Z = (getsE l : Nat)) (hl : getsL l = is) (hk : is.length = k) :
    Calls Try.prog 35 #[.slice A n c] w fun e w' => ∃ A cA xs, e = .returned (.tuple #[.slice A k cA, .int .i64 Z]) ∧ Hid (itm xs = is) ∧ Hid (ItsO w' w.heap.size A k cA xs) ∧ Below w.heap.size w w' := by
  refine (rgetI_any A n c l w h).mono ?_
  rintro e w' ⟨A, k', cA, xs, rfl, hi, ho, hb⟩
  rw [hl] at hi
  have : k' = k := by rw [← ho.len, ← itm_len, hi, hk]
  subst this
  exact ⟨A, cA, xs, by rw [hZ], hi, ho, hb⟩
theorem rputI_v (A : Option Addr) (n c : Nat) (xs : List Sl) (w : World) (h : Its w A n c xs) (hn : n ≤ 140737488351232) (l : List UInt8) (Z : Int) (m : Nat) (hZ : Z = (putsE (itm xs) : Nat)) (hl : putsL (itm xs) = l) (hm : l.length = m) :
    Calls Try.prog 29 #[.slice A n c] w fun e w' => ∃ B c', e = .returned (.tuple #[.slice B m c', .int .i64 Z]) ∧ w'.ownsRow w.heap.size 5 1 (.slice B m c') m (bys l) ∧ Below w.heap.size w w' := by
  refine (rputI_any A n c xs w h hn).mono ?_
  rintro e w' ⟨B, m', c', rfl, hm', ho, hb⟩
  rw [hl] at ho
  have : m' = m := by rw [hm', hl, hm]
  subst this
  exact ⟨B, c', by rw [hZ], ho, hb⟩
theorem rsizeI_v (A : Option Addr) (n c : Nat) (xs : List Sl) (w : World) (h : Its w A n c xs) (hn : n ≤ 140737488351232) (Z : Int) (hZ : Z = (sizG (itm xs) : Nat)) :
    Calls Try.prog 33 #[.slice A n c] w fun e w' => e = .returned (.int .i64 Z) ∧ Below w.heap.size w w' := by
  rw [hZ]
  exact rsizeI_any A n c xs w h hn
theorem puts_cases (l : List Itm) : putsE l = 0 ∨ putsE l = 1 ∨ (putsE l = 5 ∧ 512 < sizG l) := by
  unfold putsE
  split
  · exact .inr (.inl rfl)
  · split
    · rename_i h; exact .inr (.inr ⟨rfl, h⟩)
    · exact .inl rfl
end Go.Proofs.Ytknlkmencdlpcaa
