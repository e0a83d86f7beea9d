/-
The items that bytes are, as the reference reads them; items that are alike.
-/
import Derived.Test.YtaomdinddccpeaaRc9
import Derived.Test.YtaomdinddccpeaaRc3
import Derived.Test.YtaomdinddccpeaaSameItm
namespace Go.Proofs.Ytaomdinddccpeaa
set_option linter.unusedVariables false
set_option linter.unusedSimpArgs false
open Go Go.RowKit

theorem lit_slg (w : World) (g : Nat) (hg : w.heap.size = g) (x : Sl) : Rd (w.alloc (.cells (slV x).toArray 64)) (some ⟨g, 0, none⟩) (slV x) := by
  subst hg
  exact lit_sl w x
theorem rgi_v (A : Option Addr) (n c : Nat) (l : List UInt8) (w : World) (h : Bts w A n c l) (q : Itm) (N E : Nat) (hq : getG l = q) (hN : gN l = N) (hE : gE l = E) :
    Calls Try.prog 57 #[.slice A n c] w fun e w' => ∃ A1 k1 c1 G1 g1 d1 Q1 p1 e1, e = .returned (.tuple #[.agg #[.int .i64 q.k, .int .u32 q.s, .int .u64 q.ntp, .int .u32 q.tm, .int .u32 q.pk, .int .u32 q.oc, .slice A1 k1 c1, .slice G1 g1 d1, .int .u32 q.me, .slice Q1 p1 e1], .int .i64 N, .int .i64 E]) ∧ Hid (SlO w' w.heap.size q A1 k1 c1 G1 g1 d1 Q1 p1 e1) ∧ Below w.heap.size w w' := by
  subst hq hN hE
  exact rgi_any A n c l w h
def accH (fb : Bool) (m k : Nat) (is : List Itm) (l : List UInt8) : Nat × List Itm := if fb = false ∧ m = 0 then (0, is) else accG k is l
theorem acc_next {k m N : Nat} (hk : k < 8) (is : List Itm) {r : List UInt8} (h : gE r = 0) (hN : gL r = N) (hl : r.length = m) : accG k is r = accH false (m - N) (k + 1) (is ++ [getG r]) (r.drop N) := by
  have hb := (getG_back h).2.2.2.2
  unfold accH
  by_cases hm : m = N
  · rw [if_pos ⟨rfl, by omega⟩, acc_last hk is h (by omega)]
  · rw [if_neg (by rintro ⟨_, h2⟩; omega), acc_step hk is h (by omega), hN]
set_option maxRecDepth 20000 in
set_option maxHeartbeats 8000000 in
theorem rgetI_any (A : Option Addr) (n c : Nat) (l : List UInt8) (w : World) (h : Bts w A n c l) :
    Calls Try.prog 37 #[.slice A n c] w fun e w' => RcG l w e w' := by
  have HB := Lib.hid h
  have HLN := Lib.hid h.len
  have hw := Below.refl w.heap.size w
  clear h
  by_cases h5 : 512 < n
  · have HE : Hid (getsE l = 5) := by show _ = _; unfold getsE; rw [if_pos (by rw [HLN.out]; exact h5)]
    go_enter Try.func37, Try.ntmps37
    go_wp2
    go_ret2
    exact rcg_err 5 (by rw [HE.out]; rfl) (by rw [HE.out]; decide) hw
  have HG : Hid (getsE l = (gets 8 l).1 ∧ getsL l = (gets 8 l).2) := by
    have : ¬ 512 < l.length := by rw [HLN.out]; exact h5
    exact ⟨by unfold getsE; rw [if_neg this], by unfold getsL; rw [if_neg this]⟩
  go_enter Try.func37, Try.ntmps37
  go_wp2
  go_loopw [0, 4, 5] (fun s0 s4 s5 wr => ∃ (k m : Nat) (X : Option Addr) (cX : Nat) (A4 : Option Addr) (c4 : Nat) (r : List UInt8) (xs : List Sl) (fb : Bool), s0 = .slice X m cX ∧ s4 = .slice A4 k c4 ∧ s5 = .bool fb ∧ k ≤ 8 ∧ m ≤ 512 ∧ ((fb = true ∧ k = 0) ∨ (fb = false ∧ 1 ≤ k)) ∧ Hid (Bts w X m cX r) ∧ Hid (ItsO wr w.heap.size A4 k c4 xs) ∧ Hid (gets 8 l = accH fb m k (itm xs) r) ∧ Hid (Below w.heap.size w wr)) (fun _ s4 _ _ => 8 - lenV s4)
  case atStart => exact ⟨0, n, A, c, none, 0, l, [], true, rfl, rfl, rfl, by omega, by omega, .inl ⟨rfl, rfl⟩, HB, itso_nil _ _, (by show _ = _; unfold accH; rw [if_neg (by simp)]; exact (acc_start l).symm), hw⟩
  case round =>
    obtain ⟨k, m, X, cX, A4, c4, r, xs, fb, rfl, rfl, rfl, hk8, hm5, hfb, HR, HI, HA, HW⟩ := hrel
    cases fb
    · by_cases hm0 : m = 0
      · subst hm0
        have HE : Hid (getsE l = 0 ∧ itm xs = getsL l) := by
          have ha := HA.out
          unfold accH at ha
          rw [if_pos ⟨rfl, rfl⟩] at ha
          exact ⟨by rw [HG.out.1, ha], by rw [HG.out.2, ha]⟩
        clear hfb
        go_wp2
        go_ret2
        exact ⟨A4, k, c4, xs, by rw [HE.out.1]; rfl, HE.out.2, HI, HW.out⟩
      · have HB2 : Hid (gets 8 l = accG k (itm xs) r) := by
          have ha := HA.out
          unfold accH at ha
          rw [if_neg (by rintro ⟨_, h2⟩; omega)] at ha
          exact ha
        have hm1 : 0 < m := by omega
        have hmI : (0 : Int) < (m : Int) := by omega
        clear hfb hm0
        by_cases hk : k = 8
        · subst hk
          have HE : Hid (getsE l = 3) := by show _ = _; rw [HG.out.1, HB2.out, acc_more]
          go_wp2
          go_ret2
          exact rcg_err 3 (by rw [HE.out]; rfl) (by rw [HE.out]; decide) HW.out
        have hk7 : k < 8 := by omega
        have hkb : ((k : Int) == 8) = false := by simp; omega
        obtain ⟨q, hq⟩ : ∃ q, getG r = q := ⟨_, rfl⟩
        obtain ⟨N, hN⟩ : ∃ N, gN r = N := ⟨_, rfl⟩
        obtain ⟨E, hE⟩ : ∃ E, gE r = E := ⟨_, rfl⟩
        have HV := fun w' h' => rgi_v X m cX r w' h' q N E hq hN hE
        replace HV := Lib.hid HV
        by_cases h0 : E = 0
        · subst h0
          obtain ⟨g1, g2, g3, g4, g5⟩ := getG_back hE
          have hNL : gL r = N := by rw [← hN]; unfold gN; rw [if_pos hE]
          rw [hNL] at g4 g5
          have hlr := HR.out.len
          have hNm : N ≤ m := by omega
          have hnc := HR.out.nc
          have hcm := HR.out.cm
          unfold maxLen at hcm
          have hNc : N ≤ cX := by omega
          have hNmI : (N : Int) ≤ (m : Int) := by omega
          have HQO : Hid (q.Ok) := by rw [← hq]; exact g2
          have HA2 : Hid (gets 8 l = accH false (m - N) (k + 1) (itm xs ++ [q]) (r.drop N)) := HB2.out.trans (by rw [acc_next hk7 (itm xs) hE hNL hlr, hq])
          have HLR := Lib.hid hlr
          have hN8 : 8 ≤ N := g4
          obtain ⟨ad, hX, _⟩ := bts_byte HR.out (k := 0) (by omega)
          subst hX
          clear hq hN hE g1 g2 g3 g4 g5 hNL hlr hk
          by_cases hcN : cX = N
          · obtain rfl : m = N := by omega
            subst hcN
            go_wp2_with (first
              | (go_at_call 57; ((with_reducible refine (HV.out _ (HR.out.below HW.out)).mono ?_); rintro e w2 ⟨A1, k1, c1, G1, g1, d1, Q1, p1, e1, rfl, HO, hb2⟩; have HQ2 := Lib.hid (blk_alloc w2 (.cells #[.int .i64 q.k, .int .u32 q.s, .int .u64 q.ntp, .int .u32 q.tm, .int .u32 q.pk, .int .u32 q.oc, .slice A1 k1 c1, .slice G1 g1 d1, .int .u32 q.me, .slice Q1 p1 e1] 64)); have HW2 := Lib.hid (HW.out.trans (hb2.mono HW.out.size)); have HI2 := Lib.hid (HI.out.below hb2); have HX2 : Hid (SlX w2 w.heap.size ⟨q, A1, k1, c1, G1, g1, d1, Q1, p1, e1⟩) := ⟨own_base HO.out.oa HW.out.size, own_base HO.out.og HW.out.size, own_base HO.out.op HW.out.size⟩; have hbA := (Below.refl w2.heap.size w2).alloc (Nat.le_refl _) (.cells #[.int .i64 q.k, .int .u32 q.s, .int .u64 q.ntp, .int .u32 q.tm, .int .u32 q.pk, .int .u32 q.oc, .slice A1 k1 c1, .slice G1 g1 d1, .int .u32 q.me, .slice Q1 p1 e1] 64); have HW3 := Lib.hid (HW2.out.trans (hbA.mono HW2.out.size)); have HI3 := Lib.hid (HI2.out.below hbA); have HX3 := Lib.hid (slx_below HX2.out hbA); clear hbA; obtain ⟨x0, x1, x2, x3, x4, x5, x6, x7, x8, x9⟩ := ten_cells HQ2.out))
              | (at_builtin; go_loud (refine wpList_app slIt rfl _ _ rfl w.heap.size A4 k c4 (rowI xs) rfl (HI3.out.own.alloc _) (some ⟨w2.heap.size + 1, 0, none⟩) 1 1 (slV ⟨q, A1, k1, c1, G1, g1, d1, Q1, p1, e1⟩) rfl rfl (lit_slg (w2.alloc (.cells #[.int .i64 q.k, .int .u32 q.s, .int .u64 q.ntp, .int .u32 q.tm, .int .u32 q.pk, .int .u32 q.oc, .slice A1 k1 c1, .slice G1 g1 d1, .int .u32 q.me, .slice Q1 p1 e1] 64)) (w2.heap.size + 1) (by simp) ⟨q, A1, k1, c1, G1, g1, d1, Q1, p1, e1⟩) (slV_one ⟨q, A1, k1, c1, G1, g1, d1, Q1, p1, e1⟩) (by omega) (HW3.out.alloc HW3.out.size _).size ?_; intro A5 c5 w5 ho5 hg5 hA5; have hbB := (Below.refl (w2.alloc (.cells #[.int .i64 q.k, .int .u32 q.s, .int .u64 q.ntp, .int .u32 q.tm, .int .u32 q.pk, .int .u32 q.oc, .slice A1 k1 c1, .slice G1 g1 d1, .int .u32 q.me, .slice Q1 p1 e1] 64)).heap.size (w2.alloc (.cells #[.int .i64 q.k, .int .u32 q.s, .int .u64 q.ntp, .int .u32 q.tm, .int .u32 q.pk, .int .u32 q.oc, .slice A1 k1 c1, .slice G1 g1 d1, .int .u32 q.me, .slice Q1 p1 e1] 64))).alloc (Nat.le_refl _) (.cells #[.int .i64 q.k, .int .u32 q.s, .int .u64 q.ntp, .int .u32 q.tm, .int .u32 q.pk, .int .u32 q.oc, .slice A1 k1 c1, .slice G1 g1 d1, .int .u32 q.me, .slice Q1 p1 e1] 64); have HI5 := Lib.hid ((HI3.out.below hbB).app (x := ⟨q, A1, k1, c1, G1, g1, d1, Q1, p1, e1⟩) (slx_below HX3.out hbB) HQO.out ho5 hg5); have HW5 := Lib.hid ((HW3.out.alloc HW3.out.size _).grown hg5 (HW3.out.alloc HW3.out.size _).size (own_from (HI3.out.own.alloc (.cells #[.int .i64 q.k, .int .u32 q.s, .int .u64 q.ntp, .int .u32 q.tm, .int .u32 q.pk, .int .u32 q.oc, .slice A1 k1 c1, .slice G1 g1 d1, .int .u32 q.me, .slice Q1 p1 e1] 64)))); clear ho5 hg5 hA5 hbB)))
            refine ⟨⟨k + 1, 0, some ad, 0, A5, c5, [], _, false, by simp, rfl, rfl, by omega, by omega, .inr ⟨rfl, by omega⟩, ⟨rfl, by omega, by unfold maxLen; omega, Rd.nil _ _⟩, HI5, ?_, HW5⟩, by simp only [lenV]; omega⟩
            show _ = _
            rw [HA2.out, Nat.sub_self, List.drop_of_length_le (by rw [HLR.out]; omega)]
            simp only [itm, List.map_append, List.map_cons, List.map_nil]
          · have HBN : Hid (Bts w (some (ad.add N)) (m - N) (cX - N) (r.drop N)) := by
              have hp := part_rd HR.out N (m - N) (by omega)
              have hl : (r.drop N).take (m - N) = r.drop N := List.take_of_length_le (by rw [List.length_drop, HLR.out]; exact Nat.le_refl _)
              rw [hl] at hp
              exact ⟨by rw [List.length_drop, HLR.out], by omega, by unfold maxLen; omega, hp⟩
            go_wp2_with (first
              | (go_at_call 57; ((with_reducible refine (HV.out _ (HR.out.below HW.out)).mono ?_); rintro e w2 ⟨A1, k1, c1, G1, g1, d1, Q1, p1, e1, rfl, HO, hb2⟩; have HQ2 := Lib.hid (blk_alloc w2 (.cells #[.int .i64 q.k, .int .u32 q.s, .int .u64 q.ntp, .int .u32 q.tm, .int .u32 q.pk, .int .u32 q.oc, .slice A1 k1 c1, .slice G1 g1 d1, .int .u32 q.me, .slice Q1 p1 e1] 64)); have HW2 := Lib.hid (HW.out.trans (hb2.mono HW.out.size)); have HI2 := Lib.hid (HI.out.below hb2); have HX2 : Hid (SlX w2 w.heap.size ⟨q, A1, k1, c1, G1, g1, d1, Q1, p1, e1⟩) := ⟨own_base HO.out.oa HW.out.size, own_base HO.out.og HW.out.size, own_base HO.out.op HW.out.size⟩; have hbA := (Below.refl w2.heap.size w2).alloc (Nat.le_refl _) (.cells #[.int .i64 q.k, .int .u32 q.s, .int .u64 q.ntp, .int .u32 q.tm, .int .u32 q.pk, .int .u32 q.oc, .slice A1 k1 c1, .slice G1 g1 d1, .int .u32 q.me, .slice Q1 p1 e1] 64); have HW3 := Lib.hid (HW2.out.trans (hbA.mono HW2.out.size)); have HI3 := Lib.hid (HI2.out.below hbA); have HX3 := Lib.hid (slx_below HX2.out hbA); clear hbA; obtain ⟨x0, x1, x2, x3, x4, x5, x6, x7, x8, x9⟩ := ten_cells HQ2.out))
              | (at_builtin; go_loud (refine wpList_app slIt rfl _ _ rfl w.heap.size A4 k c4 (rowI xs) rfl (HI3.out.own.alloc _) (some ⟨w2.heap.size + 1, 0, none⟩) 1 1 (slV ⟨q, A1, k1, c1, G1, g1, d1, Q1, p1, e1⟩) rfl rfl (lit_slg (w2.alloc (.cells #[.int .i64 q.k, .int .u32 q.s, .int .u64 q.ntp, .int .u32 q.tm, .int .u32 q.pk, .int .u32 q.oc, .slice A1 k1 c1, .slice G1 g1 d1, .int .u32 q.me, .slice Q1 p1 e1] 64)) (w2.heap.size + 1) (by simp) ⟨q, A1, k1, c1, G1, g1, d1, Q1, p1, e1⟩) (slV_one ⟨q, A1, k1, c1, G1, g1, d1, Q1, p1, e1⟩) (by omega) (HW3.out.alloc HW3.out.size _).size ?_; intro A5 c5 w5 ho5 hg5 hA5; have hbB := (Below.refl (w2.alloc (.cells #[.int .i64 q.k, .int .u32 q.s, .int .u64 q.ntp, .int .u32 q.tm, .int .u32 q.pk, .int .u32 q.oc, .slice A1 k1 c1, .slice G1 g1 d1, .int .u32 q.me, .slice Q1 p1 e1] 64)).heap.size (w2.alloc (.cells #[.int .i64 q.k, .int .u32 q.s, .int .u64 q.ntp, .int .u32 q.tm, .int .u32 q.pk, .int .u32 q.oc, .slice A1 k1 c1, .slice G1 g1 d1, .int .u32 q.me, .slice Q1 p1 e1] 64))).alloc (Nat.le_refl _) (.cells #[.int .i64 q.k, .int .u32 q.s, .int .u64 q.ntp, .int .u32 q.tm, .int .u32 q.pk, .int .u32 q.oc, .slice A1 k1 c1, .slice G1 g1 d1, .int .u32 q.me, .slice Q1 p1 e1] 64); have HI5 := Lib.hid ((HI3.out.below hbB).app (x := ⟨q, A1, k1, c1, G1, g1, d1, Q1, p1, e1⟩) (slx_below HX3.out hbB) HQO.out ho5 hg5); have HW5 := Lib.hid ((HW3.out.alloc HW3.out.size _).grown hg5 (HW3.out.alloc HW3.out.size _).size (own_from (HI3.out.own.alloc (.cells #[.int .i64 q.k, .int .u32 q.s, .int .u64 q.ntp, .int .u32 q.tm, .int .u32 q.pk, .int .u32 q.oc, .slice A1 k1 c1, .slice G1 g1 d1, .int .u32 q.me, .slice Q1 p1 e1] 64)))); clear ho5 hg5 hA5 hbB)))
            refine ⟨⟨k + 1, m - N, some (ad.add N), cX - N, A5, c5, r.drop N, _, false, rfl, rfl, rfl, by omega, by omega, .inr ⟨rfl, by omega⟩, HBN, HI5, ?_, HW5⟩, by simp only [lenV]; omega⟩
            show _ = _
            rw [HA2.out]
            simp only [itm, List.map_append, List.map_cons, List.map_nil]
        · have HE : Hid (getsE l = E) := by show _ = _; rw [HG.out.1, HB2.out, acc_err hk7 _ (by rw [hE]; exact h0), hE]
          have h0b : ((E : Int) != 0) = true := by simp; omega
          have HE0 := Lib.hid h0
          clear hq hN hE hk h0
          go_wp2_with (go_at_call 57; ((with_reducible refine (HV.out _ (HR.out.below HW.out)).mono ?_); rintro e w2 ⟨A1, k1, c1, G1, g1, d1, Q1, p1, e1, rfl, HO, hb2⟩; have HQ2 := Lib.hid (blk_alloc w2 (.cells #[.int .i64 q.k, .int .u32 q.s, .int .u64 q.ntp, .int .u32 q.tm, .int .u32 q.pk, .int .u32 q.oc, .slice A1 k1 c1, .slice G1 g1 d1, .int .u32 q.me, .slice Q1 p1 e1] 64)); have HW2 := Lib.hid (HW.out.trans (hb2.mono HW.out.size)); have HI2 := Lib.hid (HI.out.below hb2); have HX2 : Hid (SlX w2 w.heap.size ⟨q, A1, k1, c1, G1, g1, d1, Q1, p1, e1⟩) := ⟨own_base HO.out.oa HW.out.size, own_base HO.out.og HW.out.size, own_base HO.out.op HW.out.size⟩; have hbA := (Below.refl w2.heap.size w2).alloc (Nat.le_refl _) (.cells #[.int .i64 q.k, .int .u32 q.s, .int .u64 q.ntp, .int .u32 q.tm, .int .u32 q.pk, .int .u32 q.oc, .slice A1 k1 c1, .slice G1 g1 d1, .int .u32 q.me, .slice Q1 p1 e1] 64); have HW3 := Lib.hid (HW2.out.trans (hbA.mono HW2.out.size)); have HI3 := Lib.hid (HI2.out.below hbA); have HX3 := Lib.hid (slx_below HX2.out hbA); clear hbA; obtain ⟨x0, x1, x2, x3, x4, x5, x6, x7, x8, x9⟩ := ten_cells HQ2.out))
          go_ret2
          exact rcg_err E (by rw [HE.out]) (by rw [HE.out]; exact HE0.out) HW3.out
    · have HB2 : Hid (gets 8 l = accG k (itm xs) r) := by
        have ha := HA.out
        unfold accH at ha
        rw [if_neg (by simp)] at ha
        exact ha
      clear hfb
      by_cases hk : k = 8
      · subst hk
        have HE : Hid (getsE l = 3) := by show _ = _; rw [HG.out.1, HB2.out, acc_more]
        go_wp2
        go_ret2
        exact rcg_err 3 (by rw [HE.out]; rfl) (by rw [HE.out]; decide) HW.out
      have hk7 : k < 8 := by omega
      have hkb : ((k : Int) == 8) = false := by simp; omega
      obtain ⟨q, hq⟩ : ∃ q, getG r = q := ⟨_, rfl⟩
      obtain ⟨N, hN⟩ : ∃ N, gN r = N := ⟨_, rfl⟩
      obtain ⟨E, hE⟩ : ∃ E, gE r = E := ⟨_, rfl⟩
      have HV := fun w' h' => rgi_v X m cX r w' h' q N E hq hN hE
      replace HV := Lib.hid HV
      by_cases h0 : E = 0
      · subst h0
        obtain ⟨g1, g2, g3, g4, g5⟩ := getG_back hE
        have hNL : gL r = N := by rw [← hN]; unfold gN; rw [if_pos hE]
        rw [hNL] at g4 g5
        have hlr := HR.out.len
        have hNm : N ≤ m := by omega
        have hnc := HR.out.nc
        have hcm := HR.out.cm
        unfold maxLen at hcm
        have hNc : N ≤ cX := by omega
        have hNmI : (N : Int) ≤ (m : Int) := by omega
        have HQO : Hid (q.Ok) := by rw [← hq]; exact g2
        have HA2 : Hid (gets 8 l = accH false (m - N) (k + 1) (itm xs ++ [q]) (r.drop N)) := HB2.out.trans (by rw [acc_next hk7 (itm xs) hE hNL hlr, hq])
        have HLR := Lib.hid hlr
        have hN8 : 8 ≤ N := g4
        obtain ⟨ad, hX, _⟩ := bts_byte HR.out (k := 0) (by omega)
        subst hX
        clear hq hN hE g1 g2 g3 g4 g5 hNL hlr hk
        by_cases hcN : cX = N
        · obtain rfl : m = N := by omega
          subst hcN
          go_wp2_with (first
            | (go_at_call 57; ((with_reducible refine (HV.out _ (HR.out.below HW.out)).mono ?_); rintro e w2 ⟨A1, k1, c1, G1, g1, d1, Q1, p1, e1, rfl, HO, hb2⟩; have HQ2 := Lib.hid (blk_alloc w2 (.cells #[.int .i64 q.k, .int .u32 q.s, .int .u64 q.ntp, .int .u32 q.tm, .int .u32 q.pk, .int .u32 q.oc, .slice A1 k1 c1, .slice G1 g1 d1, .int .u32 q.me, .slice Q1 p1 e1] 64)); have HW2 := Lib.hid (HW.out.trans (hb2.mono HW.out.size)); have HI2 := Lib.hid (HI.out.below hb2); have HX2 : Hid (SlX w2 w.heap.size ⟨q, A1, k1, c1, G1, g1, d1, Q1, p1, e1⟩) := ⟨own_base HO.out.oa HW.out.size, own_base HO.out.og HW.out.size, own_base HO.out.op HW.out.size⟩; have hbA := (Below.refl w2.heap.size w2).alloc (Nat.le_refl _) (.cells #[.int .i64 q.k, .int .u32 q.s, .int .u64 q.ntp, .int .u32 q.tm, .int .u32 q.pk, .int .u32 q.oc, .slice A1 k1 c1, .slice G1 g1 d1, .int .u32 q.me, .slice Q1 p1 e1] 64); have HW3 := Lib.hid (HW2.out.trans (hbA.mono HW2.out.size)); have HI3 := Lib.hid (HI2.out.below hbA); have HX3 := Lib.hid (slx_below HX2.out hbA); clear hbA; obtain ⟨x0, x1, x2, x3, x4, x5, x6, x7, x8, x9⟩ := ten_cells HQ2.out))
            | (at_builtin; go_loud (refine wpList_app slIt rfl _ _ rfl w.heap.size A4 k c4 (rowI xs) rfl (HI3.out.own.alloc _) (some ⟨w2.heap.size + 1, 0, none⟩) 1 1 (slV ⟨q, A1, k1, c1, G1, g1, d1, Q1, p1, e1⟩) rfl rfl (lit_slg (w2.alloc (.cells #[.int .i64 q.k, .int .u32 q.s, .int .u64 q.ntp, .int .u32 q.tm, .int .u32 q.pk, .int .u32 q.oc, .slice A1 k1 c1, .slice G1 g1 d1, .int .u32 q.me, .slice Q1 p1 e1] 64)) (w2.heap.size + 1) (by simp) ⟨q, A1, k1, c1, G1, g1, d1, Q1, p1, e1⟩) (slV_one ⟨q, A1, k1, c1, G1, g1, d1, Q1, p1, e1⟩) (by omega) (HW3.out.alloc HW3.out.size _).size ?_; intro A5 c5 w5 ho5 hg5 hA5; have hbB := (Below.refl (w2.alloc (.cells #[.int .i64 q.k, .int .u32 q.s, .int .u64 q.ntp, .int .u32 q.tm, .int .u32 q.pk, .int .u32 q.oc, .slice A1 k1 c1, .slice G1 g1 d1, .int .u32 q.me, .slice Q1 p1 e1] 64)).heap.size (w2.alloc (.cells #[.int .i64 q.k, .int .u32 q.s, .int .u64 q.ntp, .int .u32 q.tm, .int .u32 q.pk, .int .u32 q.oc, .slice A1 k1 c1, .slice G1 g1 d1, .int .u32 q.me, .slice Q1 p1 e1] 64))).alloc (Nat.le_refl _) (.cells #[.int .i64 q.k, .int .u32 q.s, .int .u64 q.ntp, .int .u32 q.tm, .int .u32 q.pk, .int .u32 q.oc, .slice A1 k1 c1, .slice G1 g1 d1, .int .u32 q.me, .slice Q1 p1 e1] 64); have HI5 := Lib.hid ((HI3.out.below hbB).app (x := ⟨q, A1, k1, c1, G1, g1, d1, Q1, p1, e1⟩) (slx_below HX3.out hbB) HQO.out ho5 hg5); have HW5 := Lib.hid ((HW3.out.alloc HW3.out.size _).grown hg5 (HW3.out.alloc HW3.out.size _).size (own_from (HI3.out.own.alloc (.cells #[.int .i64 q.k, .int .u32 q.s, .int .u64 q.ntp, .int .u32 q.tm, .int .u32 q.pk, .int .u32 q.oc, .slice A1 k1 c1, .slice G1 g1 d1, .int .u32 q.me, .slice Q1 p1 e1] 64)))); clear ho5 hg5 hA5 hbB)))
          refine ⟨⟨k + 1, 0, some ad, 0, A5, c5, [], _, false, by simp, rfl, rfl, by omega, by omega, .inr ⟨rfl, by omega⟩, ⟨rfl, by omega, by unfold maxLen; omega, Rd.nil _ _⟩, HI5, ?_, HW5⟩, by simp only [lenV]; omega⟩
          show _ = _
          rw [HA2.out, Nat.sub_self, List.drop_of_length_le (by rw [HLR.out]; omega)]
          simp only [itm, List.map_append, List.map_cons, List.map_nil]
        · have HBN : Hid (Bts w (some (ad.add N)) (m - N) (cX - N) (r.drop N)) := by
            have hp := part_rd HR.out N (m - N) (by omega)
            have hl : (r.drop N).take (m - N) = r.drop N := List.take_of_length_le (by rw [List.length_drop, HLR.out]; exact Nat.le_refl _)
            rw [hl] at hp
            exact ⟨by rw [List.length_drop, HLR.out], by omega, by unfold maxLen; omega, hp⟩
          go_wp2_with (first
            | (go_at_call 57; ((with_reducible refine (HV.out _ (HR.out.below HW.out)).mono ?_); rintro e w2 ⟨A1, k1, c1, G1, g1, d1, Q1, p1, e1, rfl, HO, hb2⟩; have HQ2 := Lib.hid (blk_alloc w2 (.cells #[.int .i64 q.k, .int .u32 q.s, .int .u64 q.ntp, .int .u32 q.tm, .int .u32 q.pk, .int .u32 q.oc, .slice A1 k1 c1, .slice G1 g1 d1, .int .u32 q.me, .slice Q1 p1 e1] 64)); have HW2 := Lib.hid (HW.out.trans (hb2.mono HW.out.size)); have HI2 := Lib.hid (HI.out.below hb2); have HX2 : Hid (SlX w2 w.heap.size ⟨q, A1, k1, c1, G1, g1, d1, Q1, p1, e1⟩) := ⟨own_base HO.out.oa HW.out.size, own_base HO.out.og HW.out.size, own_base HO.out.op HW.out.size⟩; have hbA := (Below.refl w2.heap.size w2).alloc (Nat.le_refl _) (.cells #[.int .i64 q.k, .int .u32 q.s, .int .u64 q.ntp, .int .u32 q.tm, .int .u32 q.pk, .int .u32 q.oc, .slice A1 k1 c1, .slice G1 g1 d1, .int .u32 q.me, .slice Q1 p1 e1] 64); have HW3 := Lib.hid (HW2.out.trans (hbA.mono HW2.out.size)); have HI3 := Lib.hid (HI2.out.below hbA); have HX3 := Lib.hid (slx_below HX2.out hbA); clear hbA; obtain ⟨x0, x1, x2, x3, x4, x5, x6, x7, x8, x9⟩ := ten_cells HQ2.out))
            | (at_builtin; go_loud (refine wpList_app slIt rfl _ _ rfl w.heap.size A4 k c4 (rowI xs) rfl (HI3.out.own.alloc _) (some ⟨w2.heap.size + 1, 0, none⟩) 1 1 (slV ⟨q, A1, k1, c1, G1, g1, d1, Q1, p1, e1⟩) rfl rfl (lit_slg (w2.alloc (.cells #[.int .i64 q.k, .int .u32 q.s, .int .u64 q.ntp, .int .u32 q.tm, .int .u32 q.pk, .int .u32 q.oc, .slice A1 k1 c1, .slice G1 g1 d1, .int .u32 q.me, .slice Q1 p1 e1] 64)) (w2.heap.size + 1) (by simp) ⟨q, A1, k1, c1, G1, g1, d1, Q1, p1, e1⟩) (slV_one ⟨q, A1, k1, c1, G1, g1, d1, Q1, p1, e1⟩) (by omega) (HW3.out.alloc HW3.out.size _).size ?_; intro A5 c5 w5 ho5 hg5 hA5; have hbB := (Below.refl (w2.alloc (.cells #[.int .i64 q.k, .int .u32 q.s, .int .u64 q.ntp, .int .u32 q.tm, .int .u32 q.pk, .int .u32 q.oc, .slice A1 k1 c1, .slice G1 g1 d1, .int .u32 q.me, .slice Q1 p1 e1] 64)).heap.size (w2.alloc (.cells #[.int .i64 q.k, .int .u32 q.s, .int .u64 q.ntp, .int .u32 q.tm, .int .u32 q.pk, .int .u32 q.oc, .slice A1 k1 c1, .slice G1 g1 d1, .int .u32 q.me, .slice Q1 p1 e1] 64))).alloc (Nat.le_refl _) (.cells #[.int .i64 q.k, .int .u32 q.s, .int .u64 q.ntp, .int .u32 q.tm, .int .u32 q.pk, .int .u32 q.oc, .slice A1 k1 c1, .slice G1 g1 d1, .int .u32 q.me, .slice Q1 p1 e1] 64); have HI5 := Lib.hid ((HI3.out.below hbB).app (x := ⟨q, A1, k1, c1, G1, g1, d1, Q1, p1, e1⟩) (slx_below HX3.out hbB) HQO.out ho5 hg5); have HW5 := Lib.hid ((HW3.out.alloc HW3.out.size _).grown hg5 (HW3.out.alloc HW3.out.size _).size (own_from (HI3.out.own.alloc (.cells #[.int .i64 q.k, .int .u32 q.s, .int .u64 q.ntp, .int .u32 q.tm, .int .u32 q.pk, .int .u32 q.oc, .slice A1 k1 c1, .slice G1 g1 d1, .int .u32 q.me, .slice Q1 p1 e1] 64)))); clear ho5 hg5 hA5 hbB)))
          refine ⟨⟨k + 1, m - N, some (ad.add N), cX - N, A5, c5, r.drop N, _, false, rfl, rfl, rfl, by omega, by omega, .inr ⟨rfl, by omega⟩, HBN, HI5, ?_, HW5⟩, by simp only [lenV]; omega⟩
          show _ = _
          rw [HA2.out]
          simp only [itm, List.map_append, List.map_cons, List.map_nil]
      · have HE : Hid (getsE l = E) := by show _ = _; rw [HG.out.1, HB2.out, acc_err hk7 _ (by rw [hE]; exact h0), hE]
        have h0b : ((E : Int) != 0) = true := by simp; omega
        have HE0 := Lib.hid h0
        clear hq hN hE hk h0
        go_wp2_with (go_at_call 57; ((with_reducible refine (HV.out _ (HR.out.below HW.out)).mono ?_); rintro e w2 ⟨A1, k1, c1, G1, g1, d1, Q1, p1, e1, rfl, HO, hb2⟩; have HQ2 := Lib.hid (blk_alloc w2 (.cells #[.int .i64 q.k, .int .u32 q.s, .int .u64 q.ntp, .int .u32 q.tm, .int .u32 q.pk, .int .u32 q.oc, .slice A1 k1 c1, .slice G1 g1 d1, .int .u32 q.me, .slice Q1 p1 e1] 64)); have HW2 := Lib.hid (HW.out.trans (hb2.mono HW.out.size)); have HI2 := Lib.hid (HI.out.below hb2); have HX2 : Hid (SlX w2 w.heap.size ⟨q, A1, k1, c1, G1, g1, d1, Q1, p1, e1⟩) := ⟨own_base HO.out.oa HW.out.size, own_base HO.out.og HW.out.size, own_base HO.out.op HW.out.size⟩; have hbA := (Below.refl w2.heap.size w2).alloc (Nat.le_refl _) (.cells #[.int .i64 q.k, .int .u32 q.s, .int .u64 q.ntp, .int .u32 q.tm, .int .u32 q.pk, .int .u32 q.oc, .slice A1 k1 c1, .slice G1 g1 d1, .int .u32 q.me, .slice Q1 p1 e1] 64); have HW3 := Lib.hid (HW2.out.trans (hbA.mono HW2.out.size)); have HI3 := Lib.hid (HI2.out.below hbA); have HX3 := Lib.hid (slx_below HX2.out hbA); clear hbA; obtain ⟨x0, x1, x2, x3, x4, x5, x6, x7, x8, x9⟩ := ten_cells HQ2.out))
        go_ret2
        exact rcg_err E (by rw [HE.out]) (by rw [HE.out]; exact HE0.out) HW3.out
theorem same_v (x y : Sl) (hi : y.i = x.i) (w : World) (hx : SlR w x) (hy : SlR w y) :
    Calls Try.prog 58 #[.agg #[.int .i64 x.i.k, .int .u32 x.i.s, .int .u64 x.i.ntp, .int .u32 x.i.tm, .int .u32 x.i.pk, .int .u32 x.i.oc, .slice x.A x.n x.c, .slice x.G x.gn x.gc, .int .u32 x.i.me, .slice x.P x.pn x.pc], .agg #[.int .i64 y.i.k, .int .u32 y.i.s, .int .u64 y.i.ntp, .int .u32 y.i.tm, .int .u32 y.i.pk, .int .u32 y.i.oc, .slice y.A y.n y.c, .slice y.G y.gn y.gc, .int .u32 y.i.me, .slice y.P y.pn y.pc]] w fun e w' => e = .returned (.bool true) ∧ Below w.heap.size w w' := by
  obtain ⟨i, A, n, c, G, gn, gc, P, pn, pc⟩ := x
  obtain ⟨i', A', n', c', G', gn', gc', P', pn', pc'⟩ := y
  simp only at hi ⊢
  subst hi
  obtain ⟨a1, a2, a3, _⟩ := hx
  obtain ⟨b1, b2, b3, _⟩ := hy
  simp only at a1 a2 a3 b1 b2 b3
  have e1 : n' = n := by have h1 := a1.len; have h2 := b1.len; omega
  have e2 : gn' = gn := by have h1 := a2.len; have h2 := b2.len; omega
  have e3 : pn' = pn := by have h1 := a3.len; have h2 := b3.len; omega
  subst e1 e2 e3
  exact sameItm_any _ A _ c G _ gc P _ pc A' c' G' gc' P' pc' w a1 a2 a3 b1 b2 b3
theorem itm_get {xs ys : List Sl} (h : itm xs = itm ys) {k : Nat} (h1 : k < xs.length) (h2 : k < ys.length) : ys[k].i = xs[k].i := by
  have := congrArg (fun l => l[k]?) h
  simp only [itm, List.getElem?_map, List.getElem?_eq_getElem h1, List.getElem?_eq_getElem h2, Option.map_some] at this
  injection this with this
  exact this.symm
set_option maxRecDepth 20000 in
set_option maxHeartbeats 8000000 in
/-- Items of the same contents are alike. -/
theorem sameIts_any (A : Option Addr) (n c : Nat) (xs : List Sl) (B : Option Addr) (n' d : Nat) (ys : List Sl) (w : World) (hx : Its w A n c xs) (hy : Its w B n' d ys) (h : itm xs = itm ys) :
    Calls Try.prog 38 #[.slice A n c, .slice B n' d] w fun e w' => e = .returned (.bool true) ∧ Below w.heap.size w w' := by
  obtain rfl : n' = n := by
    have h1 := congrArg List.length h
    rw [itm_len, itm_len, hx.len, hy.len] at h1
    exact h1.symm
  have HX := Lib.hid hx
  have HY := Lib.hid hy
  have HH := Lib.hid h
  have m1 := hx.nc
  have m2 := hx.cm
  have m3 := hy.nc
  have m4 := hy.cm
  unfold maxLen at m2 m4
  have HLX := Lib.hid hx.len
  have HLY := Lib.hid hy.len
  have hw := Below.refl w.heap.size w
  clear hx hy h
  go_enter Try.func38, Try.ntmps38
  go_wp2
  go_loopw [13] (fun ix wr => ∃ k : Nat, ix = .int .i64 k ∧ k ≤ n' ∧ Below w.heap.size w wr) (fun ix _ => n' - (intOf ix).toNat)
  case atStart => exact ⟨0, rfl, Nat.zero_le _, hw⟩
  case round =>
    obtain ⟨k, rfl, hkn, hbr⟩ := hrel
    clear hw
    by_cases hlt : k < n'
    · have h1 : k < xs.length := by rw [HLX.out]; exact hlt
      have h2 : k < ys.length := by rw [HLY.out]; exact hlt
      have HI := Lib.hid (itm_get HH.out h1 h2)
      have hbd : Below w.heap.size w wr.drew := hbr.drew
      obtain ⟨ad, rfl, a0, a1, a2, a3, a4, a5, a6, a7, a8, a9⟩ := rd_sl (HX.out.below hbd).rd h1
      obtain ⟨ae, rfl, e0, e1, e2, e3, e4, e5, e6, e7, e8, e9⟩ := rd_sl (HY.out.below hbd).rd h2
      have HRX := Lib.hid ((HX.out.below hbd).rows _ (List.getElem_mem h1))
      have HRY := Lib.hid ((HY.out.below hbd).rows _ (List.getElem_mem h2))
      generalize xs[k] = x at *
      generalize ys[k] = y at *
      go_wp2
      refine region_planA (calmB_sound _) (.leaf [0, 1, 2, 3, 4, 5, 6, 7, 8, 9]) (by kernel_rfl) (by kernel_rfl) (by kernel_rfl) ?_
      generalize wr.drew = wd at *
      refine wpPlan_leaf fun P1 hP1 => ?_
      simp only [List.filterMap_cons, List.filterMap_nil, List.getElem?_toArray, List.getElem?_cons_succ, List.getElem?_cons_zero]
      change wpList _ _ _ [_, _, _, _, _, _, _, _, _, _] _ _
      go_wp2_with ((go_at_call 58; ((with_reducible refine (same_v x y HI.out _ HRX.out HRY.out).mono ?_); rintro e w2 ⟨rfl, hb2⟩)))
      go_wp2
      exact ⟨⟨k + 1, rfl, by omega, hbd.trans (hb2.mono hbd.size)⟩, by simp [intOf]; omega⟩
    · go_wp2
      go_ret
      exact ⟨rfl, hbr⟩
end Go.Proofs.Ytaomdinddccpeaa
