/-
BatchPlays: any calls with up to eight packets: the results of Add and Flush, and Len, Full, Held and the store's slots after each call, are those of the reference. For every number, all packets and every list of calls, of which the first eighty are made.
-/
import Derived.Test.YtknlkmencdlpcaaBp1
import Derived.Test.YtknlkmencdlpcaaWrFrame
import Derived.Test.YtknlkmencdlpcaaStP

import Derived.Deep.CutBlock

namespace Go.Proofs.Ytknlkmencdlpcaa
set_option linter.unusedVariables false
set_option linter.unusedSimpArgs false
open Go Go.RowKit

theorem s8_new (w : World) : Calls Try.prog 38 #[.int .i64 8] w fun e w' => ∃ P, e = .returned (.pointer (some ⟨P, 0, none⟩)) ∧
      Sto w' w.heap.size (fun k => w.heap.size ≤ k ∧ k < w'.heap.size) P 8 (List.replicate 8 (1, 0)) (fun _ => []) ∧ Below w.heap.size w w' := snew_any 8 w (by omega)
theorem r8_new (w : World) : Calls Try.prog 39 #[.int .i64 8] w fun e w' => ∃ P, e = .returned (.pointer (some ⟨P, 0, none⟩)) ∧
      Rto w' w.heap.size (fun k => w.heap.size ≤ k ∧ k < w'.heap.size) P 8 (List.replicate 8 (1, 0)) (fun _ => []) ∧ Below w.heap.size w w' := Rto.new 8 w (by omega)
theorem i64_and_mask (n : Int) (j : Nat) (M : Int) (h127 : (BitVec.ofInt 64 M).toNat = 2 ^ j - 1) (hj : j ≤ 16) : bits .and .i64 n M = n % (2 ^ j : Nat) := by
  have key : (BitVec.ofInt 64 n &&& BitVec.ofInt 64 M).toNat = (n % ((2 ^ 64 : Nat) : Int)).toNat % 2 ^ j := by
    rw [BitVec.toNat_and, BitVec.toNat_ofInt, h127, Nat.and_two_pow_sub_one_eq_mod]
  show IntKind.i64.wrap ((BitVec.ofInt 64 n &&& BitVec.ofInt 64 M).toNat : Nat) = _
  rw [key, IntKind.wrap_i64]
  have : j = 0 ∨ j = 1 ∨ j = 2 ∨ j = 3 ∨ j = 4 ∨ j = 5 ∨ j = 6 ∨ j = 7 ∨ j = 8 ∨ j = 9 ∨ j = 10 ∨ j = 11 ∨ j = 12 ∨ j = 13 ∨ j = 14 ∨ j = 15 ∨ j = 16 := by omega
  rcases this with rfl | rfl | rfl | rfl | rfl | rfl | rfl | rfl | rfl | rfl | rfl | rfl | rfl | rfl | rfl | rfl | rfl <;> simp only [Nat.reducePow, Int.reducePow] <;> omega
theorem i64_and_65535 (n : Int) : bits .and .i64 n 65535 = n % 65536 := by
  have := i64_and_mask n 16 65535 (by decide) (by omega)
  simpa using this
theorem held_small {w : World} {B : Nat} {X : Option Addr} {m d n : Nat} {ys : List Wr} (ho : w.ownsRow B 69 2 (.slice X m d) m (rowG hdV (heldL ys))) (hn : ys.length = n) (h80 : n ≤ 200) : m ≤ 1000 := by
  have h1 := rowG_len hdV_length ho (by omega)
  have h2 := heldL_le ys
  omega
theorem lit_rdH1 (w : World) (o : Obj) (i g : Int) : Rd ((w.alloc o).alloc (.cells #[.int .i64 i, .int .u32 g] 69)) (some ⟨w.heap.size + 1, 0, none⟩) (hdV (i, g)) := by
  have h := lit_rdH (w.alloc o) i g
  rw [show (w.alloc o).heap.size = w.heap.size + 1 by simp] at h
  exact h
theorem lit_rdS1 (w : World) (o : Obj) (k p s : Int) (z : Bz) : Rd ((w.alloc o).alloc (.cells #[.int .i64 k, .int .i64 p, .int .i64 s, .slice z.A z.n z.c] 97)) (some ⟨w.heap.size + 1, 0, none⟩) (snV ⟨k, p, s, z⟩) := by
  have h := lit_rdS (w.alloc o) k p s z
  rw [show (w.alloc o).heap.size = w.heap.size + 1 by simp] at h
  exact h
theorem rto_small {w w' : World} {B base : Nat} {F : Nat → Prop} {P n : Nat} {S : List Slo} {L : Nat → List UInt8} (h : Rto w B F P n S L) {i g : Int} {A : Option Addr} {m c : Nat} (ho : w'.ownsRow base 5 1 (.slice A m c) m (bys (bytesL S L i g))) : m ≤ 140737488351232 := by
  have h1 := ho.1
  rw [bys_length] at h1
  have h2 : (bytesL S L i g).length ≤ 512 := by
    obtain ⟨q, c', g', d, V, hC⟩ := h
    unfold bytesL
    split
    · rename_i hv
      obtain ⟨k, hk, rfl, _, _⟩ := liveS_yes hv
      exact hC.rw.top _ (by have := hC.ar.len; simp; omega)
    · simp
  omega
theorem snt_small {w : World} {B : Nat} {X : Option Addr} {m d n : Nat} {ys : List Snt} {xs : List Wr} {S : List Slo} {L : Nat → List UInt8} (ho : w.ownsRow B 97 4 (.slice X m d) m (rowG snV ys)) (hy : ys.map Snt.bare = flY L S xs) (hn : xs.length = n) (h80 : n ≤ 200) : m ≤ 1000 := by
  have h1 := rowG_len snV_length ho (by omega)
  have h2 := congrArg List.length hy
  rw [List.length_map, flY_length] at h2
  omega
set_option maxRecDepth 100000 in
set_option maxHeartbeats 8000000 in
theorem batchPlays_walk (N : Int) (X : Option Addr) (m d : Nat) (Y : Option Addr) (q e : Nat) (w : World) (h0 : -9223372036854775808 ≤ N ∧ N ≤ 9223372036854775807) (hp : Pks w X m) (ha : Acts24 w Y q) :
    Calls Try.prog 8 #[.int .i64 N, .slice X m d, .slice Y q e] w fun e w' => e = .returned (.bool true) ∧ Below w.heap.size w w' := by
  have HP := Lib.hid hp
  have HA := Lib.hid ha
  clear hp ha
  go_enter Try.func8, Try.ntmps8
  go_upto_block 0 with (first
    | (go_at_call 57; (with_reducible refine (shown24_any _).mono ?_); rintro e w1 ⟨rfl, hb1⟩)
    | (go_at_call 38; (with_reducible refine (s8_new _).mono ?_); rintro e w2 ⟨P, rfl, hS2, hb2⟩; have hk2 : Hold w w2 w1.heap.size [_] := (Hold.nil hb1 hb1.size (Nat.le_refl _)).snew hS2 hb2)
    | (go_at_call 39; (with_reducible refine (r8_new _).mono ?_); rintro e w3 ⟨R, rfl, hR3, hb3⟩; have hk3 := hk2.tnew hR3 hb3))
  have hk : ∃ F G, Hold w w3 w1.heap.size [rSto w1.heap.size F P 8 (List.replicate 8 (1, 0)) (fun _ => []), rRto w1.heap.size G R 8 (List.replicate 8 (1, 0)) (fun _ => []), rRow w1.heap.size 69 2 none 0 0 (rowG hdV [])] := ⟨_, _, (((hk3.rnil 69 2).perm [2, 1, 0] (by decide) rfl))⟩
  clear hk2 hk3 hS2 hR3
  go_cut [9, 10, 11, 12, 13, 14] from 31 to 65 (fun s9 s10 s11 s12 s13 s14 wx => ∃ (k c : Nat) (A : Option Addr) (S : List Slo) (L : Nat → List UInt8) (hds : List (Int × Int)) (F G : Nat → Prop), s9 = .slice A k c ∧ k ≤ 8 ∧ Hid (∀ s ∈ S, s.2 ≤ 8) ∧ Hold w wx w1.heap.size [rSto w1.heap.size F P 8 S L, rRto w1.heap.size G R 8 S L, rRow w1.heap.size 69 2 A k c (rowG hdV hds)])
  case first =>
    go_wp2_with fail
    go_loopw [9, 10] (fun tl i wr => ∃ (k c : Nat) (A : Option Addr) (S : List Slo) (L : Nat → List UInt8) (hds : List (Int × Int)) (F G : Nat → Prop), i = .int .i64 k ∧ tl = .slice A k c ∧ k ≤ m ∧ k ≤ 8 ∧ Hid (∀ s ∈ S, s.2 ≤ k) ∧ Hold w wr w1.heap.size [rSto w1.heap.size F P 8 S L, rRto w1.heap.size G R 8 S L, rRow w1.heap.size 69 2 A k c (rowG hdV hds)]) (fun _ i _ => m - (intOf i).toNat)
    case atStart =>
      obtain ⟨F, G, hk⟩ := hk
      exact ⟨0, 0, none, _, _, [], F, G, rfl, rfl, Nat.zero_le _, Nat.zero_le _, (by intro s hs; rw [List.eq_of_mem_replicate hs]; decide : ∀ s ∈ List.replicate 8 ((1, 0) : Slo), s.2 ≤ 0), hk⟩
    case round =>
      clear hk hb1 hb2 hb3
      obtain ⟨k, c, A, S, L, hds, F, G, rfl, rfl, hkm, hk8, HS, hk⟩ := hrel
      by_cases hlt : k < m ∧ k < 8
      · obtain ⟨hl1, hl2⟩ := hlt
        obtain ⟨ad, z, rfl, hz, hzb, hzn⟩ := HP.out k hl1
        obtain ⟨zA, zn, zc, zl⟩ := z
        simp only at hz hzb hzn
        have HZ := Lib.hid hz
        have HZB := Lib.hid hzb
        have HZN := Lib.hid hzn
        have cz := below_cell hk.b hz
        clear hz hzb hzn
        go_wp2_with (first
          | (go_at_call 41; (with_reducible refine (sput_any (hk.get 0 rfl) zA zn zc zl (HZB.out.below hk.b) HZN.out (none_below6 HZB.out (fun k h => (Sto.lt (hk.get 0 rfl) k h).1) hk.hB)).mono ?_); rintro e w7 ⟨rfl, ⟨F7, hS7, hG7⟩, hW7⟩; have hk7 := hk.sto 0 rfl hS7 hG7 hW7)
          | (refine wpList_store_blk rfl 69 (.tmp 11) (.tmp 48) rfl w7.heap.size _ #[.int .i64 (putSlot S zl), .int .u32 (putGen S zl)] _ rfl rfl (hdl_new w7 0 0) rfl (by kernel_rfl) (by simp [Value.oneCell']) ?_; intro w8 hi8 hg8; have hk8' := hk7.vnew hg8 hi8; have cz := below_cell hk8'.b HZ.out)
          | (go_at_call 42; (with_reducible refine (rputS_any (hk8'.get 2 rfl) zA zn zc zl (HZB.out.below hk8'.b) (none_below6 HZB.out (fun k h => (Rto.lt (hk8'.get 2 rfl) k h).1) hk8'.hB)).mono ?_); rintro e w9 ⟨rfl, ⟨F9, hS9, hG9⟩, hW9⟩; have hk9 := hk8'.rto 2 rfl hS9 hG9 hW9)
          | (refine wpList_store_blk rfl 69 (.tmp 13) (.tmp 57) rfl w9.heap.size _ #[.int .i64 (putSlot S zl), .int .u32 (putGen S zl)] _ rfl rfl (hdl_new w9 0 0) rfl (by kernel_rfl) (by simp [Value.oneCell']) ?_; intro w10 hi10 hg10; have hk10 := hk9.vnew hg10 hi10; obtain ⟨a0, a1⟩ := row2_cells (hk10.get 0 rfl); obtain ⟨b0, b1⟩ := row2_cells (hk10.get 1 rfl))
          | (at_builtin; refine wpList_app slHd rfl _ _ rfl w1.heap.size A k c _ rfl ((hk10.alloc _).get 4 rfl) (some ⟨w10.heap.size, 0, none⟩) 1 1 (hdV (putSlot S zl, putGen S zl)) rfl rfl (lit_rdH w10 _ _) (hdV_one _) (by omega) (hk10.alloc _).hs ?_; intro A1 c1 w11 ho11 hg11 hA11; rw [← rowG_one hdV, ← rowG_append] at ho11; have hk11 := (hk10.alloc _).app 4 rfl ho11 hg11 hA11))
        exact ⟨⟨k + 1, _, _, _, _, _, _, _, rfl, rfl, by omega, by omega, put_le HS.out zl, hk11.tail.tail⟩, by simp [intOf]; omega⟩
      · have HS8 : Hid (∀ s ∈ S, s.2 ≤ 8) := Lib.hid (fun s hs => Nat.le_trans (HS.out s hs) hk8)
        have hx : ¬ k < m ∨ (k < m ∧ ¬ k < 8) := by omega
        clear hlt
        rcases hx with hx | ⟨hx, hx2⟩
        all_goals
          go_wp2
          go_meet
          exact ⟨k, c, A, S, L, hds, F, G, rfl, hk8, HS8, hk⟩
  case rest =>
    obtain ⟨t, tc, T, S0, L0, hds, F0, G0, rfl, ht8, HS8, hk⟩ := hcut
    go_wp2_with (go_at_call 58; (with_reducible refine (bnew_any P N _).mono ?_); rintro e w3 ⟨rfl, hw3⟩; have hB3 := BatH.new hk P (bN N); rw [← hw3] at hB3; clear hw3)
    have hB0 := (((hB3.rnil 92 10).up 3 rfl).up 3 rfl).up 3 rfl
    clear hk hB3
    generalize hpb : wc.heap.size = pb at *
    clear hpb
    go_loopw [16, 17] (fun tl i wr => ∃ (k wn wcp : Nat) (A : Option Addr) (ys : List Wr) (S : List Slo) (L : Nat → List UInt8) (F G : Nat → Prop), i = .int .i64 k ∧ tl = .slice A wn wcp ∧ k ≤ q ∧ k ≤ 80 ∧ wn ≤ k ∧ Hid (∀ s ∈ S, s.2 ≤ 8 + k) ∧ Hid (∀ y ∈ ys, y.z.ok w ∧ y.pOk ∧ 1 ≤ y.k ∧ y.k ≤ 5) ∧ BatH w wr w1.heap.size pb P (bN N) (ys.map Wr.bare) [rSto w1.heap.size F P 8 S L, rRto w1.heap.size G R 8 S L, rRow w1.heap.size 69 2 T t tc (rowG hdV hds), rRow w1.heap.size 92 10 A wn wcp (rowG wrV ys)]) (fun _ i _ => q - (intOf i).toNat)
    case atStart => exact ⟨0, 0, 0, none, [], S0, L0, F0, G0, rfl, rfl, Nat.zero_le _, Nat.zero_le _, Nat.zero_le _, fun s hs => Nat.le_trans (HS8.out s hs) (by omega), fun y hy => by simp at hy, hB0⟩
    case round =>
      obtain ⟨k, wn, wcp, A, ys, S, L, F, G, rfl, rfl, hkq, hk80, hwk, HS, HY, hB⟩ := hrel
      clear hB0 HS8
      by_cases hlt : k < q ∧ k < 80
      · obtain ⟨hl1, hl2⟩ := hlt
        have hl3 : decide ((k : Int) < 80) = true := by simp; omega
        obtain ⟨ad, K, x, y, rfl, hA⟩ := HA.out k hl1
        have HAc := Lib.hid hA
        have hAr := hA.below hB.b
        have c0 := hAr.c0
        have d0 := fl12_at (hAr.cw 0 _ rfl)
        have d1 := fl12_at (hAr.cw 1 _ rfl)
        have d2 := fl12_at (hAr.cw 2 _ rfl)
        have d3 := fl12_at (hAr.cw 3 _ rfl)
        have d4 := fl12_at (hAr.cw 4 _ rfl)
        have d5 := fl12_at (hAr.cw 5 _ rfl)
        have d6 := fl12_at (hAr.cw 6 _ rfl)
        have d7 := fl12_at (hAr.cw 7 _ rfl)
        have d8 := fl12_at (hAr.cw 8 _ rfl)
        have d9 := fl12_at (hAr.cw 9 _ rfl)
        simp only [Nat.reduceAdd] at d0 d1 d2 d3 d4 d5 d6 d7 d8 d9
        have hB1 := hB.vnew0 (wrC y) 92
        have hbig : ∀ s ∈ S, s.2 < 9223372036854775807 := fun s hs => by have := HS.out s hs; omega
        have Hbig := Lib.hid hbig
        have hyl : (ys.map Wr.bare).length ≤ 1000 := by
          have := rowG_len wrV_length (hB.get 3 rfl) (by omega)
          rw [List.length_map]; omega
        have HYL := Lib.hid hyl
        clear hA hAr hbig hyl
        go_upto_region 19 with fail
        clear d0 d1 d2 d3 d4 d5 d6 d7 d8 d9
        generalize hb0 : wr.heap.size = b0 at *
        have hc0 := (HAc.out.below hB1.b).c0
        have hc1 := fl12_at (HAc.out.below hB1.b).c1
        generalize wr.alloc (.cells (wrC y) 92) = w5 at *
        clear c0 hb0
        simp only [Nat.reduceAdd, Nat.zero_add] at hc1
        go_upto_block 4 with fail
        go_cut [16, 19, 21, 22, 23] from 89 to 191 (fun s16 s19 s21 s22 s23 wx => ∃ (wn' wcp' : Nat) (A' : Option Addr) (ys' : List Wr) (S' : List Slo) (L' : Nat → List UInt8) (F' G' : Nat → Prop), s16 = .slice A' wn' wcp' ∧ wn' ≤ k + 1 ∧ Hid (∀ s ∈ S', s.2 ≤ 8 + (k + 1)) ∧ Hid (∀ y ∈ ys', y.z.ok w ∧ y.pOk ∧ 1 ≤ y.k ∧ y.k ≤ 5) ∧ BatH w wx w1.heap.size pb P (bN N) (ys'.map Wr.bare) [rSto w1.heap.size F' P 8 S' L', rRto w1.heap.size G' R 8 S' L', rRow w1.heap.size 69 2 T t tc (rowG hdV hds), rRow w1.heap.size 92 10 A' wn' wcp' (rowG wrV ys')])
        case first =>
          by_cases hK1 : K = 1
          · subst hK1
            have hyn : ys.length = wn := rowG_len wrV_length (hB1.get 4 rfl) (by omega)
            have HYN := Lib.hid hyn
            have hwc : wn ≤ wcp := own_cap' (hB1.get 4 rfl)
            have hB2 := (hB1.rnil 97 4).pnil
            clear hyn hB1 hc0 hc1
            go_wp2_with fail
            go_loopw [19, 143] (fun tl i wr => ∃ (j d : Nat) (Xw : Option Addr) (zs : List Snt) (F2 : Nat → Prop) (Z2 : List Bz), i = .int .i64 j ∧ tl = .slice Xw j d ∧ j ≤ wn ∧ Hid (zs.map Snt.bare = flY L S (ys.take j)) ∧ Hid (∀ z ∈ zs, z.z ∈ Z2 ∨ z.z.ok w) ∧ BatH w wr w1.heap.size pb P (bN N) (ys.map Wr.bare) [rPool F2 Z2, rRow w1.heap.size 97 4 Xw j d (rowG snV zs), rVar b0 (.cells (wrC y) 92 (0, 0)), rSto w1.heap.size F P 8 S L, rRto w1.heap.size G R 8 (flS S (ys.take j)) L, rRow w1.heap.size 69 2 T t tc (rowG hdV hds), rRow w1.heap.size 92 10 A wn wcp (rowG wrV ys)]) (fun _ i _ => wn - (intOf i).toNat)
            case atStart => exact ⟨0, 0, none, [], _, [], rfl, rfl, Nat.zero_le _, rfl, fun z hz => by simp at hz, hB2⟩
            case round =>
              obtain ⟨j, d, Xw, zs, F2, Z2, rfl, rfl, hjw, HZS, HZZ, hB⟩ := hrel
              clear hB2
              by_cases hlj : j < wn
              · have hjx : j < ys.length := by have := HYN.out; omega
                obtain ⟨g, rfl, _, _, hcs⟩ := rowG_cells wrV_length (hB.get 6 rfl) (by omega) hjx
                have e0 := hcs 0 _ rfl
                have e1 := hcs 1 _ rfl
                have e2 := hcs 2 _ rfl
                have e3 := hcs 3 _ rfl
                have e4 := hcs 4 _ rfl
                have e5 := hcs 5 _ rfl
                have e6 := hcs 6 _ rfl
                have e7 := hcs 7 _ rfl
                have e8 := hcs 8 _ rfl
                have e9 := hcs 9 _ rfl
                simp only [Nat.add_zero] at e0
                have hB3 := hB.vnew0 (wrC ys[j]) 92
                obtain ⟨a0, a1, a2, a3, a4, a5, a6, a7, a8, a9⟩ := ten_cells (hB3.get 0 rfl)
                have HT := Lib.hid (take_snocG ys j hjx)
                have HBJ := Lib.hid (flS_big Hbig.out (ys.take j))
                obtain ⟨hzo, hpo, _, _⟩ := HY.out _ (List.getElem_mem hjx)
                have HZO := Lib.hid hzo
                have HPO : Hid (ys[j].sq < 65536 ∧ ys[j].tm < 4294967296 ∧ ys[j].ss < 4294967296 ∧ ys[j].f < 65536) := Lib.hid hpo
                clear hcs hzo hpo
                cases h1 : (ys[j].k == 1)
                · cases h2 : (ys[j].k == 2)
                  · have HF := Lib.hid (show sentL (flS S (ys.take j)) L ys[j] = ys[j].z.l ∧ sentS (flS S (ys.take j)) ys[j] = flS S (ys.take j) by unfold sentL sentS pkB; rw [h1, h2]; exact ⟨rfl, rfl⟩)
                    go_wp2_with (at_builtin; refine wpList_app slSn rfl _ _ rfl w1.heap.size Xw j d (rowG snV zs) rfl ((hB3.alloc _).get 2 rfl) (some ⟨wr.heap.size + 1, 0, none⟩) 1 1 (snV ⟨ys[j].k, ys[j].p, ys[j].s, ys[j].z⟩) rfl rfl (lit_rdS1 wr _ ys[j].k ys[j].p ys[j].s ys[j].z) (snV_one _) (by omega) (hB3.alloc _).hs ?_; intro A1 c1 w9 ho9 hg9 hA9; rw [← rowG_one snV, ← rowG_append] at ho9; have hB9 := (hB3.alloc _).app 2 rfl ho9 hg9 hA9)
                    refine ⟨⟨j + 1, c1, A1, zs ++ [⟨ys[j].k, ys[j].p, ys[j].s, ys[j].z⟩], F2, Z2, rfl, rfl, by omega, ?_, ?_, ?_⟩, by simp [intOf]; omega⟩
                    · show List.map Snt.bare _ = _
                      rw [HT.out, flY_snoc, List.map_append, HZS.out, HF.out.1]; rfl
                    · show ∀ z ∈ _, _ ∨ _
                      intro z hz
                      rcases List.mem_append.1 hz with hz | hz
                      · exact HZZ.out z hz
                      · obtain rfl := List.mem_singleton.1 hz; exact .inr HZO.out
                    · rw [HT.out, flS_snoc, HF.out.2]
                      exact hB9.del 0 rfl
                  · have HF := Lib.hid (show sentL (flS S (ys.take j)) L ys[j] = apP (bytesL (flS S (ys.take j)) L ys[j].i ys[j].g) ys[j].sq ys[j].tm ys[j].ss ys[j].f ∧ sentS (flS S (ys.take j)) ys[j] = dropS (flS S (ys.take j)) ys[j].i ys[j].g by unfold sentL sentS pkB; rw [h1, h2]; exact ⟨rfl, rfl⟩)
                    go_wp2_with (first
                      | (go_at_call 50; (with_reducible refine (rbytesS_any (hB3.get 5 rfl) ys[j].i ys[j].g).mono ?_); rintro e w6 ⟨A6, m6, c6, rfl, ho6, hb6⟩; have hm6 := rto_small (hB3.get 5 rfl) ho6; have hB6 := hB3.rnew ho6 hb6; obtain ⟨a0, a1, a2, a3, a4, a5, a6, a7, a8, a9⟩ := ten_cells (hB6.get 1 rfl))
                      | (go_at_call 18; (with_reducible refine (rapply_any A6 m6 c6 (bytesL (flS S (ys.take j)) L ys[j].i ys[j].g) ys[j].sq ys[j].tm ys[j].ss ys[j].f HPO.out.1 HPO.out.2.1 HPO.out.2.2.1 HPO.out.2.2.2 _ (own_bts (hB6.get 0 rfl)) hm6).mono ?_); rintro e w7 ⟨A7, c7, rfl, ho7, hb7⟩; have hB7 := hB6.rnew ho7 hb7; obtain ⟨a0, a1, a2, a3, a4, a5, a6, a7, a8, a9⟩ := ten_cells (hB7.get 2 rfl))
                      | (go_at_call 46; (with_reducible refine (Rto.drop (hB7.get 7 rfl) HBJ.out ys[j].i ys[j].g).mono ?_); rintro e w8 ⟨rfl, hR8, hW8⟩; have hB8 := hB7.rto 7 rfl hR8 (Grw.refl _ _) hW8; obtain ⟨a0, a1, a2, a3, a4, a5, a6, a7, a8, a9⟩ := ten_cells (hB8.get 2 rfl))
                      | (at_builtin; refine wpList_app slSn rfl _ _ rfl w1.heap.size Xw j d (rowG snV zs) rfl ((hB8.alloc _).get 4 rfl) (some ⟨w8.heap.size, 0, none⟩) 1 1 (snV ⟨ys[j].k, ys[j].p, ys[j].s, ⟨A7, m6, c7, apP (bytesL (flS S (ys.take j)) L ys[j].i ys[j].g) ys[j].sq ys[j].tm ys[j].ss ys[j].f⟩⟩) rfl rfl (lit_rdS w8 ys[j].k ys[j].p ys[j].s ⟨A7, m6, c7, apP (bytesL (flS S (ys.take j)) L ys[j].i ys[j].g) ys[j].sq ys[j].tm ys[j].ss ys[j].f⟩) (snV_one _) (by omega) (hB8.alloc _).hs ?_; intro A1 c1 w9 ho9 hg9 hA9; rw [← rowG_one snV, ← rowG_append] at ho9; have hB9 := (hB8.alloc _).app 4 rfl ho9 hg9 hA9))
                    refine ⟨⟨j + 1, c1, A1, zs ++ [⟨ys[j].k, ys[j].p, ys[j].s, ⟨A7, m6, c7, apP (bytesL (flS S (ys.take j)) L ys[j].i ys[j].g) ys[j].sq ys[j].tm ys[j].ss ys[j].f⟩⟩], (fun k => F2 k ∨ A7.map Addr.block = some k), (⟨A7, m6, c7, apP (bytesL (flS S (ys.take j)) L ys[j].i ys[j].g) ys[j].sq ys[j].tm ys[j].ss ys[j].f⟩ : Bz) :: Z2, rfl, rfl, by omega, ?_, ?_, ?_⟩, by simp [intOf]; omega⟩
                    · show List.map Snt.bare _ = _
                      rw [HT.out, flY_snoc, List.map_append, HZS.out, HF.out.1]; rfl
                    · show ∀ z ∈ _, _ ∨ _
                      intro z hz
                      rcases List.mem_append.1 hz with hz | hz
                      · rcases HZZ.out z hz with h | h
                        · exact .inl (List.mem_cons_of_mem _ h)
                        · exact .inr h
                      · obtain rfl := List.mem_singleton.1 hz; exact .inl (List.mem_cons_self ..)
                    · rw [HT.out, flS_snoc, HF.out.2]
                      exact ((hB9.into 2 rfl hm6).del 0 rfl).del 0 rfl
                · have HF := Lib.hid (show sentL (flS S (ys.take j)) L ys[j] = apP (bytesL (flS S (ys.take j)) L ys[j].i ys[j].g) ys[j].sq ys[j].tm ys[j].ss ys[j].f ∧ sentS (flS S (ys.take j)) ys[j] = dropS (flS S (ys.take j)) ys[j].i ys[j].g by unfold sentL sentS pkB; rw [h1]; exact ⟨rfl, rfl⟩)
                  go_wp2_with (first
                    | (go_at_call 50; (with_reducible refine (rbytesS_any (hB3.get 5 rfl) ys[j].i ys[j].g).mono ?_); rintro e w6 ⟨A6, m6, c6, rfl, ho6, hb6⟩; have hm6 := rto_small (hB3.get 5 rfl) ho6; have hB6 := hB3.rnew ho6 hb6; obtain ⟨a0, a1, a2, a3, a4, a5, a6, a7, a8, a9⟩ := ten_cells (hB6.get 1 rfl))
                    | (go_at_call 18; (with_reducible refine (rapply_any A6 m6 c6 (bytesL (flS S (ys.take j)) L ys[j].i ys[j].g) ys[j].sq ys[j].tm ys[j].ss ys[j].f HPO.out.1 HPO.out.2.1 HPO.out.2.2.1 HPO.out.2.2.2 _ (own_bts (hB6.get 0 rfl)) hm6).mono ?_); rintro e w7 ⟨A7, c7, rfl, ho7, hb7⟩; have hB7 := hB6.rnew ho7 hb7; obtain ⟨a0, a1, a2, a3, a4, a5, a6, a7, a8, a9⟩ := ten_cells (hB7.get 2 rfl))
                    | (go_at_call 46; (with_reducible refine (Rto.drop (hB7.get 7 rfl) HBJ.out ys[j].i ys[j].g).mono ?_); rintro e w8 ⟨rfl, hR8, hW8⟩; have hB8 := hB7.rto 7 rfl hR8 (Grw.refl _ _) hW8; obtain ⟨a0, a1, a2, a3, a4, a5, a6, a7, a8, a9⟩ := ten_cells (hB8.get 2 rfl))
                    | (at_builtin; refine wpList_app slSn rfl _ _ rfl w1.heap.size Xw j d (rowG snV zs) rfl ((hB8.alloc _).get 4 rfl) (some ⟨w8.heap.size, 0, none⟩) 1 1 (snV ⟨ys[j].k, ys[j].p, ys[j].s, ⟨A7, m6, c7, apP (bytesL (flS S (ys.take j)) L ys[j].i ys[j].g) ys[j].sq ys[j].tm ys[j].ss ys[j].f⟩⟩) rfl rfl (lit_rdS w8 ys[j].k ys[j].p ys[j].s ⟨A7, m6, c7, apP (bytesL (flS S (ys.take j)) L ys[j].i ys[j].g) ys[j].sq ys[j].tm ys[j].ss ys[j].f⟩) (snV_one _) (by omega) (hB8.alloc _).hs ?_; intro A1 c1 w9 ho9 hg9 hA9; rw [← rowG_one snV, ← rowG_append] at ho9; have hB9 := (hB8.alloc _).app 4 rfl ho9 hg9 hA9))
                  refine ⟨⟨j + 1, c1, A1, zs ++ [⟨ys[j].k, ys[j].p, ys[j].s, ⟨A7, m6, c7, apP (bytesL (flS S (ys.take j)) L ys[j].i ys[j].g) ys[j].sq ys[j].tm ys[j].ss ys[j].f⟩⟩], (fun k => F2 k ∨ A7.map Addr.block = some k), (⟨A7, m6, c7, apP (bytesL (flS S (ys.take j)) L ys[j].i ys[j].g) ys[j].sq ys[j].tm ys[j].ss ys[j].f⟩ : Bz) :: Z2, rfl, rfl, by omega, ?_, ?_, ?_⟩, by simp [intOf]; omega⟩
                  · show List.map Snt.bare _ = _
                    rw [HT.out, flY_snoc, List.map_append, HZS.out, HF.out.1]; rfl
                  · show ∀ z ∈ _, _ ∨ _
                    intro z hz
                    rcases List.mem_append.1 hz with hz | hz
                    · rcases HZZ.out z hz with h | h
                      · exact .inl (List.mem_cons_of_mem _ h)
                      · exact .inr h
                    · obtain rfl := List.mem_singleton.1 hz; exact .inl (List.mem_cons_self ..)
                  · rw [HT.out, flS_snoc, HF.out.2]
                    exact ((hB9.into 2 rfl hm6).del 0 rfl).del 0 rfl
              · obtain rfl : j = wn := by omega
                clear hlj
                have e : ys.take j = ys := List.take_of_length_le (by have := HYN.out; omega)
                rw [e] at HZS hB
                clear e
                have hB4 := hB.up 3 rfl
                go_wp2_with (first
                  | (go_at_call 60; (with_reducible refine (flush_any hB4 Hbig.out HYL.out).mono ?_); rintro e w6 ⟨X6, m6, d6, ys6, F6, Z6, rfl, hy6, hz6, hk6⟩; rw [flS_bare] at hk6; rw [flY_bare] at hy6)
                  | (go_at_call 59; (with_reducible refine (sameSent_any X6 m6 d6 ys6 Xw j d zs _ _ _ (hk6.get 0 rfl) (hk6.get 6 rfl) (hy6.trans HZS.out.symm) (fun y hy => hk6.pool 3 rfl (hz6 y hy)) (fun z hz => (HZZ.out z hz).elim (fun h => hk6.pool 5 rfl h) (fun h => h.below hk6.b)) (snt_small (hk6.get 0 rfl) hy6 HYN.out (by omega))).mono ?_); rintro e w7 ⟨rfl, hb7⟩; have hk7 := hk6.below hb7))
                go_meet
                have hB8 : BatH w w7 w1.heap.size pb P (bN N) (([] : List Wr).map Wr.bare) _ := ⟨none, 0, 0, [], F6, Z6, hk7.tail, rfl, nofun, nofun⟩
                have hB9 := ((((((((hB8.del 1 rfl).del 1 rfl).del 1 rfl).del 3 rfl).rnil 92 10).up 3 rfl).up 3 rfl).up 3 rfl)
                exact ⟨0, 0, none, [], flS S ys, L, F, G, rfl, by omega, fun s hs => Nat.le_of_lt_succ (flS_big (m := 8 + (k + 1) + 1) (fun s hs => by have := HS.out s hs; omega) ys s hs), nofun, hB9⟩
          · have hK1' : (K == 1) = false := by simp; exact hK1
            obtain ⟨a0, a1, a2, a3, a4, a5, a6, a7, a8, a9⟩ := ten_cells (hB1.get 0 rfl)
            have fz : ∀ j, w5.frozen? ⟨b0, j, none⟩ = false := fun j => frozen_row (hB1.get 0 rfl)
            obtain ⟨M, hM⟩ : ∃ M : Nat, (M : Int) = bits .and .i64 x 65535 := ⟨(x % 65536).toNat, by rw [i64_and_65535]; omega⟩
            have hM2 : M < 65536 := by rw [i64_and_65535] at hM; omega
            have HM := hM.symm
            clear hM hK1
            have hq' : Hid (0 < t → ∃ (g J : Nat), T = some ⟨g, 0, none⟩ ∧ (M : Int) % (t : Int) = (J : Int) ∧ J < t ∧ ∃ h : Int × Int, w5.cell? ⟨g, J * 2, none⟩ = some (.int .i64 h.1) ∧ w5.cell? ⟨g, J * 2 + 1, none⟩ = some (.int .u32 h.2)) := fun ht => by
              have hlt : hds.length = t := rowG_len hdV_length (hB1.get 3 rfl) (by omega)
              have hJ : M % t < hds.length := by rw [hlt]; exact Nat.mod_lt _ ht
              obtain ⟨g, hg, _, _, hcs⟩ := rowG_cells hdV_length (hB1.get 3 rfl) (by omega) hJ
              exact ⟨g, M % t, hg, by omega, by omega, hds[M % t], by have := hcs 0 _ rfl; simpa using this, hcs 1 _ rfl⟩
            go_upto_if 139 with fail
            refine wp_cond_false (by rfl) ?_
            refine wp_seq_k fun KX hKX => ?_
            go_cut [] from 89 to 112 (fun wx => ∃ i' g' : Int, BatH w wx w1.heap.size pb P (bN N) (ys.map Wr.bare) [rVar b0 (.cells (wrC { y with i := i', g := g' }) 92 (0, 0)), rSto w1.heap.size F P 8 S L, rRto w1.heap.size G R 8 S L, rRow w1.heap.size 69 2 T t tc (rowG hdV hds), rRow w1.heap.size 92 10 A wn wcp (rowG wrV ys)])
            case first =>
              have hcs : (K = 0 ∧ 0 < t) ∨ (K = 0 ∧ t = 0) ∨ (K == 0) = false := by simp; omega
              rcases hcs with ⟨rfl, ht⟩ | ⟨rfl, ht⟩ | hK0
              · obtain ⟨g, J, rfl, hJ, hJt, h, j0, j1⟩ := hq'.out ht
                have htc : t ≤ tc := own_cap' (hB1.get 3 rfl)
                go_wp2
                go_meet
                have hB2 : BatH w (w5.setCell ⟨b0, 3, none⟩ (.int .i64 h.1)) w1.heap.size pb P (bN N) (ys.map Wr.bare) (rVar b0 (.cells (wrC { y with i := h.1 }) 92 (0, 0)) :: _) := hB1.var 0 rfl (grown_setCell w5 ⟨b0, 3, none⟩ (.int .i64 h.1)) (heap_setCell_same w5 b0 3 _ _ _ (hB1.get 0 rfl))
                exact ⟨h.1, h.2, hB2.var 0 rfl (grown_setCell _ ⟨b0, 4, none⟩ (.int .u32 h.2)) (heap_setCell_same _ b0 4 _ _ _ (hB2.get 0 rfl))⟩
              · subst ht
                go_wp2
                go_meet
                exact ⟨y.i, y.g, hB1⟩
              · go_wp2
                go_meet
                exact ⟨y.i, y.g, hB1⟩
            case rest =>
              obtain ⟨i', g', hB2⟩ := hcut
              have hy1 : ({ y with i := i', g := g' } : Wr).z = y.z ∧ ({ y with i := i', g := g' } : Wr).pOk := ⟨rfl, HAc.out.po⟩
              generalize ({ y with i := i', g := g' } : Wr) = y' at *
              have hz0 : y'.z.ok w := by rw [hy1.1]; exact HAc.out.ok
              have HZ := Lib.hid (And.intro hz0 hy1.2)
              replace hB2 := hB2.up 1 rfl
              have hzo : 0 < y'.z.n → ∀ b, y'.z.A.map Addr.block = some b → ¬ F b := none_below6 hz0.bt (fun k h => (Sto.lt (hB2.get 0 rfl) k h).1) hB2.hB
              have HZO := Lib.hid hzo
              clear hzo hz0 hy1 hB1 a0 a1 a2 a3 a4 a5 a6 a7 a8 a9 fz hq' HM hc1 hK1'
              obtain ⟨a0, a1, a2, a3, a4, a5, a6, a7, a8, a9⟩ := ten_cells (hB2.get 1 rfl)
              have hk5 : y'.k < 1 ∨ 5 < y'.k ∨ (1 ≤ y'.k ∧ y'.k ≤ 2) ∨ (3 ≤ y'.k ∧ y'.k ≤ 5) := by omega
              rcases hk5 with h1 | h1 | ⟨h1, h2⟩ | ⟨h1, h2⟩
              · have HF := Lib.hid (show addE S y' = 4 ∧ addS S y' = S ∧ addW S (ys.map Wr.bare) y' = ys.map Wr.bare by
                  have e : addE S y' = 4 := by unfold addE; rw [if_pos (by omega)]
                  refine ⟨e, by unfold addS; rw [if_pos (by omega)], by unfold addW; rw [if_neg (by rw [e]; decide)]⟩)
                go_wp2_with ((go_at_call 61; (with_reducible refine (add_any hB2 y' (HZ.out.1.below hB2.b) HZO.out HZ.out.2 Hbig.out HYL.out).mono ?_); rintro e w6 ⟨rfl, hB6⟩; rw [HF.out.2.1, HF.out.2.2] at hB6; rw [HF.out.1]; obtain ⟨a0, a1, a2, a3, a4, a5, a6, a7, a8, a9⟩ := ten_cells (hB6.get 1 rfl)))
                go_meet
                exact ⟨wn, wcp, A, ys, S, L, F, G, rfl, by omega, fun s hs => by have := HS.out s hs; omega, HY.out, hB6.del 1 rfl⟩
              · have HF := Lib.hid (show addE S y' = 4 ∧ addS S y' = S ∧ addW S (ys.map Wr.bare) y' = ys.map Wr.bare by
                  have e : addE S y' = 4 := by unfold addE; rw [if_pos (by omega)]
                  refine ⟨e, by unfold addS; rw [if_pos (by omega)], by unfold addW; rw [if_neg (by rw [e]; decide)]⟩)
                go_wp2_with ((go_at_call 61; (with_reducible refine (add_any hB2 y' (HZ.out.1.below hB2.b) HZO.out HZ.out.2 Hbig.out HYL.out).mono ?_); rintro e w6 ⟨rfl, hB6⟩; rw [HF.out.2.1, HF.out.2.2] at hB6; rw [HF.out.1]; obtain ⟨a0, a1, a2, a3, a4, a5, a6, a7, a8, a9⟩ := ten_cells (hB6.get 1 rfl)))
                go_meet
                exact ⟨wn, wcp, A, ys, S, L, F, G, rfl, by omega, fun s hs => by have := HS.out s hs; omega, HY.out, hB6.del 1 rfl⟩
              · have hpk : pkB y'.k = true := by unfold pkB; simp; omega
                have HK := Lib.hid (show 1 ≤ y'.k ∧ y'.k ≤ 5 by omega)
                by_cases hst : staleS S y'.i y'.g = 0
                · have HF := Lib.hid (show addE S y' = 0 ∧ addS S y' = keepS S y'.i y'.g ∧ addW S (ys.map Wr.bare) y' = ys.map Wr.bare ++ [y'.bare] by
                    have e : addE S y' = 0 := by unfold addE; rw [if_neg (by omega), if_pos hpk]; exact hst
                    refine ⟨e, by unfold addS; rw [if_neg (by omega), if_pos hpk], by unfold addW; rw [if_pos e]⟩)
                  have HT := Lib.hid hst
                  clear hst hpk
                  go_wp2_with (first
                    | (go_at_call 44; (with_reducible refine (Rto.keep (hB2.get 2 rfl) Hbig.out _ _).mono ?_); rintro e w3 ⟨rfl, hR3, hW3⟩; rw [HT.out]; have hB3 := hB2.rto 2 rfl hR3 (Grw.refl _ _) hW3; obtain ⟨a0, a1, a2, a3, a4, a5, a6, a7, a8, a9⟩ := ten_cells (hB3.get 1 rfl))
                    | (go_at_call 61; (with_reducible refine (add_any hB3 y' (HZ.out.1.below hB3.b) HZO.out HZ.out.2 Hbig.out HYL.out).mono ?_); rintro e w6 ⟨rfl, hB6⟩; rw [HF.out.2.1, HF.out.2.2] at hB6; rw [HF.out.1]; obtain ⟨a0, a1, a2, a3, a4, a5, a6, a7, a8, a9⟩ := ten_cells (hB6.get 1 rfl))
                    | (at_builtin; refine wpList_app slW rfl _ _ rfl w1.heap.size A wn wcp (rowG wrV ys) rfl ((hB6.alloc _).get 4 rfl) (some ⟨w6.heap.size, 0, none⟩) 1 1 (wrV y') rfl rfl (lit_rdW w6 y') (wrV_one _) (by omega) (hB6.alloc _).hs ?_; intro A1 c1 w8 ho8 hg8 hA8; rw [← rowG_one wrV, ← rowG_append] at ho8; have hB8 := (hB6.alloc _).app 4 rfl ho8 hg8 hA8))
                  go_meet
                  have hB9 := hB8.del 1 rfl
                  exact ⟨wn + 1, c1, A1, ys ++ [y'], keepS S y'.i y'.g, L, F, G, rfl, by omega, keep_le HS.out y'.i y'.g, fun z hz => by
                    rcases List.mem_append.1 hz with hz | hz
                    · exact HY.out z hz
                    · obtain rfl := List.mem_singleton.1 hz; exact ⟨HZ.out.1, HZ.out.2, HK.out⟩, by rw [List.map_append]; exact hB9⟩
                · have HF := Lib.hid (show addE S y' = staleS S y'.i y'.g ∧ addS S y' = S ∧ addW S (ys.map Wr.bare) y' = ys.map Wr.bare by
                    have e : addE S y' = staleS S y'.i y'.g := by unfold addE; rw [if_neg (by omega), if_pos hpk]
                    refine ⟨e, by unfold addS; rw [if_neg (by omega), if_pos hpk]; exact keep_stale hst, by unfold addW; rw [if_neg (by rw [e]; exact hst)]⟩)
                  have HT := Lib.hid (keep_stale hst)
                  have hs' : ((staleS S y'.i y'.g : Int) == 0) = false := by simp; omega
                  clear hst hpk
                  go_wp2_with (first
                    | (go_at_call 44; (with_reducible refine (Rto.keep (hB2.get 2 rfl) Hbig.out _ _).mono ?_); rintro e w3 ⟨rfl, hR3, hW3⟩; rw [HT.out] at hR3; have hB3 := hB2.rto 2 rfl hR3 (Grw.refl _ _) hW3; obtain ⟨a0, a1, a2, a3, a4, a5, a6, a7, a8, a9⟩ := ten_cells (hB3.get 1 rfl))
                    | (go_at_call 61; (with_reducible refine (add_any hB3 y' (HZ.out.1.below hB3.b) HZO.out HZ.out.2 Hbig.out HYL.out).mono ?_); rintro e w6 ⟨rfl, hB6⟩; rw [HF.out.2.1, HF.out.2.2] at hB6; rw [HF.out.1]; obtain ⟨a0, a1, a2, a3, a4, a5, a6, a7, a8, a9⟩ := ten_cells (hB6.get 1 rfl)))
                  go_meet
                  exact ⟨wn, wcp, A, ys, S, L, F, G, rfl, by omega, fun s hs => by have := HS.out s hs; omega, HY.out, hB6.del 1 rfl⟩
              · have HK := Lib.hid (show 1 ≤ y'.k ∧ y'.k ≤ 5 by omega)
                have HF := Lib.hid (show addE S y' = 0 ∧ addS S y' = S ∧ addW S (ys.map Wr.bare) y' = ys.map Wr.bare ++ [y'.bare] by
                  have e : addE S y' = 0 := by unfold addE; rw [if_neg (by omega), show pkB y'.k = false by unfold pkB; simp; omega]; rfl
                  refine ⟨e, by unfold addS; rw [if_neg (by omega), show pkB y'.k = false by unfold pkB; simp; omega]; rfl, by unfold addW; rw [if_pos e]⟩)
                go_wp2_with (first
                  | (go_at_call 61; (with_reducible refine (add_any hB2 y' (HZ.out.1.below hB2.b) HZO.out HZ.out.2 Hbig.out HYL.out).mono ?_); rintro e w6 ⟨rfl, hB6⟩; rw [HF.out.2.1, HF.out.2.2] at hB6; rw [HF.out.1]; obtain ⟨a0, a1, a2, a3, a4, a5, a6, a7, a8, a9⟩ := ten_cells (hB6.get 1 rfl))
                  | (at_builtin; refine wpList_app slW rfl _ _ rfl w1.heap.size A wn wcp (rowG wrV ys) rfl ((hB6.alloc _).get 4 rfl) (some ⟨w6.heap.size, 0, none⟩) 1 1 (wrV y') rfl rfl (lit_rdW w6 y') (wrV_one _) (by omega) (hB6.alloc _).hs ?_; intro A1 c1 w8 ho8 hg8 hA8; rw [← rowG_one wrV, ← rowG_append] at ho8; have hB8 := (hB6.alloc _).app 4 rfl ho8 hg8 hA8))
                go_meet
                have hB9 := hB8.del 1 rfl
                exact ⟨wn + 1, c1, A1, ys ++ [y'], S, L, F, G, rfl, by omega, fun s hs => by have := HS.out s hs; omega, fun z hz => by
                  rcases List.mem_append.1 hz with hz | hz
                  · exact HY.out z hz
                  · obtain rfl := List.mem_singleton.1 hz; exact ⟨HZ.out.1, HZ.out.2, HK.out⟩, by rw [List.map_append]; exact hB9⟩
        case rest => as_aux_lemma =>
          obtain ⟨wn', wcp', A', ys', S', L', F', G', rfl, hwn', HS', HY', hB'⟩ := hcut
          clear HS HY hB hB1 Hbig HYL hc0 hc1 HAc
          have hyn : ys'.length = wn' := rowG_len wrV_length (hB'.get 3 rfl) (by omega)
          have HYN := Lib.hid hyn
          have hwc : wn' ≤ wcp' := own_cap' (hB'.get 3 rfl)
          have hB2 := hB'.rnil 69 2
          clear hyn hB'
          go_upto_block 7 with fail
          go_cut [24, 26] from 194 to 206 (fun s24 s26 wx => ∃ (hn hc : Nat) (Hh : Option Addr), s24 = .slice Hh hn hc ∧ hn ≤ wn' ∧ BatH w wx w1.heap.size pb P (bN N) (ys'.map Wr.bare) [rRow w1.heap.size 69 2 Hh hn hc (rowG hdV (heldL ys')), rSto w1.heap.size F' P 8 S' L', rRto w1.heap.size G' R 8 S' L', rRow w1.heap.size 69 2 T t tc (rowG hdV hds), rRow w1.heap.size 92 10 A' wn' wcp' (rowG wrV ys')])
          case first =>
            go_wp2_with fail
            go_loopw [24, 194] (fun tl i wz => ∃ (j hn hc : Nat) (Hh : Option Addr), i = .int .i64 j ∧ tl = .slice Hh hn hc ∧ j ≤ wn' ∧ hn ≤ j ∧ BatH w wz w1.heap.size pb P (bN N) (ys'.map Wr.bare) [rRow w1.heap.size 69 2 Hh hn hc (rowG hdV (heldL (ys'.take j))), rSto w1.heap.size F' P 8 S' L', rRto w1.heap.size G' R 8 S' L', rRow w1.heap.size 69 2 T t tc (rowG hdV hds), rRow w1.heap.size 92 10 A' wn' wcp' (rowG wrV ys')]) (fun _ i _ => wn' - (intOf i).toNat)
            case atStart => exact ⟨0, 0, 0, none, rfl, rfl, Nat.zero_le _, Nat.zero_le _, hB2⟩
            case round =>
              obtain ⟨j, hn, hc, Hh, rfl, rfl, hjw, hnj, hB⟩ := hrel
              clear hB2
              by_cases hlj : j < wn'
              · have hjx : j < ys'.length := by have := HYN.out; omega
                obtain ⟨g, rfl, _, _, hcs⟩ := rowG_cells wrV_length (hB.get 4 rfl) (by omega) hjx
                have e0 := hcs 0 _ rfl
                have e1 := hcs 1 _ rfl
                have e2 := hcs 2 _ rfl
                have e3 := hcs 3 _ rfl
                have e4 := hcs 4 _ rfl
                have e5 := hcs 5 _ rfl
                have e6 := hcs 6 _ rfl
                have e7 := hcs 7 _ rfl
                have e8 := hcs 8 _ rfl
                have e9 := hcs 9 _ rfl
                simp only [Nat.add_zero] at e0
                have hB3 := hB.vnew0 (wrC ys'[j]) 92
                obtain ⟨_, _, hk1, hk5⟩ := HY'.out _ (List.getElem_mem hjx)
                have HT := Lib.hid (take_snocG ys' j hjx)
                obtain ⟨a0, a1, a2, a3, a4, a5, a6, a7, a8, a9⟩ := ten_cells (hB3.get 0 rfl)
                clear hcs
                by_cases hk2 : ys'[j].k ≤ 2
                · have HK := Lib.hid (show pkB ys'[j].k = true by unfold pkB; simp; omega)
                  go_wp2_with (at_builtin; refine wpList_app slHd rfl _ _ rfl w1.heap.size Hh hn hc _ rfl ((hB3.alloc _).get 1 rfl) (some ⟨wr.heap.size + 1, 0, none⟩) 1 1 (hdV (ys'[j].i, ys'[j].g)) rfl rfl (lit_rdH1 wr _ ys'[j].i ys'[j].g) (hdV_one _) (by omega) (hB3.alloc _).hs ?_; intro A1 c1 w8 ho8 hg8 hA8; rw [← rowG_one hdV, ← rowG_append] at ho8; have hB8 := (hB3.alloc _).app 1 rfl ho8 hg8 hA8)
                  refine ⟨⟨j + 1, hn + 1, c1, A1, rfl, rfl, by omega, by omega, ?_⟩, by simp [intOf]; omega⟩
                  rw [HT.out, heldL_snoc, if_pos HK.out]
                  exact hB8.del 0 rfl
                · have HK := Lib.hid (show pkB ys'[j].k = false by unfold pkB; simp; omega)
                  go_wp2
                  refine ⟨⟨j + 1, hn, hc, Hh, rfl, rfl, by omega, by omega, ?_⟩, by simp [intOf]; omega⟩
                  rw [HT.out, heldL_snoc, if_neg (by rw [HK.out]; decide), List.append_nil]
                  exact hB3.del 0 rfl
              · obtain rfl : j = wn' := by omega
                clear hlj
                have e : ys'.take j = ys' := List.take_of_length_le (by have := HYN.out; omega)
                rw [e] at hB
                clear e
                go_wp2
                go_meet
                exact ⟨hn, hc, Hh, rfl, hnj, hB⟩
          case rest =>
            obtain ⟨hn, hc, Hh, rfl, hhn, hB⟩ := hcut
            clear hB2
            obtain ⟨M, hM⟩ : ∃ M, M = max N 1 := ⟨_, rfl⟩
            have hmx : ∀ wx, (Builtin.max_ #[3, 3] 3 #[.int .i64 N, .int .i64 1]).run Try.prog wx = .ok (.int .i64 M) wx := fun wx => by rw [hM]; exact run_max2 N 1 wx
            obtain ⟨Q, hQ⟩ : ∃ Q, Q = bN N := ⟨_, rfl⟩
            have hmn : ∀ wx, (Builtin.min_ #[3, 3] 3 #[.int .i64 M, .int .i64 64]).run Try.prog wx = .ok (.int .i64 Q) wx := fun wx => by rw [show Q = min M 64 by rw [hQ, hM]; unfold bN; omega]; exact run_min2 M 64 wx
            rw [← hQ] at hB
            have hQb := bN_bd N
            rw [← hQ] at hQb
            have HQE := Lib.hid hQ
            clear hM hQ
            obtain ⟨rq, rc, rg, rd, rV, hB3⟩ := hB.open_ 2 rfl
            clear hB
            go_wp2_with fail
            refine region_plan (calmB_sound _) (.fork [0, 2, 3, 1, 4, 5, 6, 8, 9, 10] (.fork [11] (.check [12] 13 (.fork [13, 7, 14, 15, 16, 17, 19, 18, 20, 21, 22, 23, 24, 26] (.fork [27, 28] (.leaf [29, 25, 30, 31, 32]) (.leaf [25, 29, 30, 31, 32])) (.leaf [25, 27, 28, 29, 30, 31, 32]))) (.fork [7, 12, 13, 14, 15, 16, 17, 19, 18, 20, 21, 22, 23, 24, 26] (.fork [27, 28] (.leaf [29, 25, 30, 31, 32]) (.leaf [25, 29, 30, 31, 32])) (.leaf [25, 27, 28, 29, 30, 31, 32]))) (.fork [7, 11, 12, 13, 14, 15, 16, 17, 19, 18, 20, 21, 22, 23, 24, 26] (.fork [27, 28] (.leaf [29, 25, 30, 31, 32]) (.leaf [25, 29, 30, 31, 32])) (.leaf [25, 27, 28, 29, 30, 31, 32]))) (by kernel_rfl) (by kernel_rfl) (by kernel_rfl) ?_
            have hB4 := hB3.drew
            generalize wc.drew = w9 at *
            have l0 := (Core.ar (hB4.get 2 rfl)).at_
            have HW1 := Lib.hid (show (ys'.map Wr.bare).length ≤ 1000 by rw [List.length_map, HYN.out]; omega)
            have HWL := Lib.hid (show (ys'.map Wr.bare).length = wn' by rw [List.length_map, HYN.out])
            obtain ⟨bq, hbq⟩ : ∃ bq, bq = decide (Q ≤ (wn' : Int)) := ⟨_, rfl⟩
            have HBQ := Lib.hid (show decide (Q ≤ ((ys'.map Wr.bare).length : Int)) = bq by rw [HWL.out, hbq])
            have hbq' := hbq.symm
            clear hbq
            refine wpPlan_fork fun PL0 hPL0 => ?_
            simp only [List.filterMap_cons, List.filterMap_nil, List.getElem?_toArray, List.getElem?_cons_succ, List.getElem?_cons_zero]
            change wpList _ _ _ [_, _, _, _, _, _, _, _, _, _] _ _
            go_wp2_with (first | (go_at_call 62; (with_reducible refine (hB4.len wn' HWL.out).mono ?_); rintro e wb ⟨rfl, rfl⟩) | (go_at_call 63; (with_reducible refine (hB4.full bq HBQ.out HW1.out).mono ?_); rintro e wb ⟨rfl, hX⟩; have hB4 := hB4.below hX; have l0 := (Core.ar (hB4.get 2 rfl)).at_) | (go_at_call 65; (with_reducible refine (hB4.held HW1.out).mono ?_); rintro e wb ⟨Xh, mh, dh, rfl, hoh, hX⟩; rw [heldL_bare] at hoh; have hB4 := hB4.below hX; have l0 := (Core.ar (hB4.get 2 rfl)).at_) | (go_at_call 64; (with_reducible refine (sameHandles_any _ _ _ _ _ _ _ _ _ _ hoh (hB4.get 0 rfl) (held_small hoh HYN.out (by omega))).mono ?_); rintro e wb ⟨rfl, hX⟩; have hB4 := hB4.below hX; have l0 := (Core.ar (hB4.get 2 rfl)).at_) | (go_at_call 56; (with_reducible refine (sslots_any (hB4.get 1 rfl)).mono ?_); rintro e wb ⟨g9, c9, rfl, ho9, hX⟩; have hB4 := hB4.below hX; have l0 := (Core.ar (hB4.get 2 rfl)).at_) | (go_at_call 55; (with_reducible refine (same_any g9 rq 8 c9 rc _ _ (Core.ar (hB4.get 2 rfl)).len (Core.ar (hB4.get 2 rfl)).top (rd_row ho9) (rd_row (Core.ar (hB4.get 2 rfl)).own)).mono ?_); rintro e wz ⟨rfl, hX⟩; have hB4 := hB4.below hX; have l0 := (Core.ar (hB4.get 2 rfl)).at_))
            refine hPL0 _ _ ?_ ?_
            · as_aux_lemma =>
                refine wpPlan_fork fun PL1 hPL1 => ?_
                simp only [List.filterMap_cons, List.filterMap_nil, List.getElem?_toArray, List.getElem?_cons_succ, List.getElem?_cons_zero]
                change wpList _ _ _ [_] _ _
                go_wp2_with (first | (go_at_call 62; (with_reducible refine (hB4.len wn' HWL.out).mono ?_); rintro e wb ⟨rfl, rfl⟩) | (go_at_call 63; (with_reducible refine (hB4.full bq HBQ.out HW1.out).mono ?_); rintro e wb ⟨rfl, hX⟩; have hB4 := hB4.below hX; have l0 := (Core.ar (hB4.get 2 rfl)).at_) | (go_at_call 65; (with_reducible refine (hB4.held HW1.out).mono ?_); rintro e wb ⟨Xh, mh, dh, rfl, hoh, hX⟩; rw [heldL_bare] at hoh; have hB4 := hB4.below hX; have l0 := (Core.ar (hB4.get 2 rfl)).at_) | (go_at_call 64; (with_reducible refine (sameHandles_any _ _ _ _ _ _ _ _ _ _ hoh (hB4.get 0 rfl) (held_small hoh HYN.out (by omega))).mono ?_); rintro e wb ⟨rfl, hX⟩; have hB4 := hB4.below hX; have l0 := (Core.ar (hB4.get 2 rfl)).at_) | (go_at_call 56; (with_reducible refine (sslots_any (hB4.get 1 rfl)).mono ?_); rintro e wb ⟨g9, c9, rfl, ho9, hX⟩; have hB4 := hB4.below hX; have l0 := (Core.ar (hB4.get 2 rfl)).at_) | (go_at_call 55; (with_reducible refine (same_any g9 rq 8 c9 rc _ _ (Core.ar (hB4.get 2 rfl)).len (Core.ar (hB4.get 2 rfl)).top (rd_row ho9) (rd_row (Core.ar (hB4.get 2 rfl)).own)).mono ?_); rintro e wz ⟨rfl, hX⟩; have hB4 := hB4.below hX; have l0 := (Core.ar (hB4.get 2 rfl)).at_))
                refine hPL1 _ _ ?_ ?_
                · as_aux_lemma =>
                    refine wpPlan_check fun PL2 hPL2 => ?_
                    simp only [List.filterMap_cons, List.filterMap_nil, List.getElem?_toArray, List.getElem?_cons_succ, List.getElem?_cons_zero]
                    change wpList _ _ _ [_] _ _
                    go_wp2_with (first | (go_at_call 62; (with_reducible refine (hB4.len wn' HWL.out).mono ?_); rintro e wb ⟨rfl, rfl⟩) | (go_at_call 63; (with_reducible refine (hB4.full bq HBQ.out HW1.out).mono ?_); rintro e wb ⟨rfl, hX⟩; have hB4 := hB4.below hX; have l0 := (Core.ar (hB4.get 2 rfl)).at_) | (go_at_call 65; (with_reducible refine (hB4.held HW1.out).mono ?_); rintro e wb ⟨Xh, mh, dh, rfl, hoh, hX⟩; rw [heldL_bare] at hoh; have hB4 := hB4.below hX; have l0 := (Core.ar (hB4.get 2 rfl)).at_) | (go_at_call 64; (with_reducible refine (sameHandles_any _ _ _ _ _ _ _ _ _ _ hoh (hB4.get 0 rfl) (held_small hoh HYN.out (by omega))).mono ?_); rintro e wb ⟨rfl, hX⟩; have hB4 := hB4.below hX; have l0 := (Core.ar (hB4.get 2 rfl)).at_) | (go_at_call 56; (with_reducible refine (sslots_any (hB4.get 1 rfl)).mono ?_); rintro e wb ⟨g9, c9, rfl, ho9, hX⟩; have hB4 := hB4.below hX; have l0 := (Core.ar (hB4.get 2 rfl)).at_) | (go_at_call 55; (with_reducible refine (same_any g9 rq 8 c9 rc _ _ (Core.ar (hB4.get 2 rfl)).len (Core.ar (hB4.get 2 rfl)).top (rd_row ho9) (rd_row (Core.ar (hB4.get 2 rfl)).own)).mono ?_); rintro e wz ⟨rfl, hX⟩; have hB4 := hB4.below hX; have l0 := (Core.ar (hB4.get 2 rfl)).at_))
                    refine hPL2 _ _ (by first | exact fun _ => .inl ⟨_, _, _, _, rfl, rfl⟩ | exact fun _ => ⟨_, _, rfl⟩) ?_
                    refine wpPlan_fork fun PL3 hPL3 => ?_
                    simp only [List.filterMap_cons, List.filterMap_nil, List.getElem?_toArray, List.getElem?_cons_succ, List.getElem?_cons_zero]
                    change wpList _ _ _ [_, _, _, _, _, _, _, _, _, _, _, _, _, _] _ _
                    go_wp2_with (first | (go_at_call 62; (with_reducible refine (hB4.len wn' HWL.out).mono ?_); rintro e wb ⟨rfl, rfl⟩) | (go_at_call 63; (with_reducible refine (hB4.full bq HBQ.out HW1.out).mono ?_); rintro e wb ⟨rfl, hX⟩; have hB4 := hB4.below hX; have l0 := (Core.ar (hB4.get 2 rfl)).at_) | (go_at_call 65; (with_reducible refine (hB4.held HW1.out).mono ?_); rintro e wb ⟨Xh, mh, dh, rfl, hoh, hX⟩; rw [heldL_bare] at hoh; have hB4 := hB4.below hX; have l0 := (Core.ar (hB4.get 2 rfl)).at_) | (go_at_call 64; (with_reducible refine (sameHandles_any _ _ _ _ _ _ _ _ _ _ hoh (hB4.get 0 rfl) (held_small hoh HYN.out (by omega))).mono ?_); rintro e wb ⟨rfl, hX⟩; have hB4 := hB4.below hX; have l0 := (Core.ar (hB4.get 2 rfl)).at_) | (go_at_call 56; (with_reducible refine (sslots_any (hB4.get 1 rfl)).mono ?_); rintro e wb ⟨g9, c9, rfl, ho9, hX⟩; have hB4 := hB4.below hX; have l0 := (Core.ar (hB4.get 2 rfl)).at_) | (go_at_call 55; (with_reducible refine (same_any g9 rq 8 c9 rc _ _ (Core.ar (hB4.get 2 rfl)).len (Core.ar (hB4.get 2 rfl)).top (rd_row ho9) (rd_row (Core.ar (hB4.get 2 rfl)).own)).mono ?_); rintro e wz ⟨rfl, hX⟩; have hB4 := hB4.below hX; have l0 := (Core.ar (hB4.get 2 rfl)).at_))
                    refine hPL3 _ _ ?_ ?_
                    · as_aux_lemma =>
                        refine wpPlan_fork fun PL4 hPL4 => ?_
                        simp only [List.filterMap_cons, List.filterMap_nil, List.getElem?_toArray, List.getElem?_cons_succ, List.getElem?_cons_zero]
                        change wpList _ _ _ [_, _] _ _
                        go_wp2_with (first | (go_at_call 62; (with_reducible refine (hB4.len wn' HWL.out).mono ?_); rintro e wb ⟨rfl, rfl⟩) | (go_at_call 63; (with_reducible refine (hB4.full bq HBQ.out HW1.out).mono ?_); rintro e wb ⟨rfl, hX⟩; have hB4 := hB4.below hX; have l0 := (Core.ar (hB4.get 2 rfl)).at_) | (go_at_call 65; (with_reducible refine (hB4.held HW1.out).mono ?_); rintro e wb ⟨Xh, mh, dh, rfl, hoh, hX⟩; rw [heldL_bare] at hoh; have hB4 := hB4.below hX; have l0 := (Core.ar (hB4.get 2 rfl)).at_) | (go_at_call 64; (with_reducible refine (sameHandles_any _ _ _ _ _ _ _ _ _ _ hoh (hB4.get 0 rfl) (held_small hoh HYN.out (by omega))).mono ?_); rintro e wb ⟨rfl, hX⟩; have hB4 := hB4.below hX; have l0 := (Core.ar (hB4.get 2 rfl)).at_) | (go_at_call 56; (with_reducible refine (sslots_any (hB4.get 1 rfl)).mono ?_); rintro e wb ⟨g9, c9, rfl, ho9, hX⟩; have hB4 := hB4.below hX; have l0 := (Core.ar (hB4.get 2 rfl)).at_) | (go_at_call 55; (with_reducible refine (same_any g9 rq 8 c9 rc _ _ (Core.ar (hB4.get 2 rfl)).len (Core.ar (hB4.get 2 rfl)).top (rd_row ho9) (rd_row (Core.ar (hB4.get 2 rfl)).own)).mono ?_); rintro e wz ⟨rfl, hX⟩; have hB4 := hB4.below hX; have l0 := (Core.ar (hB4.get 2 rfl)).at_))
                        refine hPL4 _ _ ?_ ?_
                        · as_aux_lemma =>
                            refine wpPlan_leaf fun PL5 hPL5 => ?_
                            simp only [List.filterMap_cons, List.filterMap_nil, List.getElem?_toArray, List.getElem?_cons_succ, List.getElem?_cons_zero]
                            change wpList _ _ _ [_, _, _, _, _] _ _
                            go_wp2_with (first | (go_at_call 62; (with_reducible refine (hB4.len wn' HWL.out).mono ?_); rintro e wb ⟨rfl, rfl⟩) | (go_at_call 63; (with_reducible refine (hB4.full bq HBQ.out HW1.out).mono ?_); rintro e wb ⟨rfl, hX⟩; have hB4 := hB4.below hX; have l0 := (Core.ar (hB4.get 2 rfl)).at_) | (go_at_call 65; (with_reducible refine (hB4.held HW1.out).mono ?_); rintro e wb ⟨Xh, mh, dh, rfl, hoh, hX⟩; rw [heldL_bare] at hoh; have hB4 := hB4.below hX; have l0 := (Core.ar (hB4.get 2 rfl)).at_) | (go_at_call 64; (with_reducible refine (sameHandles_any _ _ _ _ _ _ _ _ _ _ hoh (hB4.get 0 rfl) (held_small hoh HYN.out (by omega))).mono ?_); rintro e wb ⟨rfl, hX⟩; have hB4 := hB4.below hX; have l0 := (Core.ar (hB4.get 2 rfl)).at_) | (go_at_call 56; (with_reducible refine (sslots_any (hB4.get 1 rfl)).mono ?_); rintro e wb ⟨g9, c9, rfl, ho9, hX⟩; have hB4 := hB4.below hX; have l0 := (Core.ar (hB4.get 2 rfl)).at_) | (go_at_call 55; (with_reducible refine (same_any g9 rq 8 c9 rc _ _ (Core.ar (hB4.get 2 rfl)).len (Core.ar (hB4.get 2 rfl)).top (rd_row ho9) (rd_row (Core.ar (hB4.get 2 rfl)).own)).mono ?_); rintro e wz ⟨rfl, hX⟩; have hB4 := hB4.below hX; have l0 := (Core.ar (hB4.get 2 rfl)).at_))
                            exact ⟨⟨k + 1, wn', wcp', A', ys', S', L', F', G', rfl, rfl, by omega, by omega, by omega, HS'.out, HY'.out, (by rw [← HQE.out]; exact (hB4.del 0 rfl).shut 1 rfl)⟩, by simp [intOf]; omega⟩
                        · as_aux_lemma =>
                            refine wpPlan_leaf fun PL5 hPL5 => ?_
                            simp only [List.filterMap_cons, List.filterMap_nil, List.getElem?_toArray, List.getElem?_cons_succ, List.getElem?_cons_zero]
                            change wpList _ _ _ [_, _, _, _, _] _ _
                            go_wp2_with (first | (go_at_call 62; (with_reducible refine (hB4.len wn' HWL.out).mono ?_); rintro e wb ⟨rfl, rfl⟩) | (go_at_call 63; (with_reducible refine (hB4.full bq HBQ.out HW1.out).mono ?_); rintro e wb ⟨rfl, hX⟩; have hB4 := hB4.below hX; have l0 := (Core.ar (hB4.get 2 rfl)).at_) | (go_at_call 65; (with_reducible refine (hB4.held HW1.out).mono ?_); rintro e wb ⟨Xh, mh, dh, rfl, hoh, hX⟩; rw [heldL_bare] at hoh; have hB4 := hB4.below hX; have l0 := (Core.ar (hB4.get 2 rfl)).at_) | (go_at_call 64; (with_reducible refine (sameHandles_any _ _ _ _ _ _ _ _ _ _ hoh (hB4.get 0 rfl) (held_small hoh HYN.out (by omega))).mono ?_); rintro e wb ⟨rfl, hX⟩; have hB4 := hB4.below hX; have l0 := (Core.ar (hB4.get 2 rfl)).at_) | (go_at_call 56; (with_reducible refine (sslots_any (hB4.get 1 rfl)).mono ?_); rintro e wb ⟨g9, c9, rfl, ho9, hX⟩; have hB4 := hB4.below hX; have l0 := (Core.ar (hB4.get 2 rfl)).at_) | (go_at_call 55; (with_reducible refine (same_any g9 rq 8 c9 rc _ _ (Core.ar (hB4.get 2 rfl)).len (Core.ar (hB4.get 2 rfl)).top (rd_row ho9) (rd_row (Core.ar (hB4.get 2 rfl)).own)).mono ?_); rintro e wz ⟨rfl, hX⟩; have hB4 := hB4.below hX; have l0 := (Core.ar (hB4.get 2 rfl)).at_))
                            exact ⟨⟨k + 1, wn', wcp', A', ys', S', L', F', G', rfl, rfl, by omega, by omega, by omega, HS'.out, HY'.out, (by rw [← HQE.out]; exact (hB4.del 0 rfl).shut 1 rfl)⟩, by simp [intOf]; omega⟩
                    · as_aux_lemma =>
                        refine wpPlan_leaf fun PL4 hPL4 => ?_
                        simp only [List.filterMap_cons, List.filterMap_nil, List.getElem?_toArray, List.getElem?_cons_succ, List.getElem?_cons_zero]
                        change wpList _ _ _ [_, _, _, _, _, _, _] _ _
                        go_wp2_with (first | (go_at_call 62; (with_reducible refine (hB4.len wn' HWL.out).mono ?_); rintro e wb ⟨rfl, rfl⟩) | (go_at_call 63; (with_reducible refine (hB4.full bq HBQ.out HW1.out).mono ?_); rintro e wb ⟨rfl, hX⟩; have hB4 := hB4.below hX; have l0 := (Core.ar (hB4.get 2 rfl)).at_) | (go_at_call 65; (with_reducible refine (hB4.held HW1.out).mono ?_); rintro e wb ⟨Xh, mh, dh, rfl, hoh, hX⟩; rw [heldL_bare] at hoh; have hB4 := hB4.below hX; have l0 := (Core.ar (hB4.get 2 rfl)).at_) | (go_at_call 64; (with_reducible refine (sameHandles_any _ _ _ _ _ _ _ _ _ _ hoh (hB4.get 0 rfl) (held_small hoh HYN.out (by omega))).mono ?_); rintro e wb ⟨rfl, hX⟩; have hB4 := hB4.below hX; have l0 := (Core.ar (hB4.get 2 rfl)).at_) | (go_at_call 56; (with_reducible refine (sslots_any (hB4.get 1 rfl)).mono ?_); rintro e wb ⟨g9, c9, rfl, ho9, hX⟩; have hB4 := hB4.below hX; have l0 := (Core.ar (hB4.get 2 rfl)).at_) | (go_at_call 55; (with_reducible refine (same_any g9 rq 8 c9 rc _ _ (Core.ar (hB4.get 2 rfl)).len (Core.ar (hB4.get 2 rfl)).top (rd_row ho9) (rd_row (Core.ar (hB4.get 2 rfl)).own)).mono ?_); rintro e wz ⟨rfl, hX⟩; have hB4 := hB4.below hX; have l0 := (Core.ar (hB4.get 2 rfl)).at_))
                        exact ⟨⟨k + 1, wn', wcp', A', ys', S', L', F', G', rfl, rfl, by omega, by omega, by omega, HS'.out, HY'.out, (by rw [← HQE.out]; exact (hB4.del 0 rfl).shut 1 rfl)⟩, by simp [intOf]; omega⟩
                · as_aux_lemma =>
                    refine wpPlan_fork fun PL2 hPL2 => ?_
                    simp only [List.filterMap_cons, List.filterMap_nil, List.getElem?_toArray, List.getElem?_cons_succ, List.getElem?_cons_zero]
                    change wpList _ _ _ [_, _, _, _, _, _, _, _, _, _, _, _, _, _, _] _ _
                    go_wp2_with (first | (go_at_call 62; (with_reducible refine (hB4.len wn' HWL.out).mono ?_); rintro e wb ⟨rfl, rfl⟩) | (go_at_call 63; (with_reducible refine (hB4.full bq HBQ.out HW1.out).mono ?_); rintro e wb ⟨rfl, hX⟩; have hB4 := hB4.below hX; have l0 := (Core.ar (hB4.get 2 rfl)).at_) | (go_at_call 65; (with_reducible refine (hB4.held HW1.out).mono ?_); rintro e wb ⟨Xh, mh, dh, rfl, hoh, hX⟩; rw [heldL_bare] at hoh; have hB4 := hB4.below hX; have l0 := (Core.ar (hB4.get 2 rfl)).at_) | (go_at_call 64; (with_reducible refine (sameHandles_any _ _ _ _ _ _ _ _ _ _ hoh (hB4.get 0 rfl) (held_small hoh HYN.out (by omega))).mono ?_); rintro e wb ⟨rfl, hX⟩; have hB4 := hB4.below hX; have l0 := (Core.ar (hB4.get 2 rfl)).at_) | (go_at_call 56; (with_reducible refine (sslots_any (hB4.get 1 rfl)).mono ?_); rintro e wb ⟨g9, c9, rfl, ho9, hX⟩; have hB4 := hB4.below hX; have l0 := (Core.ar (hB4.get 2 rfl)).at_) | (go_at_call 55; (with_reducible refine (same_any g9 rq 8 c9 rc _ _ (Core.ar (hB4.get 2 rfl)).len (Core.ar (hB4.get 2 rfl)).top (rd_row ho9) (rd_row (Core.ar (hB4.get 2 rfl)).own)).mono ?_); rintro e wz ⟨rfl, hX⟩; have hB4 := hB4.below hX; have l0 := (Core.ar (hB4.get 2 rfl)).at_))
                    refine hPL2 _ _ ?_ ?_
                    · as_aux_lemma =>
                        refine wpPlan_fork fun PL3 hPL3 => ?_
                        simp only [List.filterMap_cons, List.filterMap_nil, List.getElem?_toArray, List.getElem?_cons_succ, List.getElem?_cons_zero]
                        change wpList _ _ _ [_, _] _ _
                        go_wp2_with (first | (go_at_call 62; (with_reducible refine (hB4.len wn' HWL.out).mono ?_); rintro e wb ⟨rfl, rfl⟩) | (go_at_call 63; (with_reducible refine (hB4.full bq HBQ.out HW1.out).mono ?_); rintro e wb ⟨rfl, hX⟩; have hB4 := hB4.below hX; have l0 := (Core.ar (hB4.get 2 rfl)).at_) | (go_at_call 65; (with_reducible refine (hB4.held HW1.out).mono ?_); rintro e wb ⟨Xh, mh, dh, rfl, hoh, hX⟩; rw [heldL_bare] at hoh; have hB4 := hB4.below hX; have l0 := (Core.ar (hB4.get 2 rfl)).at_) | (go_at_call 64; (with_reducible refine (sameHandles_any _ _ _ _ _ _ _ _ _ _ hoh (hB4.get 0 rfl) (held_small hoh HYN.out (by omega))).mono ?_); rintro e wb ⟨rfl, hX⟩; have hB4 := hB4.below hX; have l0 := (Core.ar (hB4.get 2 rfl)).at_) | (go_at_call 56; (with_reducible refine (sslots_any (hB4.get 1 rfl)).mono ?_); rintro e wb ⟨g9, c9, rfl, ho9, hX⟩; have hB4 := hB4.below hX; have l0 := (Core.ar (hB4.get 2 rfl)).at_) | (go_at_call 55; (with_reducible refine (same_any g9 rq 8 c9 rc _ _ (Core.ar (hB4.get 2 rfl)).len (Core.ar (hB4.get 2 rfl)).top (rd_row ho9) (rd_row (Core.ar (hB4.get 2 rfl)).own)).mono ?_); rintro e wz ⟨rfl, hX⟩; have hB4 := hB4.below hX; have l0 := (Core.ar (hB4.get 2 rfl)).at_))
                        refine hPL3 _ _ ?_ ?_
                        · as_aux_lemma =>
                            refine wpPlan_leaf fun PL4 hPL4 => ?_
                            simp only [List.filterMap_cons, List.filterMap_nil, List.getElem?_toArray, List.getElem?_cons_succ, List.getElem?_cons_zero]
                            change wpList _ _ _ [_, _, _, _, _] _ _
                            go_wp2_with (first | (go_at_call 62; (with_reducible refine (hB4.len wn' HWL.out).mono ?_); rintro e wb ⟨rfl, rfl⟩) | (go_at_call 63; (with_reducible refine (hB4.full bq HBQ.out HW1.out).mono ?_); rintro e wb ⟨rfl, hX⟩; have hB4 := hB4.below hX; have l0 := (Core.ar (hB4.get 2 rfl)).at_) | (go_at_call 65; (with_reducible refine (hB4.held HW1.out).mono ?_); rintro e wb ⟨Xh, mh, dh, rfl, hoh, hX⟩; rw [heldL_bare] at hoh; have hB4 := hB4.below hX; have l0 := (Core.ar (hB4.get 2 rfl)).at_) | (go_at_call 64; (with_reducible refine (sameHandles_any _ _ _ _ _ _ _ _ _ _ hoh (hB4.get 0 rfl) (held_small hoh HYN.out (by omega))).mono ?_); rintro e wb ⟨rfl, hX⟩; have hB4 := hB4.below hX; have l0 := (Core.ar (hB4.get 2 rfl)).at_) | (go_at_call 56; (with_reducible refine (sslots_any (hB4.get 1 rfl)).mono ?_); rintro e wb ⟨g9, c9, rfl, ho9, hX⟩; have hB4 := hB4.below hX; have l0 := (Core.ar (hB4.get 2 rfl)).at_) | (go_at_call 55; (with_reducible refine (same_any g9 rq 8 c9 rc _ _ (Core.ar (hB4.get 2 rfl)).len (Core.ar (hB4.get 2 rfl)).top (rd_row ho9) (rd_row (Core.ar (hB4.get 2 rfl)).own)).mono ?_); rintro e wz ⟨rfl, hX⟩; have hB4 := hB4.below hX; have l0 := (Core.ar (hB4.get 2 rfl)).at_))
                            exact ⟨⟨k + 1, wn', wcp', A', ys', S', L', F', G', rfl, rfl, by omega, by omega, by omega, HS'.out, HY'.out, (by rw [← HQE.out]; exact (hB4.del 0 rfl).shut 1 rfl)⟩, by simp [intOf]; omega⟩
                        · as_aux_lemma =>
                            refine wpPlan_leaf fun PL4 hPL4 => ?_
                            simp only [List.filterMap_cons, List.filterMap_nil, List.getElem?_toArray, List.getElem?_cons_succ, List.getElem?_cons_zero]
                            change wpList _ _ _ [_, _, _, _, _] _ _
                            go_wp2_with (first | (go_at_call 62; (with_reducible refine (hB4.len wn' HWL.out).mono ?_); rintro e wb ⟨rfl, rfl⟩) | (go_at_call 63; (with_reducible refine (hB4.full bq HBQ.out HW1.out).mono ?_); rintro e wb ⟨rfl, hX⟩; have hB4 := hB4.below hX; have l0 := (Core.ar (hB4.get 2 rfl)).at_) | (go_at_call 65; (with_reducible refine (hB4.held HW1.out).mono ?_); rintro e wb ⟨Xh, mh, dh, rfl, hoh, hX⟩; rw [heldL_bare] at hoh; have hB4 := hB4.below hX; have l0 := (Core.ar (hB4.get 2 rfl)).at_) | (go_at_call 64; (with_reducible refine (sameHandles_any _ _ _ _ _ _ _ _ _ _ hoh (hB4.get 0 rfl) (held_small hoh HYN.out (by omega))).mono ?_); rintro e wb ⟨rfl, hX⟩; have hB4 := hB4.below hX; have l0 := (Core.ar (hB4.get 2 rfl)).at_) | (go_at_call 56; (with_reducible refine (sslots_any (hB4.get 1 rfl)).mono ?_); rintro e wb ⟨g9, c9, rfl, ho9, hX⟩; have hB4 := hB4.below hX; have l0 := (Core.ar (hB4.get 2 rfl)).at_) | (go_at_call 55; (with_reducible refine (same_any g9 rq 8 c9 rc _ _ (Core.ar (hB4.get 2 rfl)).len (Core.ar (hB4.get 2 rfl)).top (rd_row ho9) (rd_row (Core.ar (hB4.get 2 rfl)).own)).mono ?_); rintro e wz ⟨rfl, hX⟩; have hB4 := hB4.below hX; have l0 := (Core.ar (hB4.get 2 rfl)).at_))
                            exact ⟨⟨k + 1, wn', wcp', A', ys', S', L', F', G', rfl, rfl, by omega, by omega, by omega, HS'.out, HY'.out, (by rw [← HQE.out]; exact (hB4.del 0 rfl).shut 1 rfl)⟩, by simp [intOf]; omega⟩
                    · as_aux_lemma =>
                        refine wpPlan_leaf fun PL3 hPL3 => ?_
                        simp only [List.filterMap_cons, List.filterMap_nil, List.getElem?_toArray, List.getElem?_cons_succ, List.getElem?_cons_zero]
                        change wpList _ _ _ [_, _, _, _, _, _, _] _ _
                        go_wp2_with (first | (go_at_call 62; (with_reducible refine (hB4.len wn' HWL.out).mono ?_); rintro e wb ⟨rfl, rfl⟩) | (go_at_call 63; (with_reducible refine (hB4.full bq HBQ.out HW1.out).mono ?_); rintro e wb ⟨rfl, hX⟩; have hB4 := hB4.below hX; have l0 := (Core.ar (hB4.get 2 rfl)).at_) | (go_at_call 65; (with_reducible refine (hB4.held HW1.out).mono ?_); rintro e wb ⟨Xh, mh, dh, rfl, hoh, hX⟩; rw [heldL_bare] at hoh; have hB4 := hB4.below hX; have l0 := (Core.ar (hB4.get 2 rfl)).at_) | (go_at_call 64; (with_reducible refine (sameHandles_any _ _ _ _ _ _ _ _ _ _ hoh (hB4.get 0 rfl) (held_small hoh HYN.out (by omega))).mono ?_); rintro e wb ⟨rfl, hX⟩; have hB4 := hB4.below hX; have l0 := (Core.ar (hB4.get 2 rfl)).at_) | (go_at_call 56; (with_reducible refine (sslots_any (hB4.get 1 rfl)).mono ?_); rintro e wb ⟨g9, c9, rfl, ho9, hX⟩; have hB4 := hB4.below hX; have l0 := (Core.ar (hB4.get 2 rfl)).at_) | (go_at_call 55; (with_reducible refine (same_any g9 rq 8 c9 rc _ _ (Core.ar (hB4.get 2 rfl)).len (Core.ar (hB4.get 2 rfl)).top (rd_row ho9) (rd_row (Core.ar (hB4.get 2 rfl)).own)).mono ?_); rintro e wz ⟨rfl, hX⟩; have hB4 := hB4.below hX; have l0 := (Core.ar (hB4.get 2 rfl)).at_))
                        exact ⟨⟨k + 1, wn', wcp', A', ys', S', L', F', G', rfl, rfl, by omega, by omega, by omega, HS'.out, HY'.out, (by rw [← HQE.out]; exact (hB4.del 0 rfl).shut 1 rfl)⟩, by simp [intOf]; omega⟩
            · as_aux_lemma =>
                refine wpPlan_fork fun PL1 hPL1 => ?_
                simp only [List.filterMap_cons, List.filterMap_nil, List.getElem?_toArray, List.getElem?_cons_succ, List.getElem?_cons_zero]
                change wpList _ _ _ [_, _, _, _, _, _, _, _, _, _, _, _, _, _, _, _] _ _
                go_wp2_with (first | (go_at_call 62; (with_reducible refine (hB4.len wn' HWL.out).mono ?_); rintro e wb ⟨rfl, rfl⟩) | (go_at_call 63; (with_reducible refine (hB4.full bq HBQ.out HW1.out).mono ?_); rintro e wb ⟨rfl, hX⟩; have hB4 := hB4.below hX; have l0 := (Core.ar (hB4.get 2 rfl)).at_) | (go_at_call 65; (with_reducible refine (hB4.held HW1.out).mono ?_); rintro e wb ⟨Xh, mh, dh, rfl, hoh, hX⟩; rw [heldL_bare] at hoh; have hB4 := hB4.below hX; have l0 := (Core.ar (hB4.get 2 rfl)).at_) | (go_at_call 64; (with_reducible refine (sameHandles_any _ _ _ _ _ _ _ _ _ _ hoh (hB4.get 0 rfl) (held_small hoh HYN.out (by omega))).mono ?_); rintro e wb ⟨rfl, hX⟩; have hB4 := hB4.below hX; have l0 := (Core.ar (hB4.get 2 rfl)).at_) | (go_at_call 56; (with_reducible refine (sslots_any (hB4.get 1 rfl)).mono ?_); rintro e wb ⟨g9, c9, rfl, ho9, hX⟩; have hB4 := hB4.below hX; have l0 := (Core.ar (hB4.get 2 rfl)).at_) | (go_at_call 55; (with_reducible refine (same_any g9 rq 8 c9 rc _ _ (Core.ar (hB4.get 2 rfl)).len (Core.ar (hB4.get 2 rfl)).top (rd_row ho9) (rd_row (Core.ar (hB4.get 2 rfl)).own)).mono ?_); rintro e wz ⟨rfl, hX⟩; have hB4 := hB4.below hX; have l0 := (Core.ar (hB4.get 2 rfl)).at_))
                refine hPL1 _ _ ?_ ?_
                · as_aux_lemma =>
                    refine wpPlan_fork fun PL2 hPL2 => ?_
                    simp only [List.filterMap_cons, List.filterMap_nil, List.getElem?_toArray, List.getElem?_cons_succ, List.getElem?_cons_zero]
                    change wpList _ _ _ [_, _] _ _
                    go_wp2_with (first | (go_at_call 62; (with_reducible refine (hB4.len wn' HWL.out).mono ?_); rintro e wb ⟨rfl, rfl⟩) | (go_at_call 63; (with_reducible refine (hB4.full bq HBQ.out HW1.out).mono ?_); rintro e wb ⟨rfl, hX⟩; have hB4 := hB4.below hX; have l0 := (Core.ar (hB4.get 2 rfl)).at_) | (go_at_call 65; (with_reducible refine (hB4.held HW1.out).mono ?_); rintro e wb ⟨Xh, mh, dh, rfl, hoh, hX⟩; rw [heldL_bare] at hoh; have hB4 := hB4.below hX; have l0 := (Core.ar (hB4.get 2 rfl)).at_) | (go_at_call 64; (with_reducible refine (sameHandles_any _ _ _ _ _ _ _ _ _ _ hoh (hB4.get 0 rfl) (held_small hoh HYN.out (by omega))).mono ?_); rintro e wb ⟨rfl, hX⟩; have hB4 := hB4.below hX; have l0 := (Core.ar (hB4.get 2 rfl)).at_) | (go_at_call 56; (with_reducible refine (sslots_any (hB4.get 1 rfl)).mono ?_); rintro e wb ⟨g9, c9, rfl, ho9, hX⟩; have hB4 := hB4.below hX; have l0 := (Core.ar (hB4.get 2 rfl)).at_) | (go_at_call 55; (with_reducible refine (same_any g9 rq 8 c9 rc _ _ (Core.ar (hB4.get 2 rfl)).len (Core.ar (hB4.get 2 rfl)).top (rd_row ho9) (rd_row (Core.ar (hB4.get 2 rfl)).own)).mono ?_); rintro e wz ⟨rfl, hX⟩; have hB4 := hB4.below hX; have l0 := (Core.ar (hB4.get 2 rfl)).at_))
                    refine hPL2 _ _ ?_ ?_
                    · as_aux_lemma =>
                        refine wpPlan_leaf fun PL3 hPL3 => ?_
                        simp only [List.filterMap_cons, List.filterMap_nil, List.getElem?_toArray, List.getElem?_cons_succ, List.getElem?_cons_zero]
                        change wpList _ _ _ [_, _, _, _, _] _ _
                        go_wp2_with (first | (go_at_call 62; (with_reducible refine (hB4.len wn' HWL.out).mono ?_); rintro e wb ⟨rfl, rfl⟩) | (go_at_call 63; (with_reducible refine (hB4.full bq HBQ.out HW1.out).mono ?_); rintro e wb ⟨rfl, hX⟩; have hB4 := hB4.below hX; have l0 := (Core.ar (hB4.get 2 rfl)).at_) | (go_at_call 65; (with_reducible refine (hB4.held HW1.out).mono ?_); rintro e wb ⟨Xh, mh, dh, rfl, hoh, hX⟩; rw [heldL_bare] at hoh; have hB4 := hB4.below hX; have l0 := (Core.ar (hB4.get 2 rfl)).at_) | (go_at_call 64; (with_reducible refine (sameHandles_any _ _ _ _ _ _ _ _ _ _ hoh (hB4.get 0 rfl) (held_small hoh HYN.out (by omega))).mono ?_); rintro e wb ⟨rfl, hX⟩; have hB4 := hB4.below hX; have l0 := (Core.ar (hB4.get 2 rfl)).at_) | (go_at_call 56; (with_reducible refine (sslots_any (hB4.get 1 rfl)).mono ?_); rintro e wb ⟨g9, c9, rfl, ho9, hX⟩; have hB4 := hB4.below hX; have l0 := (Core.ar (hB4.get 2 rfl)).at_) | (go_at_call 55; (with_reducible refine (same_any g9 rq 8 c9 rc _ _ (Core.ar (hB4.get 2 rfl)).len (Core.ar (hB4.get 2 rfl)).top (rd_row ho9) (rd_row (Core.ar (hB4.get 2 rfl)).own)).mono ?_); rintro e wz ⟨rfl, hX⟩; have hB4 := hB4.below hX; have l0 := (Core.ar (hB4.get 2 rfl)).at_))
                        exact ⟨⟨k + 1, wn', wcp', A', ys', S', L', F', G', rfl, rfl, by omega, by omega, by omega, HS'.out, HY'.out, (by rw [← HQE.out]; exact (hB4.del 0 rfl).shut 1 rfl)⟩, by simp [intOf]; omega⟩
                    · as_aux_lemma =>
                        refine wpPlan_leaf fun PL3 hPL3 => ?_
                        simp only [List.filterMap_cons, List.filterMap_nil, List.getElem?_toArray, List.getElem?_cons_succ, List.getElem?_cons_zero]
                        change wpList _ _ _ [_, _, _, _, _] _ _
                        go_wp2_with (first | (go_at_call 62; (with_reducible refine (hB4.len wn' HWL.out).mono ?_); rintro e wb ⟨rfl, rfl⟩) | (go_at_call 63; (with_reducible refine (hB4.full bq HBQ.out HW1.out).mono ?_); rintro e wb ⟨rfl, hX⟩; have hB4 := hB4.below hX; have l0 := (Core.ar (hB4.get 2 rfl)).at_) | (go_at_call 65; (with_reducible refine (hB4.held HW1.out).mono ?_); rintro e wb ⟨Xh, mh, dh, rfl, hoh, hX⟩; rw [heldL_bare] at hoh; have hB4 := hB4.below hX; have l0 := (Core.ar (hB4.get 2 rfl)).at_) | (go_at_call 64; (with_reducible refine (sameHandles_any _ _ _ _ _ _ _ _ _ _ hoh (hB4.get 0 rfl) (held_small hoh HYN.out (by omega))).mono ?_); rintro e wb ⟨rfl, hX⟩; have hB4 := hB4.below hX; have l0 := (Core.ar (hB4.get 2 rfl)).at_) | (go_at_call 56; (with_reducible refine (sslots_any (hB4.get 1 rfl)).mono ?_); rintro e wb ⟨g9, c9, rfl, ho9, hX⟩; have hB4 := hB4.below hX; have l0 := (Core.ar (hB4.get 2 rfl)).at_) | (go_at_call 55; (with_reducible refine (same_any g9 rq 8 c9 rc _ _ (Core.ar (hB4.get 2 rfl)).len (Core.ar (hB4.get 2 rfl)).top (rd_row ho9) (rd_row (Core.ar (hB4.get 2 rfl)).own)).mono ?_); rintro e wz ⟨rfl, hX⟩; have hB4 := hB4.below hX; have l0 := (Core.ar (hB4.get 2 rfl)).at_))
                        exact ⟨⟨k + 1, wn', wcp', A', ys', S', L', F', G', rfl, rfl, by omega, by omega, by omega, HS'.out, HY'.out, (by rw [← HQE.out]; exact (hB4.del 0 rfl).shut 1 rfl)⟩, by simp [intOf]; omega⟩
                · as_aux_lemma =>
                    refine wpPlan_leaf fun PL2 hPL2 => ?_
                    simp only [List.filterMap_cons, List.filterMap_nil, List.getElem?_toArray, List.getElem?_cons_succ, List.getElem?_cons_zero]
                    change wpList _ _ _ [_, _, _, _, _, _, _] _ _
                    go_wp2_with (first | (go_at_call 62; (with_reducible refine (hB4.len wn' HWL.out).mono ?_); rintro e wb ⟨rfl, rfl⟩) | (go_at_call 63; (with_reducible refine (hB4.full bq HBQ.out HW1.out).mono ?_); rintro e wb ⟨rfl, hX⟩; have hB4 := hB4.below hX; have l0 := (Core.ar (hB4.get 2 rfl)).at_) | (go_at_call 65; (with_reducible refine (hB4.held HW1.out).mono ?_); rintro e wb ⟨Xh, mh, dh, rfl, hoh, hX⟩; rw [heldL_bare] at hoh; have hB4 := hB4.below hX; have l0 := (Core.ar (hB4.get 2 rfl)).at_) | (go_at_call 64; (with_reducible refine (sameHandles_any _ _ _ _ _ _ _ _ _ _ hoh (hB4.get 0 rfl) (held_small hoh HYN.out (by omega))).mono ?_); rintro e wb ⟨rfl, hX⟩; have hB4 := hB4.below hX; have l0 := (Core.ar (hB4.get 2 rfl)).at_) | (go_at_call 56; (with_reducible refine (sslots_any (hB4.get 1 rfl)).mono ?_); rintro e wb ⟨g9, c9, rfl, ho9, hX⟩; have hB4 := hB4.below hX; have l0 := (Core.ar (hB4.get 2 rfl)).at_) | (go_at_call 55; (with_reducible refine (same_any g9 rq 8 c9 rc _ _ (Core.ar (hB4.get 2 rfl)).len (Core.ar (hB4.get 2 rfl)).top (rd_row ho9) (rd_row (Core.ar (hB4.get 2 rfl)).own)).mono ?_); rintro e wz ⟨rfl, hX⟩; have hB4 := hB4.below hX; have l0 := (Core.ar (hB4.get 2 rfl)).at_))
                    exact ⟨⟨k + 1, wn', wcp', A', ys', S', L', F', G', rfl, rfl, by omega, by omega, by omega, HS'.out, HY'.out, (by rw [← HQE.out]; exact (hB4.del 0 rfl).shut 1 rfl)⟩, by simp [intOf]; omega⟩
      · have hx : ¬ k < q ∨ (k < q ∧ ¬ k < 80) := by omega
        clear hlt
        rcases hx with hx | ⟨hx, hx2⟩
        all_goals
          go_wp2
          go_ret
          exact ⟨rfl, hB.b⟩
end Go.Proofs.Ytknlkmencdlpcaa
