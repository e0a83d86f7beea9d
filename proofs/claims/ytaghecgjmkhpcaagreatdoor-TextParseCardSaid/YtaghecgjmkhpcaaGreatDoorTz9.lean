/-
The reference's one (package sluicegateref30): its state; what is read of the first words.
-/
import Derived.Test.YtaghecgjmkhpcaaGreatDoorTz8
import Derived.Test.YtaghecgjmkhpcaaGreatDoorTxD
import Derived.Test.YtaghecgjmkhpcaaGreatDoorTzP
namespace Go.Proofs.YtaghecgjmkhpcaaGreatDoor
set_option linter.unusedVariables false
set_option linter.unusedSimpArgs false
open Go Go.RowKit

/-- The state of one: the words, the operation (block g), the result's cell (block w0.heap.size). -/
structure St (w0 w : World) (g : Nat) (A : Option Addr) (n d : Nat) (ws : List (List UInt8)) (x : Sp) : Prop where
  hg : w0.heap.size < g
  hi : w.heap[g]? = some (.cells (spA x) 27 (0, 0))
  hz : w.heap[w0.heap.size]? = some (.cells zA 27 (0, 0))
  so : SpO w w0.heap.size x
  own : w.ownsRow w0.heap.size 9 1 (.slice A n d) n (strs ws)
  b : Below w0.heap.size w0 w
theorem St.below {w0 w w' : World} {g : Nat} {A : Option Addr} {n d : Nat} {ws : List (List UInt8)} {x : Sp} (h : St w0 w g A n d ws x) (hb : Below w.heap.size w w') : St w0 w' g A n d ws x :=
  ⟨h.hg, blk_below h.hi hb, blk_below h.hz hb, h.so.below hb, h.own.kept (own_below hb) (own_none _), h.b.trans (hb.mono h.b.size)⟩
theorem St.set {w0 w : World} {g : Nat} {A : Option Addr} {n d : Nat} {ws : List (List UInt8)} {x x' : Sp} (h : St w0 w g A n d ws x) (j : Nat) (v : Value) (ha : (spA x).setIfInBounds j v = spA x') (hs : SpO w w0.heap.size x') : St w0 (w.setCell ⟨g, j, none⟩ v) g A n d ws x' := by
  have hgr := set_one w g j v
  have hg := h.hg
  refine ⟨h.hg, by rw [← ha]; exact heap_setCell_same w g j _ _ v h.hi, ?_, hs.grown hgr h.hi, h.own.kept hgr (own_off h.own h.hi (by decide)), h.b.grown hgr h.b.size (fun q hq => by injection hq with hq; omega)⟩
  exact (hgr.block _ (blk_in h.hz) (fun e => by injection e with e; omega)).trans h.hz
theorem St.app {w0 w w' : World} {g : Nat} {A : Option Addr} {n d : Nat} {ws : List (List UInt8)} {x : Sp} (h : St w0 w g A n d ws x) (hg : w.grownBy w' (x.A.map Addr.block)) :
    w'.heap[g]? = some (.cells (spA x) 27 (0, 0)) ∧ w'.heap[w0.heap.size]? = some (.cells zA 27 (0, 0)) ∧ w'.ownsRow w0.heap.size 5 1 (.slice x.B x.bn x.bc) x.bn (bys x.o.bs) ∧ w'.ownsRow w0.heap.size 9 1 (.slice A n d) n (strs ws) ∧ Below w0.heap.size w0 w' := by
  have key : ∀ p (cs : Array Value), w.heap[p]? = some (Obj.cells cs 27 (0, 0)) → w'.heap[p]? = some (Obj.cells cs 27 (0, 0)) := fun p cs hp => by
    refine (hg.block p (blk_in hp) ?_).trans hp
    intro e
    rcases own_off h.so.oa hp (by decide) with h1 | h1
    · rw [ownBlock_slice] at h1
      rw [h1] at e
      cases e
    · rw [ownBlock_slice] at h1
      exact h1 (by first | exact e | exact e.symm)
  exact ⟨key _ _ h.hi, key _ _ h.hz, own_otherT h.so.oa h.so.ob (show (5 : TypeId) ≠ 36 by decide) hg, own_otherT h.so.oa h.own (show (9 : TypeId) ≠ 36 by decide) hg, h.b.grown hg h.b.size (own_from h.so.oa)⟩
theorem u32s_snoc (ss : List Nat) (v : Nat) : u32s ss ++ u32s [v] = u32s (ss ++ [v]) := by simp [u32s]
theorem lit_u32 (w : World) (v : Nat) : Rd (w.alloc (Obj.cells #[.int .u32 (v : Int)] 36)) (some ⟨w.heap.size, 0, none⟩) (u32s [v]) :=
  Rd.own (World.ownsRow_lit (base := 0) (e := 36) (size := 1) w #[.int .u32 (v : Int)] 1 (Nat.zero_le _) (by unfold maxLen; omega) rfl)
theorem St.app5 {w0 w w' : World} {g : Nat} {A A7 : Option Addr} {n d m c7 v : Nat} {ws : List (List UInt8)} {x : Sp} (h : St w0 w g A n d ws x) (hg : w.grownBy w' (x.A.map Addr.block))
    (ho : w'.ownsRow w0.heap.size 36 1 (.slice A7 m c7) m (u32s (x.o.ss ++ [v]))) (hv : v < 4294967296) :
    St w0 (w'.setCell ⟨g, 5, none⟩ (.slice A7 m c7)) g A n d ws ⟨⟨x.o.k, x.o.p, x.o.s, x.o.y, x.o.nm, x.o.ss ++ [v], x.o.bs⟩, A7, m, c7, x.B, x.bn, x.bc⟩ := by
  obtain ⟨q1, q2, q3, q4, q5⟩ := h.app hg
  have hgr := set_one w' g 5 (.slice A7 m c7)
  have hgg := h.hg
  refine ⟨h.hg, heap_setCell_same w' g 5 _ _ (.slice A7 m c7) q1, ?_, ⟨ho.kept hgr (own_off ho q1 (by decide)), q3.kept hgr (own_off q3 q1 (by decide)), ?_, h.so.nm⟩, q4.kept hgr (own_off q4 q1 (by decide)), q5.grown hgr q5.size (fun q hq => by injection hq with hq; omega)⟩
  · exact (hgr.block _ (blk_in q2) (fun e => by injection e with e; omega)).trans q2
  · intro z hz
    rcases List.mem_append.1 hz with hz | hz
    · exact h.so.ok z hz
    · rw [List.mem_singleton.1 hz]
      exact hv
theorem kindF (head : List UInt8) (i : Nat) (h1 : 1 ≤ i) (h2 : i ≤ 12) : wordL (i : Int) = head ↔ kindL head = i := by
  constructor
  · intro e
    have := (kind_word i (by omega)).1
    rw [e] at this
    omega
  · intro e
    exact (kindL_of head i e (by omega)).2.2
theorem split_lens2 : ∀ l : List UInt8, (splitL 32 l).length ≤ l.length + 1
  | [] => by simp [splitL]
  | x :: t => by
    have ih := split_lens2 t
    by_cases hx : x = 32
    · subst hx
      rw [splitL_hit]
      simp
      omega
    · cases e : splitL 32 t with
      | nil => exact absurd e (splitL_ne 32 t)
      | cons v r =>
        rw [splitL_step 32 x t hx _ _ e]
        rw [e] at ih
        simp at ih ⊢
        omega
theorem row_one {w : World} {ad : Addr} {n d : Nat} {ws : List (List UInt8)} (r : Row w (some ad) n d 1 16 (strs ws)) (hd : d ≠ 1) : Row w (some ⟨ad.block, ad.off + 1, none⟩) (n - 1) (d - 1) 1 16 (strs (ws.drop 1)) := by
  have hd' := hd
  have ea : ad.add 1 = ⟨ad.block, ad.off + 1, none⟩ := by simp [Addr.add]
  have hdr : strs (ws.drop 1) = (strs ws).drop 1 := by simp [strs]
  have hcm := r.cm
  have hnc := r.nc
  unfold maxLen at hcm
  refine ⟨?_, by omega, by unfold maxLen; omega, (fun h => by cases h), ?_⟩
  · have := r.len
    rw [hdr, List.length_drop]
    omega
  · rw [← ea, hdr]
    exact r.rd.drop 1
theorem split_each : ∀ (l : List UInt8), ∀ z ∈ splitL 32 l, z.length ≤ l.length
  | [], z, hz => by simp [splitL] at hz; simp [hz]
  | x :: t, z, hz => by
    have ih := split_each t
    by_cases hx : x = 32
    · subst hx
      rw [splitL_hit] at hz
      rcases List.mem_cons.1 hz with rfl | hz
      · simp
      · have := ih z hz
        simp
        omega
    · cases e : splitL 32 t with
      | nil => exact absurd e (splitL_ne 32 t)
      | cons v r =>
        rw [splitL_step 32 x t hx _ _ e] at hz
        rw [e] at ih
        rcases List.mem_cons.1 hz with rfl | hz
        · have := ih v (by simp)
          simp
          omega
        · have := ih z (by simp [hz])
          simp
          omega
abbrev kS (k : Nat) : Sp := ⟨⟨k, 0, 0, 0, [], [], []⟩, none, 0, 0, none, 0, 0⟩
theorem ks_own (w : World) (base k : Nat) : SpO w base (kS k) := ⟨World.ownsRow_nil _ _ _ _, World.ownsRow_nil _ _ _ _, (fun z hz => by cases hz), (by simp)⟩
theorem St.word {w0 w : World} {g : Nat} {A : Option Addr} {n d : Nat} {ws : List (List UInt8)} {x : Sp} (h : St w0 w g A n d ws x) : Row w A n d 1 16 (strs ws) := own_rowT 16 h.own
theorem St.other {w0 w : World} {g gw j : Nat} {v : Value} {cs : Array Value} {A : Option Addr} {n d : Nat} {ws : List (List UInt8)} {x : Sp} (h : St w0 w g A n d ws x) (hw : w.heap[gw]? = some (Obj.cells cs 9 (0, 0))) : (w.setCell ⟨g, j, none⟩ v).heap[gw]? = some (Obj.cells cs 9 (0, 0)) := by
  refine ((set_one w g j v).block gw (blk_in hw) (fun e => ?_)).trans hw
  injection e with e
  subst e
  have := h.hi.symm.trans hw
  injection this with this
  injection this with _ h2 _
  exact absurd h2 (by decide)
set_option maxRecDepth 20000 in
set_option maxHeartbeats 4000000 in
theorem rone_any (l : List UInt8) (w : World) (hl : l.length ≤ 300000) (hv : Lib.validD l = true) (hT : LaidT w) : Calls Tryz.prog 30 #[.string ⟨l.toArray⟩] w fun e w' => OneP l w e w' := by
  obtain ⟨ws, hws⟩ : ∃ ws, splitL 32 l = ws := ⟨_, rfl⟩
  have hne : ws ≠ [] := by rw [← hws]; exact splitL_ne 32 l
  obtain ⟨κ, hκ⟩ : ∃ κ, kindL (wd ws 0) = κ := ⟨_, rfl⟩
  have hsp : ∀ wz, Calls Tryz.prog 28 #[.string ⟨l.toArray⟩, .int .u8 32] wz fun e w' => ∃ (A : Option Addr) (n d : Nat), e = .returned (.slice A n d) ∧ Ws wz w' A n d ws := fun wz => hws ▸ rsplit_any l 32 wz (by omega)
  have HSP := Lib.hid hsp
  have HT := Lib.hid hT
  obtain ⟨s, hs⟩ : ∃ s : ByteArray, ⟨l.toArray⟩ = s := ⟨_, rfl⟩
  rw [hs] at HSP ⊢
  have HWS := Lib.hid hws
  have HNE := Lib.hid hne
  have HKA := Lib.hid hκ
  have HS := Lib.hid hs
  clear hws hne hκ hs hT hsp
  go_enter Tryz.func30, Tryz.ntmps30
  go_upto_region 4 with (first
    | (go_at_call 28; (with_reducible refine (HSP.out _).mono ?_); rintro e w2 ⟨A, n, d, rfl, hw2⟩; have HW2 := Lib.hid hw2; clear hw2)
    | (go_at_call 43; (with_reducible refine (rwords_o _).mono ?_); rintro e w4 ⟨gw, rfl, hgw, hb4⟩; have HGW := Lib.hid hgw; have HB4 := Lib.hid hb4; clear hgw hb4))
  have hb1 : Below w.heap.size w (w.alloc (Obj.cells zA 27)) := (Below.refl _ w).alloc (Nat.le_refl _) _
  have hs1 : (w.alloc (Obj.cells zA 27)).heap.size = w.heap.size + 1 := by simp
  have b2 := hb1.trans (HW2.out.b.mono hb1.size)
  have hs2 : w.heap.size < w2.heap.size := by
    have := HW2.out.b.size
    rw [hs1] at this
    omega
  have hst0 : St w (w2.alloc (Obj.cells zA 27)) w2.heap.size A n d ws (kS 0) :=
    ⟨hs2, heap_alloc_new w2 _, blk_below (blk_below (heap_alloc_new w _) HW2.out.b) ((Below.refl _ w2).alloc (Nat.le_refl _) _), ks_own _ _ _, own_mono ((HW2.out.alloc _).own) hb1.size, b2.alloc b2.size _⟩
  have HST := Lib.hid (hst0.below HB4.out)
  have hln := HW2.out.len
  have hn1 : 0 < n := by
    rw [← hln]
    exact List.length_pos_iff.2 HNE.out
  have hT4 := Lib.hid (HT.out.below HST.out.b)
  have hnb : n ≤ 300001 := by
    rw [← hln, ← HWS.out]
    exact Nat.le_trans (split_lens2 l) (by omega)
  have HLN := Lib.hid hln
  obtain ⟨g, hgz⟩ : ∃ g, w2.heap.size = g := ⟨_, rfl⟩
  rw [hgz] at HST
  rw [hgz]
  have hgw0 : w.heap.size < g := by rw [← hgz]; exact hs2
  clear hst0 hs2 b2 hs1 hb1 HB4 HW2 hln HSP hgz
  obtain ⟨ad, rfl, _⟩ := rd_str HST.out.word (i := 0) hn1
  have hκ12 : κ ≤ 12 := by
    rcases Nat.eq_zero_or_pos κ with h | h
    · omega
    · exact (kindL_of _ _ HKA.out (by omega)).2.1
  obtain ⟨H0, hH0⟩ : ∃ H0, wd ws 0 = H0 := ⟨_, rfl⟩
  have HKA2 : Hid (kindL H0 = κ) := Lib.hid (by rw [← hH0]; exact HKA.out)
  have HH0 := Lib.hid hH0
  clear hH0
  go_loopw [6, 7, 19] (fun v6 v7 ix wr => ∃ j : Nat, ix = .int .i64 j ∧ j ≤ 13 ∧ Hid (St w wr g (some ad) n d ws (kS (if 1 ≤ κ ∧ κ < j then κ else 0))) ∧ Hid (wr.heap[gw]? = some (Obj.cells wordsV 9 (0, 0)))) (fun _ _ ix _ => 13 - (intOf ix).toNat)
  case atStart => exact ⟨0, rfl, by omega, Lib.hid (by rw [if_neg (by omega)]; exact HST.out), HGW⟩
  case round =>
    obtain ⟨j, rfl, hj, HSJ, HWJ⟩ := hrel
    by_cases hlt : j < 13
    · have hcw := words_cell HWJ.out (show j ≤ 12 by omega)
      have hc0 := (rd_str HSJ.out.word (i := 0) hn1)
      obtain ⟨ad', he, hc0⟩ := hc0
      injection he with he
      subst he
      rw [HH0.out, add_zero'] at hc0
      have hkf := kindF H0 j
      obtain ⟨W, hW⟩ : ∃ W, wordL (j : Int) = W := ⟨_, rfl⟩
      rw [hW] at hcw hkf
      have hfr := frozen_of_row _ g 0 _ _ HSJ.out.hi
      obtain ⟨y0, _, _, _, _, _, _⟩ := seven_cells HSJ.out.hi
      rcases Nat.eq_zero_or_pos j with rfl | hjp
      · clear hkf hW
        go_wp2
        exact ⟨⟨1, rfl, by omega, Lib.hid (by have h0 := HSJ.out; rw [if_neg (by omega)] at h0 ⊢; exact h0), HWJ⟩, by simp [intOf]⟩
      · by_cases hWH : W = H0
        · subst hWH
          have hkj := (hkf hjp (by omega)).1 rfl
          have HK := Lib.hid (HKA2.out.symm.trans hkj)
          have h0 := HSJ.out
          rw [if_neg (by have := HK.out; omega)] at h0
          have h1 := h0.set 0 (.int .i64 (j : Int)) (x' := kS j) rfl (ks_own _ _ _)
          have h2 := h0.other (j := 0) (v := .int .i64 (j : Int)) HWJ.out
          have H1 := Lib.hid h1
          have H2 := Lib.hid h2
          clear hkf hW hkj h0 h1 h2
          go_wp2
          exact ⟨⟨j + 1, rfl, by omega, Lib.hid (by rw [if_pos (by have := HK.out; omega), HK.out]; exact H1.out), H2⟩, by simp [intOf]; omega⟩
        · have hkj : κ ≠ j := fun e => hWH ((hkf hjp (by omega)).2 (HKA2.out.trans e))
          have e1 : (W == H0) = false := by simpa using hWH
          have e2 : decide (W = H0) = false := decide_eq_false hWH
          have HK := Lib.hid hkj
          clear hkf hW hkj
          go_wp2
          exact ⟨⟨j + 1, rfl, by omega, Lib.hid (by
            have h0 := HSJ.out
            rw [show (if 1 ≤ κ ∧ κ < j then κ else 0) = (if 1 ≤ κ ∧ κ < j + 1 then κ else 0) by have := HK.out; split <;> split <;> omega] at h0
            exact h0), HWJ⟩, by simp [intOf]; omega⟩
    · obtain rfl : j = 13 := by omega
      have hst := HSJ.out
      rw [show (if 1 ≤ κ ∧ κ < 13 then κ else 0) = κ by split <;> omega] at hst
      have HSK := Lib.hid hst
      obtain ⟨y0, y1, y2, y3, y4, y5, y6⟩ := seven_cells hst.hi
      have hz := hst.hz
      clear hst hlt hj HSJ HST HGW hgw0
      by_cases hk0 : κ = 0
      · subst hk0
        have HOK : Hid (oneL l = (4, zeroO)) := Lib.hid (one_kind hv (by rw [HWS.out]; exact HKA.out))
        go_wp2_with (refine wpList_store_blk rfl 27 (.tmp 2) (.tmp 39) rfl w.heap.size _ zA _ rfl rfl hz rfl (by kernel_rfl) (by simp [Value.oneCell']) ?_; intro w10 hi10 hg10)
        exact bodyPost_ret (v := .tuple #[.agg zA, .int .i64 4]) (res_ctT rfl _ _ w.heap.size _ _ _ _ rfl hi10 Tryz.underlying27 (by kernel_rfl) _ rfl) rfl (one_zero HOK.out (by decide) (HSK.out.b.grown hg10 HSK.out.b.size (fun q hq => by injection hq with hq; omega)))
      · have e1 : ((κ : Int) == 0) = false := by simp; omega
        have e2 : decide ((κ : Int) = 0) = false := decide_eq_false (by omega)
        have HLEN : Hid (∀ z ∈ ws, z.length ≤ l.length) := Lib.hid (by rw [← HWS.out]; exact fun z hz => split_each l z hz)
        have hnd := HSK.out.word.nc
        by_cases hd1 : d = 1
        · subst hd1
          go_upto_region 12 with fail
          have hpt : Part ws 0 (kS κ).o := part_start ws κ HKA.out
          have HPT0 := Lib.hid hpt
          clear hpt y0 y1 y2 y3 y4 y5 y6 hz
          go_loopw [43] (fun ix wr => ∃ (i : Nat) (x : Sp), ix = .int .i64 i ∧ i ≤ n - 1 ∧ Hid (St w wr g (some ad) n 1 ws x) ∧ Hid (Part ws i x.o) ∧ x.o.k = κ ∧ x.an ≤ i) (fun ix _ => n - (intOf ix).toNat)
          case atStart => exact ⟨0, kS κ, rfl, Nat.zero_le _, HSK, HPT0, rfl, Nat.le_refl _⟩
          case round => 
            obtain ⟨i, x, rfl, hin, HSW, HPT, hxk, han⟩ := hrel
            have HXK := Lib.hid hxk
            obtain ⟨y0, y1, y2, y3, y4, y5, y6⟩ := seven_cells HSW.out.hi
            rw [hxk] at y0
            clear hxk
            by_cases hlt : i < n - 1
            · exact absurd hlt (by omega)
            · obtain rfl : i = n - 1 := by omega
              clear hlt
              have HMQ : Hid (∀ q, mayO q = true → ssOk q → splitL 32 l = wrdsL q → x.o = q) := Lib.hid (fun q hm hs hw => by
                rw [HWS.out] at hw
                have := HPT.out q hm hs hw
                rw [← HLN.out, hw, trunc_end hm] at this
                exact this)
              have HK9 : Hid (kindL (wd (splitL 32 l) 0) ≠ 0) := Lib.hid (by rw [HWS.out, HKA.out]; exact hk0)
              have HT9 := Lib.hid (HT.out.below HSW.out.b)
              have hz9 := HSW.out.hz
              clear y0 y1 y2 y3 y4 y5 y6
              obtain ⟨y0, y1, y2, y3, y4, y5, y6⟩ := seven_cells HSW.out.hi
              cases hmy : mayO x.o with
              | false =>
                have HMY := Lib.hid hmy
                have HOE : Hid (oneL l = (1, zeroO)) := Lib.hid (one_not hv HK9.out HMQ.out (by rw [hmy]; rfl))
                clear hmy
                go_wp2_with (first | (go_at_call 7; (with_reducible refine (rmay_o x _ HSW.out.so.r HT9.out).mono ?_); rintro e w6 ⟨rfl, hb6⟩; rw [HMY.out]; have HS6 := Lib.hid (HSW.out.below hb6); have hz6 := blk_below hz9 hb6; obtain ⟨z0, z1, z2, z3, z4, z5, z6⟩ := seven_cells HS6.out.hi) | (refine wpList_store_blk rfl 27 (.tmp 2) (.tmp 138) rfl w.heap.size _ zA _ rfl rfl hz6 rfl (by kernel_rfl) (by simp [Value.oneCell']) ?_; intro w10 hi10 hg10))
                exact bodyPost_ret (v := .tuple #[.agg zA, .int .i64 1]) (res_ctT rfl _ _ w.heap.size _ _ _ _ rfl hi10 Tryz.underlying27 (by kernel_rfl) _ rfl) rfl (one_zero HOE.out (by decide) (HS6.out.b.grown hg10 HS6.out.b.size (fun q hq => by injection hq with hq; omega)))
              | true =>
                have HMY := Lib.hid hmy
                obtain ⟨LX, hLX⟩ : ∃ LX, lineL x.o = LX := ⟨_, rfl⟩
                obtain ⟨SL, hSL⟩ : ∃ SL, l ++ [10] = SL := ⟨_, rfl⟩
                have hadd : ∀ wz : World, (Op.stringOp .add s ⟨#[10]⟩).run Tryz.prog wz = .ok (.string ⟨SL.toArray⟩) wz := fun wz => by
                  have := run_string_add_lists (P := Tryz.prog) wz l [10] (by omega) (by decide)
                  rw [hSL, HS.out] at this
                  exact this
                have HLX := Lib.hid hLX
                by_cases hle : LX = SL
                · have HOE : Hid (oneL l = (0, x.o)) := Lib.hid (one_yes hv HK9.out HSW.out.so.ok (by rw [hmy, hLX, hSL, hle]; simp))
                  clear hmy hLX hSL
                  subst hle
                  go_wp2_with (first | (go_at_call 7; (with_reducible refine (rmay_o x _ HSW.out.so.r HT9.out).mono ?_); rintro e w6 ⟨rfl, hb6⟩; rw [HMY.out]; have HS6 := Lib.hid (HSW.out.below hb6); have hz6 := blk_below hz9 hb6; obtain ⟨z0, z1, z2, z3, z4, z5, z6⟩ := seven_cells HS6.out.hi) | (go_at_call 24; (with_reducible refine (rline_o x _ HMY.out HS6.out.so.r).mono ?_); rintro e w7 ⟨rfl, hb7⟩; rw [HLX.out]; have HS7 := Lib.hid (HS6.out.below hb7); have hz7 := blk_below hz6 hb7; obtain ⟨v0, v1, v2, v3, v4, v5, v6⟩ := seven_cells HS7.out.hi) | (refine wpList_store_blk rfl 27 (.tmp 2) (.tmp 139) rfl w.heap.size _ (spA x) _ rfl rfl hz7 rfl (by kernel_rfl) (spA_one _) ?_; intro w10 hi10 hg10))
                  exact bodyPost_ret (v := .tuple #[spV x, .int .i64 0]) (res_ctT rfl _ _ w.heap.size _ _ _ _ rfl hi10 Tryz.underlying27 (by kernel_rfl) _ rfl) rfl ⟨x, by rw [HOE.out], fun _ => by rw [HOE.out], HS7.out.so.grown hg10 hz7, HS7.out.b.grown hg10 HS7.out.b.size (fun q hq => by injection hq with hq; omega)⟩
                · have HOE : Hid (oneL l = (1, zeroO)) := Lib.hid (one_not hv HK9.out HMQ.out (by rw [hmy, hLX, hSL]; simpa using hle))
                  have hle2 : (LX == SL) = false := by simpa using hle
                  have hle3 : decide (LX = SL) = false := decide_eq_false hle
                  clear hmy hLX hSL
                  go_wp2_with (first | (go_at_call 7; (with_reducible refine (rmay_o x _ HSW.out.so.r HT9.out).mono ?_); rintro e w6 ⟨rfl, hb6⟩; rw [HMY.out]; have HS6 := Lib.hid (HSW.out.below hb6); have hz6 := blk_below hz9 hb6; obtain ⟨z0, z1, z2, z3, z4, z5, z6⟩ := seven_cells HS6.out.hi) | (go_at_call 24; (with_reducible refine (rline_o x _ HMY.out HS6.out.so.r).mono ?_); rintro e w7 ⟨rfl, hb7⟩; rw [HLX.out]; have HS7 := Lib.hid (HS6.out.below hb7); have hz7 := blk_below hz6 hb7; obtain ⟨v0, v1, v2, v3, v4, v5, v6⟩ := seven_cells HS7.out.hi) | (refine wpList_store_blk rfl 27 (.tmp 2) (.tmp 138) rfl w.heap.size _ zA _ rfl rfl hz7 rfl (by kernel_rfl) (by simp [Value.oneCell']) ?_; intro w10 hi10 hg10))
                  exact bodyPost_ret (v := .tuple #[.agg zA, .int .i64 1]) (res_ctT rfl _ _ w.heap.size _ _ _ _ rfl hi10 Tryz.underlying27 (by kernel_rfl) _ rfl) rfl (one_zero HOE.out (by decide) (HS7.out.b.grown hg10 HS7.out.b.size (fun q hq => by injection hq with hq; omega)))
        · go_upto_region 12 with fail
          have hpt : Part ws 0 (kS κ).o := part_start ws κ HKA.out
          have HPT0 := Lib.hid hpt
          clear hpt y0 y1 y2 y3 y4 y5 y6 hz
          go_loopw [43] (fun ix wr => ∃ (i : Nat) (x : Sp), ix = .int .i64 i ∧ i ≤ n - 1 ∧ Hid (St w wr g (some ad) n d ws x) ∧ Hid (Part ws i x.o) ∧ x.o.k = κ ∧ x.an ≤ i) (fun ix _ => n - (intOf ix).toNat)
          case atStart => exact ⟨0, kS κ, rfl, Nat.zero_le _, HSK, HPT0, rfl, Nat.le_refl _⟩
          case round =>
            obtain ⟨i, x, rfl, hin, HSW, HPT, hxk, han⟩ := hrel
            have HXK := Lib.hid hxk
            obtain ⟨y0, y1, y2, y3, y4, y5, y6⟩ := seven_cells HSW.out.hi
            rw [hxk] at y0
            clear hxk
            have f1 := frozen_of_row _ g 1 _ _ HSW.out.hi
            have f2 := frozen_of_row _ g 2 _ _ HSW.out.hi
            have f3 := frozen_of_row _ g 3 _ _ HSW.out.hi
            have f4 := frozen_of_row _ g 4 _ _ HSW.out.hi
            by_cases hlt : i < n - 1
            · have hrow : Row _ (some ⟨ad.block, ad.off + 1, none⟩) (n - 1) (d - 1) 1 16 (strs (ws.drop 1)) := row_one HSW.out.word hd1
              obtain ⟨ad', he, hcT⟩ := rd_str hrow hlt
              injection he with he
              subst he
              obtain ⟨T, hTT⟩ : ∃ T, wd (ws.drop 1) i = T := ⟨_, rfl⟩
              rw [hTT] at hcT
              have hTl : T.length ≤ 300000 := by rw [← hTT]; exact Nat.le_trans (wd_len (n := l.length) (fun z hz => HLEN.out z (List.mem_of_mem_drop hz)) i) (by omega)
              have HTT := Lib.hid hTT
              have HTL := Lib.hid hTl
              have HNUM := Lib.hid (fun wz => rnumber_any T wz (by omega))
              have HUNH := Lib.hid (fun wz => runhex_any T wz (by omega))
              have hltI : (i : Int) < (n : Int) - 1 := by omega
              clear hrow hTT hTl
              by_cases i0 : i = 0
              · subst i0
                have hcT0 : wr.cell? ⟨ad.block, ad.off + 1, none⟩ = some (.string ⟨T.toArray⟩) := by simpa [Addr.add] using hcT
                go_wp2_with (go_at_call 51; (with_reducible refine (HNUM.out _).mono ?_); rintro e w5 ⟨rfl, rfl⟩)
                exact ⟨⟨1, ⟨⟨x.o.k, numL T, x.o.s, x.o.y, x.o.nm, x.o.ss, x.o.bs⟩, x.A, x.an, x.ac, x.B, x.bn, x.bc⟩, rfl, by omega, Lib.hid (HSW.out.set 1 (.int .i64 (numL T)) rfl ⟨HSW.out.so.oa, HSW.out.so.ob, HSW.out.so.ok, HSW.out.so.nm⟩), Lib.hid (by have := part_p HPT.out; rw [HTT.out] at this; exact this), HXK.out, by first | omega | (dsimp only; omega)⟩, by simp [intOf]; omega⟩
              have i0a : ((i : Int) == 0) = false := by simp; omega
              have i0b : decide ((i : Int) = 0) = false := decide_eq_false (by omega)
              by_cases i1 : i = 1
              · subst i1
                have hcT0 : wr.cell? ⟨ad.block, ad.off + 1 + 1, none⟩ = some (.string ⟨T.toArray⟩) := by simpa [Addr.add] using hcT
                cases hsr : srcB (κ : Int) with
                | true =>
                  have HSRC := Lib.hid hsr
                  clear hsr
                  go_wp2_with (first | (go_at_call 18; refine (rsrc_any _ _).mono ?_; rintro e w5 ⟨rfl, rfl⟩; (first | rw [HSRC.out] | rw [show srcB 1 = false from rfl] | rw [show srcB 2 = false from rfl] | rw [show srcB 3 = false from rfl])) | (go_at_call 51; (with_reducible refine (HNUM.out _).mono ?_); rintro e w5 ⟨rfl, rfl⟩))
                  exact ⟨⟨2, ⟨⟨x.o.k, x.o.p, numL T, x.o.y, x.o.nm, x.o.ss, x.o.bs⟩, x.A, x.an, x.ac, x.B, x.bn, x.bc⟩, rfl, by omega, Lib.hid (HSW.out.set 2 (.int .i64 (numL T)) rfl ⟨HSW.out.so.oa, HSW.out.so.ob, HSW.out.so.ok, HSW.out.so.nm⟩), Lib.hid (by have := part_s HPT.out (by rw [HXK.out]; exact HSRC.out); rw [HTT.out] at this; exact this), HXK.out, by first | omega | (dsimp only; omega)⟩, by simp [intOf]; omega⟩
                | false =>
                  have HSRC := Lib.hid hsr
                  have hk4 : κ < 4 := by unfold srcB at hsr; simp at hsr; omega
                  clear hsr
                  by_cases k2 : κ = 2
                  · have q2a : ((κ : Int) == 2) = true := by simp; omega
                    have q2b : decide ((κ : Int) = 2) = true := decide_eq_true (by omega)
                    have K2 := Lib.hid k2
                    clear k2
                    go_wp2_with (go_at_call 18; refine (rsrc_any _ _).mono ?_; rintro e w5 ⟨rfl, rfl⟩; (first | rw [HSRC.out] | rw [show srcB 1 = false from rfl] | rw [show srcB 2 = false from rfl] | rw [show srcB 3 = false from rfl]))
                    exact ⟨⟨2, ⟨⟨x.o.k, x.o.p, x.o.s, x.o.y, T, x.o.ss, x.o.bs⟩, x.A, x.an, x.ac, x.B, x.bn, x.bc⟩, rfl, by omega, Lib.hid (HSW.out.set 4 (.string ⟨T.toArray⟩) rfl ⟨HSW.out.so.oa, HSW.out.so.ob, HSW.out.so.ok, (show T.length ≤ 140737488351232 by have := HTL.out; omega)⟩), Lib.hid (by have := part_nm HPT.out (by rw [HXK.out, K2.out]; rfl); rw [HTT.out] at this; exact this), HXK.out, by first | omega | (dsimp only; omega)⟩, by simp [intOf]; omega⟩
                  · by_cases k1 : κ = 1
                    · have q1a : ((κ : Int) == 1) = true := by simp; omega
                      have q1b : decide ((κ : Int) = 1) = true := decide_eq_true (by omega)
                      have q2a : ((κ : Int) == 2) = false := by simp; omega
                      have q2b : decide ((κ : Int) = 2) = false := decide_eq_false (by omega)
                      have q4a : ((κ : Int) == 4) = false := by simp; omega
                      have q4b : decide ((κ : Int) = 4) = false := decide_eq_false (by omega)
                      have K1 := Lib.hid k1
                      clear k1
                      go_wp2_with (first | (go_at_call 18; refine (rsrc_any _ _).mono ?_; rintro e w5 ⟨rfl, rfl⟩; (first | rw [HSRC.out] | rw [show srcB 1 = false from rfl] | rw [show srcB 2 = false from rfl] | rw [show srcB 3 = false from rfl])) | (go_at_call 52; (with_reducible refine (HUNH.out _).mono ?_); rintro e w5 ⟨X, xn, xc, xb, ok, rfl, hxo, HXB, hb5⟩; have HX5 := Lib.hid (own_mono hxo HSW.out.b.size); have HS5 := Lib.hid (HSW.out.below hb5); obtain ⟨z0, z1, z2, z3, z4, z5, z6⟩ := seven_cells HS5.out.hi; have g0 := frozen_of_row _ g 0 _ _ HS5.out.hi; have g5 := frozen_of_row _ g 5 _ _ HS5.out.hi; have g6 := frozen_of_row _ g 6 _ _ HS5.out.hi; clear hxo))
                      exact ⟨⟨2, ⟨⟨x.o.k, x.o.p, x.o.s, x.o.y, x.o.nm, x.o.ss, xb⟩, x.A, x.an, x.ac, X, xn, xc⟩, rfl, by omega, Lib.hid (HS5.out.set 6 (.slice X xn xc) rfl ⟨HS5.out.so.oa, HX5.out, HS5.out.so.ok, HS5.out.so.nm⟩), Lib.hid (part_bs HPT.out (by rw [HXK.out, K1.out]; rfl) (fun r hr => (HXB.out r (by rw [← HTT.out]; exact hr)).1)), HXK.out, by first | omega | (dsimp only; omega)⟩, by simp [intOf]; omega⟩
                    · have k3 : κ = 3 := by omega
                      have q1a : ((κ : Int) == 1) = false := by simp; omega
                      have q1b : decide ((κ : Int) = 1) = false := decide_eq_false (by omega)
                      have q2a : ((κ : Int) == 2) = false := by simp; omega
                      have q2b : decide ((κ : Int) = 2) = false := decide_eq_false (by omega)
                      have q4a : ((κ : Int) == 4) = false := by simp; omega
                      have q4b : decide ((κ : Int) = 4) = false := decide_eq_false (by omega)
                      have K3 := Lib.hid k3
                      clear k3
                      go_wp2_with (go_at_call 18; refine (rsrc_any _ _).mono ?_; rintro e w5 ⟨rfl, rfl⟩; (first | rw [HSRC.out] | rw [show srcB 1 = false from rfl] | rw [show srcB 2 = false from rfl] | rw [show srcB 3 = false from rfl]))
                      exact ⟨⟨2, x, rfl, by omega, Lib.hid (HSW.out), Lib.hid (part_3 HPT.out (by rw [HXK.out, K3.out]; rfl)), HXK.out, by first | omega | (dsimp only; omega)⟩, by simp [intOf]; omega⟩
              have i1a : ((i : Int) == 1) = false := by simp; omega
              have i1b : decide ((i : Int) = 1) = false := decide_eq_false (by omega)
              by_cases hly : i = 2 ∧ layB (κ : Int) = true
              · obtain ⟨rfl, hl2⟩ := hly
                have hcT0 : wr.cell? ⟨ad.block, ad.off + 1 + 2, none⟩ = some (.string ⟨T.toArray⟩) := by simpa [Addr.add] using hcT
                have HLAY := Lib.hid hl2
                clear hl2
                go_wp2_with (first | (go_at_call 19; refine (rlay_any _ _).mono ?_; rintro e w5 ⟨rfl, rfl⟩; (first | rw [HLAY.out] | rw [show layB 4 = false from rfl])) | (go_at_call 51; (with_reducible refine (HNUM.out _).mono ?_); rintro e w5 ⟨rfl, rfl⟩))
                exact ⟨⟨3, ⟨⟨x.o.k, x.o.p, x.o.s, numL T, x.o.nm, x.o.ss, x.o.bs⟩, x.A, x.an, x.ac, x.B, x.bn, x.bc⟩, rfl, by omega, Lib.hid (HSW.out.set 3 (.int .i64 (numL T)) rfl ⟨HSW.out.so.oa, HSW.out.so.ob, HSW.out.so.ok, HSW.out.so.nm⟩), Lib.hid (by have := part_y HPT.out (by rw [HXK.out]; exact HLAY.out); rw [HTT.out] at this; exact this), HXK.out, by first | omega | (dsimp only; omega)⟩, by simp [intOf]; omega⟩
              have HNL : Hid (i = 2 → layB (κ : Int) = false) := Lib.hid (fun h => by cases hc : layB (κ : Int) with | false => rfl | true => exact absurd ⟨h, hc⟩ hly)
              clear hly
              by_cases i2 : i = 2
              · subst i2
                have hcT0 : wr.cell? ⟨ad.block, ad.off + 1 + 2, none⟩ = some (.string ⟨T.toArray⟩) := by simpa [Addr.add] using hcT
                have HLAY := Lib.hid (HNL.out rfl)
                by_cases k4 : κ = 4
                · have q4a : ((κ : Int) == 4) = true := by simp; omega
                  have q4b : decide ((κ : Int) = 4) = true := decide_eq_true (by omega)
                  have K4 := Lib.hid k4
                  clear k4
                  by_cases t8 : T.length = 8
                  · have t8a : ((T.length : Int) == 8) = true := by simp [t8]
                    have t8b : decide ((T.length : Int) = 8) = true := decide_eq_true (by omega)
                    have HT8 := Lib.hid t8
                    clear t8
                    go_upto_region 26 with (first | (go_at_call 19; refine (rlay_any _ _).mono ?_; rintro e w5 ⟨rfl, rfl⟩; (first | rw [HLAY.out] | rw [show layB 4 = false from rfl])) | (go_at_call 52; (with_reducible refine (HUNH.out _).mono ?_); rintro e w5 ⟨X, xn, xc, xb, ok, rfl, hxo, HXB, hb5⟩; have HX5 := Lib.hid (own_mono hxo HSW.out.b.size); have HS5 := Lib.hid (HSW.out.below hb5); obtain ⟨z0, z1, z2, z3, z4, z5, z6⟩ := seven_cells HS5.out.hi; have g0 := frozen_of_row _ g 0 _ _ HS5.out.hi; have g5 := frozen_of_row _ g 5 _ _ HS5.out.hi; have g6 := frozen_of_row _ g 6 _ _ HS5.out.hi; clear hxo))
                    cases ok with
                    | false =>
                      go_wp2
                      exact ⟨⟨3, x, rfl, by omega, Lib.hid (HS5.out), Lib.hid (part_bad HPT.out (by omega) (by rw [HXK.out, K4.out]; rfl) (by rw [HLN.out]; exact hlt) (fun z _ hz => by have := (HXB.out (enc 4 z) (by rw [← HTT.out, hz, unhex_hex])).2; cases this)), HXK.out, by first | omega | (dsimp only; omega)⟩, by simp [intOf]; omega⟩
                    | true =>
                      have hX := own_rowT 1 HX5.out
                      have HGET := Lib.hid (fun wz (h : Row wz X xn xc 1 1 (bys xb)) => rget_any X xn xc xb 0 4 wz (by have := h.len; rw [bys_length] at this; omega) h.nc h.cm h.rd (by omega) (by omega))
                      obtain ⟨V, hV⟩ : ∃ V, getN xb 0 4 = V := ⟨_, rfl⟩
                      rw [hV] at HGET
                      have HVV := Lib.hid hV
                      have HX6 := Lib.hid hX
                      clear hV hX
                      go_upto_region 28 with (go_at_call 53; (with_reducible refine (HGET.out _ HX6.out).mono ?_); rintro e w6 ⟨rfl, rfl⟩)
                      obtain ⟨v, hv4⟩ : ∃ v, V % 4294967296 = v := ⟨_, rfl⟩
                      have hvm : (V : Int) % 4294967296 = (v : Int) := by omega
                      have hv32 : v < 4294967296 := by omega
                      have HVM := Lib.hid hvm
                      have HV4 := Lib.hid hv4
                      have HV32 := Lib.hid hv32
                      have HS6 := Lib.hid (HS5.out.below ((Below.refl _ w5).alloc (Nat.le_refl _) (Obj.cells #[.int .u32 (v : Int)] 36)))
                      have hli := Lib.hid (lit_u32 w5 v)
                      clear hvm hv4 hv32
                      go_wp2_with (at_builtin; (rw [HVM.out]); (refine wpList_app slU32T rfl _ _ rfl w.heap.size x.A x.an x.ac (u32s x.o.ss) rfl HS6.out.so.oa (some ⟨w5.heap.size, 0, none⟩) 1 1 (u32s [v]) rfl rfl hli.out (fun u hu => by rw [List.mem_singleton.1 hu]; rfl) (by omega) HS6.out.b.size ?_); intro A7 c7 w7 ho7 hg7 hA7; have q7 := HS6.out.app hg7; obtain ⟨v0, v1, v2, v3, v4, v5, v6⟩ := seven_cells q7.1; have j5 := frozen_of_row w7 g 5 _ _ q7.1; have HS7 := Lib.hid (HS6.out.app5 hg7 (by rw [u32s_snoc] at ho7; exact ho7) HV32.out); clear ho7 hg7 hA7 q7)
                      exact ⟨⟨3, ⟨⟨x.o.k, x.o.p, x.o.s, x.o.y, x.o.nm, x.o.ss ++ [v], x.o.bs⟩, A7, x.an + 1, c7, x.B, x.bn, x.bc⟩, rfl, by omega, HS7, Lib.hid (part_ss HPT.out (by omega) (by rw [HXK.out, K4.out]; rfl) (by rw [HLN.out]; exact hlt) (fun z hz he => by rw [← HV4.out, ← HVV.out, (HXB.out (enc 4 z) (by rw [← HTT.out, he, unhex_hex])).1, getN4_enc z hz]; omega)), HXK.out, by dsimp only; omega⟩, by simp [intOf]; omega⟩
                  · have t8a : ((T.length : Int) == 8) = false := by simp; omega
                    have t8b : decide ((T.length : Int) = 8) = false := decide_eq_false (by omega)
                    have HT8 := Lib.hid t8
                    clear t8
                    go_wp2_with (go_at_call 19; refine (rlay_any _ _).mono ?_; rintro e w5 ⟨rfl, rfl⟩; (first | rw [HLAY.out] | rw [show layB 4 = false from rfl]))
                    exact ⟨⟨3, x, rfl, by omega, Lib.hid (HSW.out), Lib.hid (part_bad HPT.out (by omega) (by rw [HXK.out, K4.out]; rfl) (by rw [HLN.out]; exact hlt) (fun z _ hz => HT8.out (by rw [← HTT.out, hz, hexL_length, enc_length]))), HXK.out, by first | omega | (dsimp only; omega)⟩, by simp [intOf]; omega⟩
                · have k4a : ((κ : Int) == 4) = false := by simp; omega
                  have k4b : decide ((κ : Int) = 4) = false := decide_eq_false (by omega)
                  have HK4 := Lib.hid k4
                  clear k4
                  go_wp2_with (go_at_call 19; refine (rlay_any _ _).mono ?_; rintro e w5 ⟨rfl, rfl⟩; (first | rw [HLAY.out] | rw [show layB 4 = false from rfl]))
                  exact ⟨⟨3, x, rfl, by omega, Lib.hid (HSW.out), Lib.hid (part_no HPT.out (by omega) (by rw [HXK.out]; have := HK4.out; omega) (fun h => by rw [HXK.out]; exact HLAY.out)), HXK.out, by first | omega | (dsimp only; omega)⟩, by simp [intOf]; omega⟩
              have hcT0 : wr.cell? ⟨ad.block, ad.off + 1 + i, none⟩ = some (.string ⟨T.toArray⟩) := by simpa [Addr.add, i0] using hcT
              have i2a : ((i : Int) == 2) = false := by simp; omega
              have i2b : decide ((i : Int) = 2) = false := decide_eq_false (by omega)
              by_cases k4 : κ = 4
              · have q4a : ((κ : Int) == 4) = true := by simp; omega
                have q4b : decide ((κ : Int) = 4) = true := decide_eq_true (by omega)
                have K4 := Lib.hid k4
                clear k4
                by_cases t8 : T.length = 8
                · have t8a : ((T.length : Int) == 8) = true := by simp [t8]
                  have t8b : decide ((T.length : Int) = 8) = true := decide_eq_true (by omega)
                  have HT8 := Lib.hid t8
                  clear t8
                  go_upto_region 26 with (go_at_call 52; (with_reducible refine (HUNH.out _).mono ?_); rintro e w5 ⟨X, xn, xc, xb, ok, rfl, hxo, HXB, hb5⟩; have HX5 := Lib.hid (own_mono hxo HSW.out.b.size); have HS5 := Lib.hid (HSW.out.below hb5); obtain ⟨z0, z1, z2, z3, z4, z5, z6⟩ := seven_cells HS5.out.hi; have g0 := frozen_of_row _ g 0 _ _ HS5.out.hi; have g5 := frozen_of_row _ g 5 _ _ HS5.out.hi; have g6 := frozen_of_row _ g 6 _ _ HS5.out.hi; clear hxo)
                  cases ok with
                  | false =>
                    go_wp2
                    exact ⟨⟨i + 1, x, rfl, by omega, Lib.hid (HS5.out), Lib.hid (part_bad HPT.out (by omega) (by rw [HXK.out, K4.out]; rfl) (by rw [HLN.out]; exact hlt) (fun z _ hz => by have := (HXB.out (enc 4 z) (by rw [← HTT.out, hz, unhex_hex])).2; cases this)), HXK.out, by first | omega | (dsimp only; omega)⟩, by simp [intOf]; omega⟩
                  | true =>
                    have hX := own_rowT 1 HX5.out
                    have HGET := Lib.hid (fun wz (h : Row wz X xn xc 1 1 (bys xb)) => rget_any X xn xc xb 0 4 wz (by have := h.len; rw [bys_length] at this; omega) h.nc h.cm h.rd (by omega) (by omega))
                    obtain ⟨V, hV⟩ : ∃ V, getN xb 0 4 = V := ⟨_, rfl⟩
                    rw [hV] at HGET
                    have HVV := Lib.hid hV
                    have HX6 := Lib.hid hX
                    clear hV hX
                    go_upto_region 28 with (go_at_call 53; (with_reducible refine (HGET.out _ HX6.out).mono ?_); rintro e w6 ⟨rfl, rfl⟩)
                    obtain ⟨v, hv4⟩ : ∃ v, V % 4294967296 = v := ⟨_, rfl⟩
                    have hvm : (V : Int) % 4294967296 = (v : Int) := by omega
                    have hv32 : v < 4294967296 := by omega
                    have HVM := Lib.hid hvm
                    have HV4 := Lib.hid hv4
                    have HV32 := Lib.hid hv32
                    have HS6 := Lib.hid (HS5.out.below ((Below.refl _ w5).alloc (Nat.le_refl _) (Obj.cells #[.int .u32 (v : Int)] 36)))
                    have hli := Lib.hid (lit_u32 w5 v)
                    clear hvm hv4 hv32
                    go_wp2_with (at_builtin; (rw [HVM.out]); (refine wpList_app slU32T rfl _ _ rfl w.heap.size x.A x.an x.ac (u32s x.o.ss) rfl HS6.out.so.oa (some ⟨w5.heap.size, 0, none⟩) 1 1 (u32s [v]) rfl rfl hli.out (fun u hu => by rw [List.mem_singleton.1 hu]; rfl) (by omega) HS6.out.b.size ?_); intro A7 c7 w7 ho7 hg7 hA7; have q7 := HS6.out.app hg7; obtain ⟨v0, v1, v2, v3, v4, v5, v6⟩ := seven_cells q7.1; have j5 := frozen_of_row w7 g 5 _ _ q7.1; have HS7 := Lib.hid (HS6.out.app5 hg7 (by rw [u32s_snoc] at ho7; exact ho7) HV32.out); clear ho7 hg7 hA7 q7)
                    exact ⟨⟨i + 1, ⟨⟨x.o.k, x.o.p, x.o.s, x.o.y, x.o.nm, x.o.ss ++ [v], x.o.bs⟩, A7, x.an + 1, c7, x.B, x.bn, x.bc⟩, rfl, by omega, HS7, Lib.hid (part_ss HPT.out (by omega) (by rw [HXK.out, K4.out]; rfl) (by rw [HLN.out]; exact hlt) (fun z hz he => by rw [← HV4.out, ← HVV.out, (HXB.out (enc 4 z) (by rw [← HTT.out, he, unhex_hex])).1, getN4_enc z hz]; omega)), HXK.out, by dsimp only; omega⟩, by simp [intOf]; omega⟩
                · have t8a : ((T.length : Int) == 8) = false := by simp; omega
                  have t8b : decide ((T.length : Int) = 8) = false := decide_eq_false (by omega)
                  have HT8 := Lib.hid t8
                  clear t8
                  go_wp2_with fail
                  exact ⟨⟨i + 1, x, rfl, by omega, Lib.hid (HSW.out), Lib.hid (part_bad HPT.out (by omega) (by rw [HXK.out, K4.out]; rfl) (by rw [HLN.out]; exact hlt) (fun z _ hz => HT8.out (by rw [← HTT.out, hz, hexL_length, enc_length]))), HXK.out, by first | omega | (dsimp only; omega)⟩, by simp [intOf]; omega⟩
              · have k4a : ((κ : Int) == 4) = false := by simp; omega
                have k4b : decide ((κ : Int) = 4) = false := decide_eq_false (by omega)
                have HK4 := Lib.hid k4
                clear k4
                go_wp2_with fail
                exact ⟨⟨i + 1, x, rfl, by omega, Lib.hid (HSW.out), Lib.hid (part_no HPT.out (by omega) (by rw [HXK.out]; have := HK4.out; omega) (fun h => by rw [HXK.out]; exact HNL.out h)), HXK.out, by first | omega | (dsimp only; omega)⟩, by simp [intOf]; omega⟩
            · obtain rfl : i = n - 1 := by omega
              clear hlt
              have HMQ : Hid (∀ q, mayO q = true → ssOk q → splitL 32 l = wrdsL q → x.o = q) := Lib.hid (fun q hm hs hw => by
                rw [HWS.out] at hw
                have := HPT.out q hm hs hw
                rw [← HLN.out, hw, trunc_end hm] at this
                exact this)
              have HK9 : Hid (kindL (wd (splitL 32 l) 0) ≠ 0) := Lib.hid (by rw [HWS.out, HKA.out]; exact hk0)
              have HT9 := Lib.hid (HT.out.below HSW.out.b)
              have hz9 := HSW.out.hz
              clear y0 y1 y2 y3 y4 y5 y6
              obtain ⟨y0, y1, y2, y3, y4, y5, y6⟩ := seven_cells HSW.out.hi
              cases hmy : mayO x.o with
              | false =>
                have HMY := Lib.hid hmy
                have HOE : Hid (oneL l = (1, zeroO)) := Lib.hid (one_not hv HK9.out HMQ.out (by rw [hmy]; rfl))
                clear hmy
                go_wp2_with (first | (go_at_call 7; (with_reducible refine (rmay_o x _ HSW.out.so.r HT9.out).mono ?_); rintro e w6 ⟨rfl, hb6⟩; rw [HMY.out]; have HS6 := Lib.hid (HSW.out.below hb6); have hz6 := blk_below hz9 hb6; obtain ⟨z0, z1, z2, z3, z4, z5, z6⟩ := seven_cells HS6.out.hi) | (refine wpList_store_blk rfl 27 (.tmp 2) (.tmp 138) rfl w.heap.size _ zA _ rfl rfl hz6 rfl (by kernel_rfl) (by simp [Value.oneCell']) ?_; intro w10 hi10 hg10))
                exact bodyPost_ret (v := .tuple #[.agg zA, .int .i64 1]) (res_ctT rfl _ _ w.heap.size _ _ _ _ rfl hi10 Tryz.underlying27 (by kernel_rfl) _ rfl) rfl (one_zero HOE.out (by decide) (HS6.out.b.grown hg10 HS6.out.b.size (fun q hq => by injection hq with hq; omega)))
              | true =>
                have HMY := Lib.hid hmy
                obtain ⟨LX, hLX⟩ : ∃ LX, lineL x.o = LX := ⟨_, rfl⟩
                obtain ⟨SL, hSL⟩ : ∃ SL, l ++ [10] = SL := ⟨_, rfl⟩
                have hadd : ∀ wz : World, (Op.stringOp .add s ⟨#[10]⟩).run Tryz.prog wz = .ok (.string ⟨SL.toArray⟩) wz := fun wz => by
                  have := run_string_add_lists (P := Tryz.prog) wz l [10] (by omega) (by decide)
                  rw [hSL, HS.out] at this
                  exact this
                have HLX := Lib.hid hLX
                by_cases hle : LX = SL
                · have HOE : Hid (oneL l = (0, x.o)) := Lib.hid (one_yes hv HK9.out HSW.out.so.ok (by rw [hmy, hLX, hSL, hle]; simp))
                  clear hmy hLX hSL
                  subst hle
                  go_wp2_with (first | (go_at_call 7; (with_reducible refine (rmay_o x _ HSW.out.so.r HT9.out).mono ?_); rintro e w6 ⟨rfl, hb6⟩; rw [HMY.out]; have HS6 := Lib.hid (HSW.out.below hb6); have hz6 := blk_below hz9 hb6; obtain ⟨z0, z1, z2, z3, z4, z5, z6⟩ := seven_cells HS6.out.hi) | (go_at_call 24; (with_reducible refine (rline_o x _ HMY.out HS6.out.so.r).mono ?_); rintro e w7 ⟨rfl, hb7⟩; rw [HLX.out]; have HS7 := Lib.hid (HS6.out.below hb7); have hz7 := blk_below hz6 hb7; obtain ⟨v0, v1, v2, v3, v4, v5, v6⟩ := seven_cells HS7.out.hi) | (refine wpList_store_blk rfl 27 (.tmp 2) (.tmp 139) rfl w.heap.size _ (spA x) _ rfl rfl hz7 rfl (by kernel_rfl) (spA_one _) ?_; intro w10 hi10 hg10))
                  exact bodyPost_ret (v := .tuple #[spV x, .int .i64 0]) (res_ctT rfl _ _ w.heap.size _ _ _ _ rfl hi10 Tryz.underlying27 (by kernel_rfl) _ rfl) rfl ⟨x, by rw [HOE.out], fun _ => by rw [HOE.out], HS7.out.so.grown hg10 hz7, HS7.out.b.grown hg10 HS7.out.b.size (fun q hq => by injection hq with hq; omega)⟩
                · have HOE : Hid (oneL l = (1, zeroO)) := Lib.hid (one_not hv HK9.out HMQ.out (by rw [hmy, hLX, hSL]; simpa using hle))
                  have hle2 : (LX == SL) = false := by simpa using hle
                  have hle3 : decide (LX = SL) = false := decide_eq_false hle
                  clear hmy hLX hSL
                  go_wp2_with (first | (go_at_call 7; (with_reducible refine (rmay_o x _ HSW.out.so.r HT9.out).mono ?_); rintro e w6 ⟨rfl, hb6⟩; rw [HMY.out]; have HS6 := Lib.hid (HSW.out.below hb6); have hz6 := blk_below hz9 hb6; obtain ⟨z0, z1, z2, z3, z4, z5, z6⟩ := seven_cells HS6.out.hi) | (go_at_call 24; (with_reducible refine (rline_o x _ HMY.out HS6.out.so.r).mono ?_); rintro e w7 ⟨rfl, hb7⟩; rw [HLX.out]; have HS7 := Lib.hid (HS6.out.below hb7); have hz7 := blk_below hz6 hb7; obtain ⟨v0, v1, v2, v3, v4, v5, v6⟩ := seven_cells HS7.out.hi) | (refine wpList_store_blk rfl 27 (.tmp 2) (.tmp 138) rfl w.heap.size _ zA _ rfl rfl hz7 rfl (by kernel_rfl) (by simp [Value.oneCell']) ?_; intro w10 hi10 hg10))
                  exact bodyPost_ret (v := .tuple #[.agg zA, .int .i64 1]) (res_ctT rfl _ _ w.heap.size _ _ _ _ rfl hi10 Tryz.underlying27 (by kernel_rfl) _ rfl) rfl (one_zero HOE.out (by decide) (HS7.out.b.grown hg10 HS7.out.b.size (fun q hq => by injection hq with hq; omega)))
end Go.Proofs.YtaghecgjmkhpcaaGreatDoor
