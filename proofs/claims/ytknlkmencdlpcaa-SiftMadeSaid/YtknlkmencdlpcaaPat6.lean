/-
What Media of package sluicegateref4 tells.
Bytes copied (law 6); a packet and its descriptor, read; what PatchOf of the reference tells.
-/
import Derived.Test.YtknlkmencdlpcaaPat4
import Derived.Test.YtknlkmencdlpcaaRget1
import Derived.Test.YtknlkmencdlpcaaDesc4
import Derived.Test.YtknlkmencdlpcaaRtpU
namespace Go.Proofs.Ytknlkmencdlpcaa
set_option linter.unusedVariables false
set_option linter.unusedSimpArgs false
open Go Go.RowKit

/-- What Media of the reference says of bytes: the first error, and the packet if there is none. -/
def mE (l : List UInt8) : Int := if lookE l = 0 then dE (plG l) else (lookE l : Nat)
def mP (l : List UInt8) : Pkt := if okD l then getP l else zeroP
theorem okD_mE (l : List UInt8) : okD l = decide (mE l = 0) := by
  unfold okD mE dOk
  by_cases h : lookE l = 0
  · rw [if_pos h, decide_eq_true h, Bool.true_and]
    exact Bool.beq_eq_decide_eq _ _
  · rw [if_neg h, decide_eq_false h, Bool.false_and]
    exact (decide_eq_false (by omega)).symm
theorem rdget_w (A : Option Addr) (n c : Nat) (l : List UInt8) (Z : Int) (hZ : dE l = Z) (w : World) (h : Bts w A n c l) :
    Calls Try.prog 76 #[.slice A n c] w fun e w' => e = .returned (.tuple #[.agg #[.int .i64 (dL l), .bool (dK l), .bool (dS l), .int .u16 (dF l)], .int .i64 Z]) ∧ Below w.heap.size w w' := by
  subst hZ
  exact rdget_any A n c l w h.len h.nc h.cm h.rd
theorem plD_no {l : List UInt8} (h : okD l = false) : dL (plD l) = 0 ∧ dK (plD l) = false ∧ dS (plD l) = false ∧ dF (plD l) = 0 := by
  have e : dOk (plD l) = false := by
    unfold okD at h
    unfold plD
    split
    · rename_i he
      rw [decide_eq_true he, Bool.true_and] at h
      exact h
    · rfl
  simp [dL, dK, dS, dF, e]
theorem prow_bts {w : World} {p : Pkt} {C : Option Addr} {cn cc : Nat} {E : Option Addr} {en ec : Nat} {L : Option Addr} {ln lc : Nat} (h : PRow w p C cn cc E en ec L ln lc) : Bts w L ln lc p.pl := ⟨h.hln, h.rl.nc, h.rl.cm, h.rl.rd⟩
theorem POwn.below {w w' : World} {base : Nat} {p : Pkt} {C : Option Addr} {cn cc : Nat} {E : Option Addr} {en ec : Nat} {L : Option Addr} {ln lc : Nat} (h : POwn w base p C cn cc E en ec L ln lc) (hb : Below w.heap.size w w') : POwn w' base p C cn cc E en ec L ln lc :=
  ⟨h.oc.kept (own_below hb) (own_none _), h.oe.kept (own_below hb) (own_none _), h.ol.kept (own_below hb) (own_none _)⟩
theorem POwn.over {w w' : World} {base g : Nat} {p : Pkt} {C : Option Addr} {cn cc : Nat} {E : Option Addr} {en ec : Nat} {L : Option Addr} {ln lc : Nat} (h : POwn w base p C cn cc E en ec L ln lc) {cs : Array Value} {t : TypeId} (hp : w.heap[g]? = some (.cells cs t (0, 0))) (h1 : 5 ≠ t) (h2 : 24 ≠ t) (hg : w.grownBy w' (some g)) : POwn w' base p C cn cc E en ec L ln lc :=
  ⟨h.oc.kept hg (own_off h.oc hp h2), h.oe.kept hg (own_off h.oe hp h1), h.ol.kept hg (own_off h.ol hp h1)⟩
theorem POwn.mono {w : World} {base base' : Nat} {p : Pkt} {C : Option Addr} {cn cc : Nat} {E : Option Addr} {en ec : Nat} {L : Option Addr} {ln lc : Nat} (h : POwn w base p C cn cc E en ec L ln lc) (hb : base' ≤ base) : POwn w base' p C cn cc E en ec L ln lc := ⟨own_mono h.oc hb, own_mono h.oe hb, own_mono h.ol hb⟩
theorem two_new (w : World) (o1 o2 : Obj) : Below w.heap.size w ((w.alloc o1).alloc o2) ∧ ((w.alloc o1).alloc o2).heap[w.heap.size]? = some o1 ∧ ((w.alloc o1).alloc o2).heap[w.heap.size + 1]? = some o2 ∧ ((w.alloc o1).alloc o2).heap.size = w.heap.size + 2 := by
  have h := (Below.refl w.heap.size w).alloc (Nat.le_refl _) o1
  refine ⟨h.alloc (by simp) o2, ?_, ?_, by simp⟩
  · have e := blk_alloc w o1
    rw [← e]
    exact ((Below.refl (w.alloc o1).heap.size (w.alloc o1)).alloc (Nat.le_refl _) o2).block _ (by simp)
  · have e := blk_alloc (w.alloc o1) o2
    rw [show w.heap.size + 1 = (w.alloc o1).heap.size by simp]
    exact e
theorem blk_lt {w : World} {g : Nat} {o : Obj} (h : w.heap[g]? = some o) : g < w.heap.size := by
  apply Classical.byContradiction
  intro hn
  rw [Array.getElem?_eq_none (by omega)] at h
  cases h
theorem below_two {w w4 w5 w6 : World} (h : Below w.heap.size w w4) (h5 : w4.grownBy w5 (some w.heap.size)) (h6 : w5.grownBy w6 (some (w.heap.size + 1))) : Below w.heap.size w w6 :=
  (h.grown h5 h.size (fun q hq => by injection hq with hq; omega)).grown h6 (Nat.le_trans h.size h5.size) (fun q hq => by injection hq with hq; omega)
set_option maxRecDepth 20000 in
set_option maxHeartbeats 4000000 in
theorem media_any (A : Option Addr) (n c : Nat) (l : List UInt8) (w : World) (h : Bts w A n c l) :
    Calls Try.prog 80 #[.slice A n c] w fun e w' => ∃ C cn cc E en ec L ln lc, e = .returned (.tuple #[.agg #[.bool (mP l).mr, .int .i64 (mP l).ty, .int .u16 (mP l).sq, .int .u32 (mP l).tm, .int .u32 (mP l).ss, .slice C cn cc, .bool (mP l).hx, .int .u16 (mP l).pf, .slice E en ec, .slice L ln lc, .int .i64 (mP l).pad], .agg #[.int .i64 (dL (plD l)), .bool (dK (plD l)), .bool (dS (plD l)), .int .u16 (dF (plD l))], .int .i64 (mE l)]) ∧
      Hid (POwn w' w.heap.size (mP l) C cn cc E en ec L ln lc) ∧ Below w.heap.size w w' := by
  have HB := Lib.hid h
  obtain ⟨q, hq⟩ : ∃ q, getP l = q := ⟨_, rfl⟩
  have HQ := Lib.hid hq
  by_cases he : lookE l = 0
  · have HZ : Hid ((0 : Int) = (lookE l : Nat)) := by show _ = _; rw [he]; rfl
    have hpl : plG l = q.pl := by rw [← hq]; unfold getP; rw [if_pos he]
    have hpd : plD l = q.pl := by unfold plD; rw [if_pos he, hpl]
    by_cases hd : dE q.pl = 0
    · have hok : okD l = true := by unfold okD; rw [decide_eq_true he, hpl]; unfold dOk; rw [hd]; rfl
      have hme : mE l = 0 := by unfold mE; rw [if_pos he, hpl, hd]
      have hmp : mP l = q := by unfold mP; rw [hok, if_pos rfl, hq]
      rw [hmp, hpd, hme]
      have HD := Lib.hid hd
      clear h hq he hpl hpd hd hok hme hmp
      go_enter Try.func80, Try.ntmps80
      go_wp2_with (first
        | (go_at_call 22; (with_reducible refine (rget_own l q _ _ (0 : Int) HQ.out rfl rfl HZ.out A n c _ (HB.out.below (two_new w _ _).1)).mono ?_); rintro e w1 ⟨C, cn, cc, E, en, ec, L, ln, lc, rfl, HP, hb1⟩; have hit1 := blk_below (two_new w _ _).2.1 hb1; have hit2 := blk_below (two_new w _ _).2.2.1 hb1; have hb2 := (two_new w _ _).1.trans (hb1.mono (two_new w _ _).1.size); have hsz := hb1.size)
        | (go_at_call 76; (with_reducible refine (rdget_w L ln lc q.pl 0 HD.out _ ((prow_bts HP.out.row).below ((Below.refl w1.heap.size w1).alloc (Nat.le_refl _) _))).mono ?_); rintro e w2 ⟨rfl, hb3⟩; have HP2 := Lib.hid ((HP.out.below ((Below.refl w1.heap.size w1).alloc (Nat.le_refl _) _)).below hb3); have hit3 := blk_below (blk_below hit1 ((Below.refl w1.heap.size w1).alloc (Nat.le_refl _) _)) hb3; have hit4 := blk_below (blk_below hit2 ((Below.refl w1.heap.size w1).alloc (Nat.le_refl _) _)) hb3; have hit5 := blk_below (blk_alloc w1 _) hb3; have hb4 := (hb2.alloc hb2.size _).trans (hb3.mono (hb2.alloc hb2.size _).size))
        | fail)
      refine region_planA (calmB_sound _) (.fork [0] (.leaf [2, 1, 3, 4]) (.leaf [1, 2, 3, 4])) (by kernel_rfl) (by kernel_rfl) (by kernel_rfl) ?_
      have hs1 := blk_below hit3 ((Below.refl w2.heap.size w2).alloc (Nat.le_refl _) (.cells #[.int .i64 (dL q.pl), .bool (dK q.pl), .bool (dS q.pl), .int .u16 (dF q.pl)] 109))
      have hs2 := blk_below hit4 ((Below.refl w2.heap.size w2).alloc (Nat.le_refl _) (.cells #[.int .i64 (dL q.pl), .bool (dK q.pl), .bool (dS q.pl), .int .u16 (dF q.pl)] 109))
      have hs5 := blk_below hit5 ((Below.refl w2.heap.size w2).alloc (Nat.le_refl _) (.cells #[.int .i64 (dL q.pl), .bool (dK q.pl), .bool (dS q.pl), .int .u16 (dF q.pl)] 109))
      have hs6 := blk_alloc w2 (.cells #[.int .i64 (dL q.pl), .bool (dK q.pl), .bool (dS q.pl), .int .u16 (dF q.pl)] 109)
      have HBF : Hid (Below w.heap.size w ((w2.alloc (.cells #[.int .i64 (dL q.pl), .bool (dK q.pl), .bool (dS q.pl), .int .u16 (dF q.pl)] 109)).drew)) := (hb4.alloc hb4.size _).drew
      have HPF : Hid (POwn ((w2.alloc (.cells #[.int .i64 (dL q.pl), .bool (dK q.pl), .bool (dS q.pl), .int .u16 (dF q.pl)] 109)).drew) ((w.alloc _).alloc _).heap.size q C cn cc E en ec L ln lc) := HP2.out.below ((Below.refl w2.heap.size w2).alloc (Nat.le_refl _) (.cells #[.int .i64 (dL q.pl), .bool (dK q.pl), .bool (dS q.pl), .int .u16 (dF q.pl)] 109)).drew
      have HS1 : Hid (((w2.alloc (.cells #[.int .i64 (dL q.pl), .bool (dK q.pl), .bool (dS q.pl), .int .u16 (dF q.pl)] 109)).drew).heap[w.heap.size]? = _) := hs1
      have HS2 : Hid (((w2.alloc (.cells #[.int .i64 (dL q.pl), .bool (dK q.pl), .bool (dS q.pl), .int .u16 (dF q.pl)] 109)).drew).heap[w.heap.size + 1]? = _) := hs2
      have hs5' : ((w2.alloc (.cells #[.int .i64 (dL q.pl), .bool (dK q.pl), .bool (dS q.pl), .int .u16 (dF q.pl)] 109)).drew).heap[w1.heap.size]? = _ := hs5
      have hs6' : ((w2.alloc (.cells #[.int .i64 (dL q.pl), .bool (dK q.pl), .bool (dS q.pl), .int .u16 (dF q.pl)] 109)).drew).heap[w2.heap.size]? = _ := hs6
      have hlt0 := blk_lt hit2
      have hlt1 := blk_lt HS1.out
      have hlt2 := blk_lt HS2.out
      have hne1 : some w.heap.size ≠ some (w.heap.size + 1) := (by simp)
      have hne2 : some (w.heap.size + 1) ≠ some w.heap.size := (by simp)
      clear hs1 hs2 hs5 hs6
      have hlt6 := blk_lt hs6'
      have hne6 : some w2.heap.size ≠ some w.heap.size := by have := hb4.size; have := blk_lt hit3; have := hb2.size; have := hb3.size; have := hlt0; intro e; injection e; omega
      generalize (w2.alloc (.cells #[.int .i64 (dL q.pl), .bool (dK q.pl), .bool (dS q.pl), .int .u16 (dF q.pl)] 109)).drew = w4 at *
      obtain ⟨x0, x1, x2, x3, x4, x5, x6, x7, x8, x9, x10⟩ := eleven_cells hs5'
      obtain ⟨y0, y1, y2, y3⟩ := four_set hs6'
      refine wpPlan_fork fun P1 hP1 => ?_
      simp only [List.filterMap_cons, List.filterMap_nil, List.getElem?_toArray, List.getElem?_cons_succ, List.getElem?_cons_zero]
      change wpList _ _ _ [_] _ _
      go_wp2
      refine hP1 _ _ ?_ ?_
      · refine wpPlan_leaf fun P2 hP2 => ?_
        simp only [List.filterMap_cons, List.filterMap_nil, List.getElem?_toArray, List.getElem?_cons_succ, List.getElem?_cons_zero]
        change wpList _ _ _ [_, _, _, _] _ _
        go_wp2_with (first | (refine wpList_store_blk rfl 39 (.tmp 2) (.tmp 33) rfl w.heap.size _ #[.bool q.mr, .int .i64 q.ty, .int .u16 q.sq, .int .u32 q.tm, .int .u32 q.ss, .slice C cn cc, .bool q.hx, .int .u16 q.pf, .slice E en ec, .slice L ln lc, .int .i64 q.pad] _ rfl rfl HS1.out rfl (by kernel_rfl) (by simp [Value.oneCell']) ?_; intro w5 hi5 hg5; have hj5 := (hg5.block _ hlt2 hne2).trans HS2.out; have hk5 := (hg5.block _ hlt6 hne6).trans hs6'; obtain ⟨v0, v1, v2, v3⟩ := four_set hk5) | (refine wpList_store_blk rfl 109 (.tmp 3) (.tmp 34) rfl (w.heap.size + 1) _ #[.int .i64 (dL q.pl), .bool (dK q.pl), .bool (dS q.pl), .int .u16 (dF q.pl)] _ rfl rfl hj5 rfl (by kernel_rfl) (by simp [Value.oneCell']) ?_; intro w6 hi6 hg6; have hi7 := (hg6.block _ (Nat.lt_of_lt_of_le hlt1 hg5.size) hne1).trans hi5; obtain ⟨r0, r1, r2, r3, r4, r5, r6, r7, r8, r9, r10⟩ := eleven_cells hi7; obtain ⟨d0, d1, d2, d3⟩ := four_set hi6))
        exact bodyPost_ret (v := .tuple #[.agg #[.bool q.mr, .int .i64 q.ty, .int .u16 q.sq, .int .u32 q.tm, .int .u32 q.ss, .slice C cn cc, .bool q.hx, .int .u16 q.pf, .slice E en ec, .slice L ln lc, .int .i64 q.pad], .agg #[.int .i64 (dL q.pl), .bool (dK q.pl), .bool (dS q.pl), .int .u16 (dF q.pl)], .int .i64 0]) (by simp [results, Try.results80, go_sem, r0, r1, r2, r3, r4, r5, r6, r7, r8, r9, r10, d0, d1, d2, d3]) rfl ⟨C, cn, cc, E, en, ec, L, ln, lc, rfl, hid_of (((HPF.out.over HS1.out (by decide) (by decide) hg5).over hj5 (by decide) (by decide) hg6).mono (by simp; omega)), below_two HBF.out hg5 hg6⟩
      · refine wpPlan_leaf fun P3 hP3 => ?_
        simp only [List.filterMap_cons, List.filterMap_nil, List.getElem?_toArray, List.getElem?_cons_succ, List.getElem?_cons_zero]
        change wpList _ _ _ [_, _, _, _] _ _
        go_wp2_with (first | (refine wpList_store_blk rfl 39 (.tmp 2) (.tmp 33) rfl w.heap.size _ #[.bool q.mr, .int .i64 q.ty, .int .u16 q.sq, .int .u32 q.tm, .int .u32 q.ss, .slice C cn cc, .bool q.hx, .int .u16 q.pf, .slice E en ec, .slice L ln lc, .int .i64 q.pad] _ rfl rfl HS1.out rfl (by kernel_rfl) (by simp [Value.oneCell']) ?_; intro w5 hi5 hg5; have hj5 := (hg5.block _ hlt2 hne2).trans HS2.out; have hk5 := (hg5.block _ hlt6 hne6).trans hs6'; obtain ⟨v0, v1, v2, v3⟩ := four_set hk5) | (refine wpList_store_blk rfl 109 (.tmp 3) (.tmp 34) rfl (w.heap.size + 1) _ #[.int .i64 (dL q.pl), .bool (dK q.pl), .bool (dS q.pl), .int .u16 (dF q.pl)] _ rfl rfl hj5 rfl (by kernel_rfl) (by simp [Value.oneCell']) ?_; intro w6 hi6 hg6; have hi7 := (hg6.block _ (Nat.lt_of_lt_of_le hlt1 hg5.size) hne1).trans hi5; obtain ⟨r0, r1, r2, r3, r4, r5, r6, r7, r8, r9, r10⟩ := eleven_cells hi7; obtain ⟨d0, d1, d2, d3⟩ := four_set hi6))
        exact bodyPost_ret (v := .tuple #[.agg #[.bool q.mr, .int .i64 q.ty, .int .u16 q.sq, .int .u32 q.tm, .int .u32 q.ss, .slice C cn cc, .bool q.hx, .int .u16 q.pf, .slice E en ec, .slice L ln lc, .int .i64 q.pad], .agg #[.int .i64 (dL q.pl), .bool (dK q.pl), .bool (dS q.pl), .int .u16 (dF q.pl)], .int .i64 0]) (by simp [results, Try.results80, go_sem, r0, r1, r2, r3, r4, r5, r6, r7, r8, r9, r10, d0, d1, d2, d3]) rfl ⟨C, cn, cc, E, en, ec, L, ln, lc, rfl, hid_of (((HPF.out.over HS1.out (by decide) (by decide) hg5).over hj5 (by decide) (by decide) hg6).mono (by simp; omega)), below_two HBF.out hg5 hg6⟩
    · have hok : okD l = false := by unfold okD; rw [decide_eq_true he, hpl]; unfold dOk; simpa using hd
      have hme : mE l = dE q.pl := by unfold mE; rw [if_pos he, hpl]
      have hmp : mP l = zeroP := by unfold mP; rw [hok]; rfl
      obtain ⟨k0, k1, k2, k3⟩ := plD_no hok
      rw [hmp, hme, k0, k1, k2, k3]
      obtain ⟨z, hz⟩ : ∃ z, dE q.pl = z := ⟨_, rfl⟩
      have HD := Lib.hid hz
      rw [hz] at hd ⊢
      clear h hq he hpl hpd hok hme hmp k0 k1 k2 k3 hz
      go_enter Try.func80, Try.ntmps80
      go_wp2_with (first
        | (go_at_call 22; (with_reducible refine (rget_own l q _ _ (0 : Int) HQ.out rfl rfl HZ.out A n c _ (HB.out.below (two_new w _ _).1)).mono ?_); rintro e w1 ⟨C, cn, cc, E, en, ec, L, ln, lc, rfl, HP, hb1⟩; have hit1 := blk_below (two_new w _ _).2.1 hb1; have hit2 := blk_below (two_new w _ _).2.2.1 hb1; have hb2 := (two_new w _ _).1.trans (hb1.mono (two_new w _ _).1.size); have hsz := hb1.size)
        | (go_at_call 76; (with_reducible refine (rdget_w L ln lc q.pl z HD.out _ ((prow_bts HP.out.row).below ((Below.refl w1.heap.size w1).alloc (Nat.le_refl _) _))).mono ?_); rintro e w2 ⟨rfl, hb3⟩; have hit3 := blk_below (blk_below hit1 ((Below.refl w1.heap.size w1).alloc (Nat.le_refl _) _)) hb3; have hit4 := blk_below (blk_below hit2 ((Below.refl w1.heap.size w1).alloc (Nat.le_refl _) _)) hb3; have hb4 := (hb2.alloc hb2.size _).trans (hb3.mono (hb2.alloc hb2.size _).size); have hs1 := blk_below hit3 ((Below.refl w2.heap.size w2).alloc (Nat.le_refl _) (.cells #[.int .i64 (dL q.pl), .bool (dK q.pl), .bool (dS q.pl), .int .u16 (dF q.pl)] 109)); have hs2 := blk_below hit4 ((Below.refl w2.heap.size w2).alloc (Nat.le_refl _) (.cells #[.int .i64 (dL q.pl), .bool (dK q.pl), .bool (dS q.pl), .int .u16 (dF q.pl)] 109)); have HBF := Lib.hid (hb4.alloc hb4.size (.cells #[.int .i64 (dL q.pl), .bool (dK q.pl), .bool (dS q.pl), .int .u16 (dF q.pl)] 109)); have hlt1 := blk_lt hs1; have hlt2 := blk_lt hs2; have hne1 : some w.heap.size ≠ some (w.heap.size + 1) := (by simp); have hne2 : some (w.heap.size + 1) ≠ some w.heap.size := (by simp))
        | (refine wpList_store_blk rfl 39 (.tmp 2) (.tmp 30) rfl w.heap.size _ #[.bool false, .int .i64 0, .int .u16 0, .int .u32 0, .int .u32 0, .slice none 0 0, .bool false, .int .u16 0, .slice none 0 0, .slice none 0 0, .int .i64 0] _ rfl rfl hs1 rfl (by kernel_rfl) (by simp [Value.oneCell']) ?_; intro w5 hi5 hg5; have hj5 := (hg5.block _ hlt2 hne2).trans hs2)
        | (refine wpList_store_blk rfl 109 (.tmp 3) (.tmp 31) rfl (w.heap.size + 1) _ #[.int .i64 0, .bool false, .bool false, .int .u16 0] _ rfl rfl hj5 rfl (by kernel_rfl) (by simp [Value.oneCell']) ?_; intro w6 hi6 hg6; have hi7 := (hg6.block _ (Nat.lt_of_lt_of_le hlt1 hg5.size) hne1).trans hi5; obtain ⟨r0, r1, r2, r3, r4, r5, r6, r7, r8, r9, r10⟩ := eleven_cells hi7; obtain ⟨d0, d1, d2, d3⟩ := four_set hi6))
      exact bodyPost_ret (v := .tuple #[.agg #[.bool false, .int .i64 0, .int .u16 0, .int .u32 0, .int .u32 0, .slice none 0 0, .bool false, .int .u16 0, .slice none 0 0, .slice none 0 0, .int .i64 0], .agg #[.int .i64 0, .bool false, .bool false, .int .u16 0], .int .i64 z]) (by simp [results, Try.results80, go_sem, r0, r1, r2, r3, r4, r5, r6, r7, r8, r9, r10, d0, d1, d2, d3]) rfl ⟨none, 0, 0, none, 0, 0, none, 0, 0, rfl, hid_of (pown_zero _ _), below_two HBF.out hg5 hg6⟩
  · have hok : okD l = false := by unfold okD; rw [decide_eq_false he]; rfl
    have hme : mE l = (lookE l : Nat) := by unfold mE; rw [if_neg he]
    have hmp : mP l = zeroP := by unfold mP; rw [hok]; rfl
    obtain ⟨k0, k1, k2, k3⟩ := plD_no hok
    rw [hmp, hme, k0, k1, k2, k3]
    obtain ⟨y, hy⟩ : ∃ y, lookE l = y := ⟨_, rfl⟩
    have HZ : Hid ((y : Int) = (lookE l : Nat)) := by show _ = _; rw [hy]
    rw [hy] at he ⊢
    have hy0 : ((y : Int) != 0) = true := by simp; omega
    clear h hq hok hme hmp k0 k1 k2 k3 hy
    go_enter Try.func80, Try.ntmps80
    go_wp2_with (first
      | (go_at_call 22; (with_reducible refine (rget_own l q _ _ (y : Int) HQ.out rfl rfl HZ.out A n c _ (HB.out.below (two_new w _ _).1)).mono ?_); rintro e w1 ⟨C, cn, cc, E, en, ec, L, ln, lc, rfl, HP, hb1⟩; have hit1 := blk_below (two_new w _ _).2.1 hb1; have hit2 := blk_below (two_new w _ _).2.2.1 hb1; have hb2 := (two_new w _ _).1.trans (hb1.mono (two_new w _ _).1.size); have hsz := hb1.size; have hs1 := blk_below hit1 ((Below.refl w1.heap.size w1).alloc (Nat.le_refl _) (.cells #[.bool q.mr, .int .i64 q.ty, .int .u16 q.sq, .int .u32 q.tm, .int .u32 q.ss, .slice C cn cc, .bool q.hx, .int .u16 q.pf, .slice E en ec, .slice L ln lc, .int .i64 q.pad] 39)); have hs2 := blk_below hit2 ((Below.refl w1.heap.size w1).alloc (Nat.le_refl _) (.cells #[.bool q.mr, .int .i64 q.ty, .int .u16 q.sq, .int .u32 q.tm, .int .u32 q.ss, .slice C cn cc, .bool q.hx, .int .u16 q.pf, .slice E en ec, .slice L ln lc, .int .i64 q.pad] 39)); have HBF := Lib.hid (hb2.alloc hb2.size (.cells #[.bool q.mr, .int .i64 q.ty, .int .u16 q.sq, .int .u32 q.tm, .int .u32 q.ss, .slice C cn cc, .bool q.hx, .int .u16 q.pf, .slice E en ec, .slice L ln lc, .int .i64 q.pad] 39)); have hlt1 := blk_lt hs1; have hlt2 := blk_lt hs2; have hne1 : some w.heap.size ≠ some (w.heap.size + 1) := (by simp); have hne2 : some (w.heap.size + 1) ≠ some w.heap.size := (by simp))
      | (refine wpList_store_blk rfl 39 (.tmp 2) (.tmp 19) rfl w.heap.size _ #[.bool false, .int .i64 0, .int .u16 0, .int .u32 0, .int .u32 0, .slice none 0 0, .bool false, .int .u16 0, .slice none 0 0, .slice none 0 0, .int .i64 0] _ rfl rfl hs1 rfl (by kernel_rfl) (by simp [Value.oneCell']) ?_; intro w5 hi5 hg5; have hj5 := (hg5.block _ hlt2 hne2).trans hs2)
      | (refine wpList_store_blk rfl 109 (.tmp 3) (.tmp 20) rfl (w.heap.size + 1) _ #[.int .i64 0, .bool false, .bool false, .int .u16 0] _ rfl rfl hj5 rfl (by kernel_rfl) (by simp [Value.oneCell']) ?_; intro w6 hi6 hg6; have hi7 := (hg6.block _ (Nat.lt_of_lt_of_le hlt1 hg5.size) hne1).trans hi5; obtain ⟨r0, r1, r2, r3, r4, r5, r6, r7, r8, r9, r10⟩ := eleven_cells hi7; obtain ⟨d0, d1, d2, d3⟩ := four_set hi6))
    exact bodyPost_ret (v := .tuple #[.agg #[.bool false, .int .i64 0, .int .u16 0, .int .u32 0, .int .u32 0, .slice none 0 0, .bool false, .int .u16 0, .slice none 0 0, .slice none 0 0, .int .i64 0], .agg #[.int .i64 0, .bool false, .bool false, .int .u16 0], .int .i64 y]) (by simp [results, Try.results80, go_sem, r0, r1, r2, r3, r4, r5, r6, r7, r8, r9, r10, d0, d1, d2, d3]) rfl ⟨none, 0, 0, none, 0, 0, none, 0, 0, rfl, hid_of (pown_zero _ _), below_two HBF.out hg5 hg6⟩
end Go.Proofs.Ytknlkmencdlpcaa

namespace Go.Proofs.Ytknlkmencdlpcaa
set_option linter.unusedVariables false
set_option linter.unusedSimpArgs false
open Go Go.RowKit

set_option maxHeartbeats 1000000 in
theorem copied_any (A : Option Addr) (n c : Nat) (l : List UInt8) (w : World) (h : Bts w A n c l) (hn : n ≤ 140737488351232) :
    Calls Try.prog 15 #[.slice A n c] w fun e w' => ∃ B c', e = .returned (.slice B n c') ∧ w'.ownsRow w.heap.size 5 1 (.slice B n c') n (bys l) ∧ Below w.heap.size w w' := by
  have HB := Lib.hid h
  have hln := h.len
  clear h
  go_enter Try.func15, Try.ntmps15
  go_wp2_with (at_builtin; refine wpList_app slU8 rfl _ _ rfl w.heap.size none 0 0 [] rfl (World.ownsRow_nil _ _ _ _) A n c (bys l) rfl (by rw [bys_length, hln, Nat.mul_one]) HB.out.rd (bys_one _) (by omega) (Nat.le_refl _) ?_; intro A4 c4 w4 ho4 hg4 hA4; simp only [Nat.zero_add, List.nil_append] at ho4; have hb4 := (Below.refl w.heap.size w).grown hg4 (Nat.le_refl _) (by simp))
  go_ret
  simp only [Nat.zero_add]
  exact ⟨A4, c4, rfl, ho4, hb4⟩
theorem media_ok (l : List UInt8) (q : Pkt) (hok : okD l = true) (hq : getP l = q) (A : Option Addr) (n c : Nat) (w : World) (h : Bts w A n c l) :
    Calls Try.prog 80 #[.slice A n c] w fun e w' => ∃ C cn cc E en ec L ln lc, e = .returned (.tuple #[.agg #[.bool q.mr, .int .i64 q.ty, .int .u16 q.sq, .int .u32 q.tm, .int .u32 q.ss, .slice C cn cc, .bool q.hx, .int .u16 q.pf, .slice E en ec, .slice L ln lc, .int .i64 q.pad], .agg #[.int .i64 (dL q.pl), .bool (dK q.pl), .bool (dS q.pl), .int .u16 (dF q.pl)], .int .i64 0]) ∧
      Hid (POwn w' w.heap.size q C cn cc E en ec L ln lc) ∧ Below w.heap.size w w' := by
  have he := okD_look hok
  have e1 : mP l = q := by unfold mP; rw [hok, if_pos rfl, hq]
  have e2 : plD l = q.pl := by unfold plD; rw [if_pos he, ← hq, (getP_f he).2.2.2]
  have e3 : mE l = 0 := by rw [okD_mE] at hok; simpa using hok
  have := media_any A n c l w h
  rw [e1, e2, e3] at this
  exact this
theorem media_no (l : List UInt8) (z : Int) (hok : okD l = false) (hz : mE l = z) (A : Option Addr) (n c : Nat) (w : World) (h : Bts w A n c l) :
    Calls Try.prog 80 #[.slice A n c] w fun e w' => ∃ C cn cc E en ec L ln lc, e = .returned (.tuple #[.agg #[.bool false, .int .i64 0, .int .u16 0, .int .u32 0, .int .u32 0, .slice C cn cc, .bool false, .int .u16 0, .slice E en ec, .slice L ln lc, .int .i64 0], .agg #[.int .i64 0, .bool false, .bool false, .int .u16 0], .int .i64 z]) ∧
      Hid (POwn w' w.heap.size zeroP C cn cc E en ec L ln lc) ∧ Below w.heap.size w w' := by
  have e1 : mP l = zeroP := by unfold mP; rw [hok]; rfl
  obtain ⟨k0, k1, k2, k3⟩ := plD_no hok
  have := media_any A n c l w h
  rw [e1, k0, k1, k2, k3, hz] at this
  exact this
theorem mE_ne {l : List UInt8} (hok : okD l = false) : mE l ≠ 0 := by
  rw [okD_mE] at hok
  simpa using hok
theorem two_second {w1 w5 : World} {o1 o2 : Obj} (hg5 : ((w1.alloc o1).alloc o2).grownBy w5 (some w1.heap.size)) : w5.heap[w1.heap.size + 1]? = some o2 := by
  have hT := two_new w1 o1 o2
  exact (hg5.block _ (by rw [hT.2.2.2]; omega) (by simp)).trans hT.2.2.1
theorem two_stored {w1 w5 w6 : World} {o1 o2 p : Obj} (hg5 : ((w1.alloc o1).alloc o2).grownBy w5 (some w1.heap.size)) (hi5 : w5.heap[w1.heap.size]? = some p) (hg6 : w5.grownBy w6 (some (w1.heap.size + 1))) :
    Below w1.heap.size w1 w6 ∧ w6.heap[w1.heap.size]? = some p ∧ w1.heap.size + 2 ≤ w6.heap.size := by
  have hT := two_new w1 o1 o2
  have h5 := hg5.size
  have h6 := hg6.size
  rw [hT.2.2.2] at h5
  refine ⟨?_, (hg6.block _ (by omega) (by simp)).trans hi5, by omega⟩
  exact (hT.1.grown hg5 hT.1.size (fun q hq => by injection hq with hq; omega)).grown hg6 (by omega) (fun q hq => by injection hq with hq; omega)
theorem four_keep {w w' : World} {g p : Nat} {o : Obj} (h : w.heap[p]? = some o) (hg : w.grownBy w' (some g)) (hne : p ≠ g) : w'.heap[p]? = some o := by
  exact (hg.block _ (blk_lt h) (by simp; omega)).trans h
set_option maxRecDepth 20000 in
set_option maxHeartbeats 4000000 in
theorem rofP_any (A : Option Addr) (n c : Nat) (l : List UInt8) (w : World) (h : Bts w A n c l) :
    Calls Try.prog 21 #[.slice A n c] w fun e w' => e = .returned (.tuple #[.agg #[.int .u16 (oS l), .int .u32 (oT l), .int .u32 (oR l), .int .u16 (oF l)], .bool (okD l)]) ∧ Below w.heap.size w w' := by
  have HB := Lib.hid h
  clear h
  cases hok : okD l
  · have HK := Lib.hid hok
    obtain ⟨z, hz⟩ : ∃ z, mE l = z := ⟨_, rfl⟩
    have hne := mE_ne hok
    rw [hz] at hne
    have HZ := Lib.hid hz
    have HO : Hid (oS l = 0 ∧ oT l = 0 ∧ oR l = 0 ∧ oF l = 0) := by refine ⟨?_, ?_, ?_, ?_⟩ <;> simp [oS, oT, oR, oF, hok]
    clear hok hz
    go_enter Try.func21, Try.ntmps21
    go_wp2_with (first
      | (go_at_call 80; (with_reducible refine (media_no l z HK.out HZ.out A n c _ (HB.out.below ((Below.refl w.heap.size w).alloc (Nat.le_refl _) _))).mono ?_); rintro e w1 ⟨C, cn, cc, E, en, ec, L, ln, lc, rfl, HP, hb1⟩; have hbw := ((Below.refl w.heap.size w).alloc (Nat.le_refl _) _).trans (hb1.mono (by simp)); have hit1 := blk_below (blk_alloc w _) hb1)
      | (refine wpList_store_blk rfl 39 (.tmp 4) (.tmp 10) rfl w1.heap.size _ #[.bool false, .int .i64 0, .int .u16 0, .int .u32 0, .int .u32 0, .slice C cn cc, .bool false, .int .u16 0, .slice E en ec, .slice L ln lc, .int .i64 0] _ rfl rfl (two_new w1 _ _).2.1 rfl (by kernel_rfl) (by simp [Value.oneCell']) ?_; intro w5 hi5 hg5; have hj5 := two_second hg5)
      | (refine wpList_store_blk rfl 109 (.tmp 5) (.tmp 11) rfl (w1.heap.size + 1) _ #[.int .i64 0, .bool false, .bool false, .int .u16 0] _ rfl rfl hj5 rfl (by kernel_rfl) (by simp [Value.oneCell']) ?_; intro w6 hi6 hg6; obtain ⟨hbs, hi7, hs6⟩ := two_stored hg5 hi5 hg6; have hit := blk_below hit1 hbs; have hb6 := hbw.trans (hbs.mono hbw.size))
      | (refine wpList_store_blk rfl 26 (.tmp 2) (.tmp 15) rfl w.heap.size _ #[.int .u16 0, .int .u32 0, .int .u32 0, .int .u16 0] _ rfl rfl hit rfl (by kernel_rfl) (by simp [Value.oneCell']) ?_; intro w7 hi8 hg7; obtain ⟨r0, r1, r2, r3⟩ := four_set hi8))
    exact bodyPost_ret (v := .tuple #[.agg #[.int .u16 0, .int .u32 0, .int .u32 0, .int .u16 0], .bool false]) (by simp [results, Try.results21, go_sem, r0, r1, r2, r3]) rfl ⟨by rw [HO.out.1, HO.out.2.1, HO.out.2.2.1, HO.out.2.2.2]; rfl, hb6.grown hg7 hb6.size (fun q hq => by injection hq with hq; omega)⟩
  · have HK := Lib.hid hok
    obtain ⟨q, hq⟩ : ∃ q, getP l = q := ⟨_, rfl⟩
    have HQ := Lib.hid hq
    have HO : Hid (oS l = q.sq ∧ oT l = q.tm ∧ oR l = q.ss ∧ oF l = dF q.pl) := by
      obtain ⟨f1, f2, f3, f4⟩ := getP_f (okD_look hok)
      refine ⟨?_, ?_, ?_, ?_⟩ <;> simp only [oS, oT, oR, oF, hok, if_true, ← hq, f1, f2, f3, f4]
    clear hok hq
    go_enter Try.func21, Try.ntmps21
    go_wp2_with (first
      | (go_at_call 80; (with_reducible refine (media_ok l q HK.out HQ.out A n c _ (HB.out.below ((Below.refl w.heap.size w).alloc (Nat.le_refl _) _))).mono ?_); rintro e w1 ⟨C, cn, cc, E, en, ec, L, ln, lc, rfl, HP, hb1⟩; have hbw := ((Below.refl w.heap.size w).alloc (Nat.le_refl _) _).trans (hb1.mono (by simp)); have hit1 := blk_below (blk_alloc w _) hb1)
      | (refine wpList_store_blk rfl 39 (.tmp 4) (.tmp 10) rfl w1.heap.size _ #[.bool q.mr, .int .i64 q.ty, .int .u16 q.sq, .int .u32 q.tm, .int .u32 q.ss, .slice C cn cc, .bool q.hx, .int .u16 q.pf, .slice E en ec, .slice L ln lc, .int .i64 q.pad] _ rfl rfl (two_new w1 _ _).2.1 rfl (by kernel_rfl) (by simp [Value.oneCell']) ?_; intro w5 hi5 hg5; have hj5 := two_second hg5)
      | (refine wpList_store_blk rfl 109 (.tmp 5) (.tmp 11) rfl (w1.heap.size + 1) _ #[.int .i64 (dL q.pl), .bool (dK q.pl), .bool (dS q.pl), .int .u16 (dF q.pl)] _ rfl rfl hj5 rfl (by kernel_rfl) (by simp [Value.oneCell']) ?_; intro w6 hi6 hg6; obtain ⟨hbs, hi7, hs6⟩ := two_stored hg5 hi5 hg6; have hit := blk_below hit1 hbs; have hb6 := hbw.trans (hbs.mono hbw.size); obtain ⟨x0, x1, x2, x3, x4, x5, x6, x7, x8, x9, x10⟩ := eleven_cells hi7; obtain ⟨y0, y1, y2, y3⟩ := four_set hi6)
      | (refine wpList_store_blk rfl 26 (.tmp 2) (.tmp 24) rfl w.heap.size _ #[.int .u16 q.sq, .int .u32 q.tm, .int .u32 q.ss, .int .u16 (dF q.pl)] _ rfl rfl hit rfl (by kernel_rfl) (by simp [Value.oneCell']) ?_; intro w7 hi8 hg7; obtain ⟨r0, r1, r2, r3⟩ := four_set hi8))
    exact bodyPost_ret (v := .tuple #[.agg #[.int .u16 q.sq, .int .u32 q.tm, .int .u32 q.ss, .int .u16 (dF q.pl)], .bool true]) (by simp [results, Try.results21, go_sem, r0, r1, r2, r3]) rfl ⟨by rw [HO.out.1, HO.out.2.1, HO.out.2.2.1, HO.out.2.2.2], hb6.grown hg7 hb6.size (fun q hq => by injection hq with hq; omega)⟩
end Go.Proofs.Ytknlkmencdlpcaa
