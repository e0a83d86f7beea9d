/-
The items that bytes are, as package rtcp reads them.
-/
import Derived.Test.YtknlkmencdlpcaaRc6
import Derived.Test.YtknlkmencdlpcaaPkt
namespace Go.Proofs.Ytknlkmencdlpcaa
set_option linter.unusedVariables false
set_option linter.unusedSimpArgs false
open Go Go.RowKit

theorem slIt : SliceT Try.prog 48 54 (.agg #[.int .i64 0, .int .u32 0, .int .u64 0, .int .u32 0, .int .u32 0, .int .u32 0, .slice none 0 0, .slice none 0 0, .int .u32 0, .slice none 0 0]) 10 120 := sliceT_of Try.underlying48 (by kernel_rfl) rfl (by decide) (by decide)
theorem own_rowG {w : World} {base : Nat} {e : TypeId} {size : Nat} {A : Option Addr} {n c : Nat} {xs : List Value} (bytes : Nat) (h : w.ownsRow base e size (.slice A n c) n xs) : Row w A n c size bytes xs := by
  have hc := own_cap h
  refine ⟨h.1, hc.1, hc.2, own_nil h, fun j u hu => ?_⟩
  have hn : 0 < n := by
    have := (List.getElem?_eq_some_iff.1 hu).1
    rw [h.1] at this
    rcases Nat.eq_zero_or_pos n with h0 | h0
    · subst h0; simp at this
    · exact h0
  obtain ⟨g, cap, hv, _⟩ := h.form hn
  injection hv with hA
  subst hA
  exact ⟨_, rfl, h.cells (g := g) rfl j u hu⟩
theorem row_over {w w' : World} {b b' : Nat} {e e' : TypeId} {s s' n c m d : Nat} {A C : Option Addr} {xs ys : List Value} (h : w.ownsRow b e s (.slice A n c) n xs) (ho : w.ownsRow b' e' s' (.slice C m d) m ys) (hne : e ≠ e') (hg : w.grownBy w' (C.map Addr.block)) :
    w'.ownsRow b e s (.slice A n c) n xs := by
  rcases hC : C.map Addr.block with _ | k
  · rw [hC] at hg
    exact h.kept hg (own_none _)
  · obtain ⟨cur, hp⟩ := kind_of_own ho hC
    rw [hC] at hg
    exact h.kept hg (own_off h hp hne)
def SlX (w : World) (base : Nat) (x : Sl) : Prop := SlO w base x.i x.A x.n x.c x.G x.gn x.gc x.P x.pn x.pc
theorem slx_below {w w' : World} {base : Nat} {x : Sl} (h : SlX w base x) (hb : Below w.heap.size w w') : SlX w' base x :=
  ⟨h.oa.kept (own_below hb) (own_none _), h.og.kept (own_below hb) (own_none _), h.op.kept (own_below hb) (own_none _)⟩
theorem slx_over {w w' : World} {base b k c : Nat} {A : Option Addr} {ys : List Value} {x : Sl} (h : SlX w base x) (ho : w.ownsRow b 54 10 (.slice A k c) k ys) (hg : w.grownBy w' (A.map Addr.block)) : SlX w' base x :=
  ⟨row_over h.oa ho (by decide) hg, row_over h.og ho (by decide) hg, row_over h.op ho (by decide) hg⟩
/-- A slice of items, each of its own. -/
structure ItsO (w : World) (base : Nat) (A : Option Addr) (k c : Nat) (xs : List Sl) : Prop where
  own : w.ownsRow base 54 10 (.slice A k c) k (rowI xs)
  rows : ∀ x ∈ xs, SlX w base x
  ok : ∀ x ∈ xs, x.i.Ok
theorem ItsO.len {w : World} {base : Nat} {A : Option Addr} {k c : Nat} {xs : List Sl} (h : ItsO w base A k c xs) : xs.length = k := by
  have := h.own.1
  rw [rowI_length] at this
  omega
theorem ItsO.its {w : World} {base : Nat} {A : Option Addr} {k c : Nat} {xs : List Sl} (h : ItsO w base A k c xs) : Its w A k c xs := by
  have r := own_rowG 120 h.own
  exact ⟨h.len, r.nc, r.cm, r.rd, fun x hx => ⟨own_rowG 28 (h.rows x hx).oa, own_rowG 4 (h.rows x hx).og, own_rowG 4 (h.rows x hx).op, h.ok x hx⟩⟩
theorem ItsO.below {w w' : World} {base : Nat} {A : Option Addr} {k c : Nat} {xs : List Sl} (h : ItsO w base A k c xs) (hb : Below w.heap.size w w') : ItsO w' base A k c xs :=
  ⟨h.own.kept (own_below hb) (own_none _), fun x hx => slx_below (h.rows x hx) hb, h.ok⟩
theorem itso_nil (w : World) (base : Nat) : ItsO w base none 0 0 [] := ⟨World.ownsRow_nil _ _ _ _, (fun x hx => by cases hx), (fun x hx => by cases hx)⟩
/-- One item more. -/
theorem ItsO.app {w w' : World} {base : Nat} {A A' : Option Addr} {k c c' : Nat} {xs : List Sl} {x : Sl} (h : ItsO w base A k c xs) (hx : SlX w base x) (ok : x.i.Ok) (ho : w'.ownsRow base 54 10 (.slice A' (k + 1) c') (k + 1) (rowI xs ++ slV x)) (hg : w.grownBy w' (A.map Addr.block)) :
    ItsO w' base A' (k + 1) c' (xs ++ [x]) := by
  refine ⟨by rw [rowI_snoc]; exact ho, fun y hy => ?_, fun y hy => ?_⟩
  · rcases List.mem_append.1 hy with h1 | h1
    · exact slx_over (h.rows y h1) h.own hg
    · obtain rfl := List.mem_singleton.1 h1
      exact slx_over hx h.own hg
  · rcases List.mem_append.1 hy with h1 | h1
    · exact h.ok y h1
    · obtain rfl := List.mem_singleton.1 h1
      exact ok
theorem lit_sl (w : World) (x : Sl) : Rd (w.alloc (.cells (slV x).toArray 54)) (some ⟨w.heap.size, 0, none⟩) (slV x) := by
  intro j u hu
  refine ⟨_, rfl, ?_⟩
  have h := blk_alloc w (.cells (slV x).toArray 54)
  rw [add_lit, cell_of_row _ _ _ _ _ _ h]
  simpa using hu
def lenV : Value → Nat
  | .slice _ n _ => n
  | _ => 0
/-- What there is to be told when r items are still taken. -/
def accG (k : Nat) (is : List Itm) (l : List UInt8) : Nat × List Itm := if (gets (8 - k) l).1 = 0 then (0, is ++ (gets (8 - k) l).2) else ((gets (8 - k) l).1, [])
theorem acc_start (l : List UInt8) : accG 0 [] l = gets 8 l := by
  unfold accG
  split
  · rename_i h
    rw [List.nil_append]
    exact Prod.ext h.symm rfl
  · rename_i h
    have := gets_no h
    exact Prod.ext rfl this.symm
theorem acc_more (is : List Itm) (l : List UInt8) : accG 8 is l = (3, []) := rfl
theorem acc_err {k : Nat} (hk : k < 8) (is : List Itm) {l : List UInt8} (h : gE l ≠ 0) : accG k is l = (gE l, []) := by
  obtain ⟨r, hr⟩ : ∃ r, 8 - k = r + 1 := ⟨7 - k, by omega⟩
  have e : gets (r + 1) l = (gE l, []) := by rw [gets, if_pos h]
  unfold accG
  rw [hr, e, if_neg h]
theorem acc_last {k : Nat} (hk : k < 8) (is : List Itm) {l : List UInt8} (h : gE l = 0) (hl : gL l = l.length) : accG k is l = (0, is ++ [getG l]) := by
  obtain ⟨r, hr⟩ : ∃ r, 8 - k = r + 1 := ⟨7 - k, by omega⟩
  have e : gets (r + 1) l = (0, [getG l]) := by rw [gets, if_neg (by rw [h]; simp), if_pos hl]
  unfold accG
  rw [hr, e]
  rfl
theorem acc_step {k : Nat} (hk : k < 8) (is : List Itm) {l : List UInt8} (h : gE l = 0) (hl : gL l ≠ l.length) : accG k is l = accG (k + 1) (is ++ [getG l]) (l.drop (gL l)) := by
  obtain ⟨r, hr⟩ : ∃ r, 8 - k = r + 1 := ⟨7 - k, by omega⟩
  have hr1 : 8 - (k + 1) = r := by omega
  unfold accG
  rw [hr, hr1]
  by_cases hz : (gets r (l.drop (gL l))).1 = 0
  · have e : gets (r + 1) l = (0, getG l :: (gets r (l.drop (gL l))).2) := by rw [gets, if_neg (by rw [h]; simp), if_neg hl, if_pos hz]
    rw [e, if_pos rfl, if_pos hz]
    simp
  · have e : gets (r + 1) l = ((gets r (l.drop (gL l))).1, []) := by rw [gets, if_neg (by rw [h]; simp), if_neg hl, if_neg hz]
    rw [e, if_neg hz, if_neg hz]
/-- What Get tells. -/
def RcG (l : List UInt8) (w : World) (e : Ending) (w' : World) : Prop := ∃ A k cA xs, e = .returned (.tuple #[.slice A k cA, .int .i64 (getsE l : Nat)]) ∧ Hid (itm xs = getsL l) ∧ Hid (ItsO w' w.heap.size A k cA xs) ∧ Below w.heap.size w w'
theorem rcg_err {l : List UInt8} {w w' : World} (Z : Int) (hZ : Z = (getsE l : Nat)) (hne : getsE l ≠ 0) (hb : Below w.heap.size w w') : RcG l w (.returned (.tuple #[.slice none 0 0, .int .i64 Z])) w' := by
  subst hZ
  exact ⟨none, 0, 0, [], rfl, (getsL_no hne).symm, itso_nil _ _, hb⟩
theorem rci_v (A : Option Addr) (n c : Nat) (l : List UInt8) (w : World) (h : Bts w A n c l) (q : Itm) (N E : Nat) (hq : getG l = q) (hN : gN l = N) (hE : gE l = E) :
    Calls Try.prog 93 #[.slice A n c] w fun e w' => ∃ A1 k1 c1 G1 g1 d1 Q1 p1 e1, e = .returned (.tuple #[.agg #[.int .i64 q.k, .int .u32 q.s, .int .u64 q.ntp, .int .u32 q.tm, .int .u32 q.pk, .int .u32 q.oc, .slice A1 k1 c1, .slice G1 g1 d1, .int .u32 q.me, .slice Q1 p1 e1], .int .i64 N, .int .i64 E]) ∧ Hid (SlO w' w.heap.size q A1 k1 c1 G1 g1 d1 Q1 p1 e1) ∧ Below w.heap.size w w' := by
  subst hq hN hE
  exact rci_any A n c l w h
set_option maxRecDepth 20000 in
set_option maxHeartbeats 8000000 in
theorem rcget_any (A : Option Addr) (n c : Nat) (l : List UInt8) (w : World) (h : Bts w A n c l) :
    Calls Try.prog 34 #[.slice A n c] w fun e w' => RcG l w e w' := by
  have HB := Lib.hid h
  have HLN := Lib.hid h.len
  have hw := Below.refl w.heap.size w
  clear h
  by_cases h5 : 512 < n
  · have HE : Hid (getsE l = 5) := by show _ = _; unfold getsE; rw [if_pos (by rw [HLN.out]; exact h5)]
    go_enter Try.func34, Try.ntmps34
    go_wp2
    go_ret2
    exact rcg_err 5 (by rw [HE.out]; rfl) (by rw [HE.out]; decide) hw
  have HG : Hid (getsE l = (gets 8 l).1 ∧ getsL l = (gets 8 l).2) := by
    have : ¬ 512 < l.length := by rw [HLN.out]; exact h5
    exact ⟨by unfold getsE; rw [if_neg this], by unfold getsL; rw [if_neg this]⟩
  go_enter Try.func34, Try.ntmps34
  go_wp2
  go_loopw [0, 4] (fun s0 s4 wr => ∃ (k m : Nat) (X : Option Addr) (cX : Nat) (A4 : Option Addr) (c4 : Nat) (r : List UInt8) (xs : List Sl), s0 = .slice X m cX ∧ s4 = .slice A4 k c4 ∧ k ≤ 8 ∧ m ≤ 512 ∧ Hid (Bts w X m cX r) ∧ Hid (ItsO wr w.heap.size A4 k c4 xs) ∧ Hid (gets 8 l = accG k (itm xs) r) ∧ Hid (Below w.heap.size w wr)) (fun _ s4 _ => 8 - lenV s4)
  case atStart => exact ⟨0, n, A, c, none, 0, l, [], rfl, rfl, by omega, by omega, HB, itso_nil _ _, (acc_start l).symm, hw⟩
  case round =>
    obtain ⟨k, m, X, cX, A4, c4, r, xs, rfl, rfl, hk8, hm5, HR, HI, HA, HW⟩ := hrel
    by_cases hk : k = 8
    · subst hk
      have HE : Hid (getsE l = 3) := by show _ = _; rw [HG.out.1, HA.out, acc_more]
      go_wp2
      go_ret2
      exact rcg_err 3 (by rw [HE.out]; rfl) (by rw [HE.out]; decide) HW.out
    have hk7 : k < 8 := by omega
    have hkb : ((k : Int) == 8) = false := by simp; omega
    obtain ⟨q, hq⟩ : ∃ q, getG r = q := ⟨_, rfl⟩
    obtain ⟨N, hN⟩ : ∃ N, gN r = N := ⟨_, rfl⟩
    obtain ⟨E, hE⟩ : ∃ E, gE r = E := ⟨_, rfl⟩
    have HV := fun w' h' => rci_v X m cX r w' h' q N E hq hN hE
    replace HV := Lib.hid HV
    by_cases h0 : E = 0
    · subst h0
      obtain ⟨g1, g2, g3, g4, g5⟩ := getG_back hE
      have hNL : gL r = N := by rw [← hN]; unfold gN; rw [if_pos hE]
      rw [hNL] at g4 g5
      have hlr := HR.out.len
      have hNm : N ≤ m := by omega
      have hnc := HR.out.nc
      have hcm := HR.out.cm
      unfold maxLen at hcm
      have hNc : N ≤ cX := by omega
      have hNmI : (N : Int) ≤ (m : Int) := by omega
      have HQO : Hid (q.Ok) := by rw [← hq]; exact g2
      have HST : Hid (gE r = 0 ∧ gL r = N ∧ getG r = q ∧ r.length = m) := ⟨hE, hNL, hq, hlr⟩
      obtain ⟨ad, hX, _⟩ := bts_byte HR.out (k := 0) (by omega)
      subst hX
      clear hq hN hE g1 g2 g3 hNL hlr hk
      go_upto_region 9 with (go_at_call 93; ((with_reducible refine (HV.out _ (HR.out.below HW.out)).mono ?_); rintro e w2 ⟨A1, k1, c1, G1, g1, d1, Q1, p1, e1, rfl, HO, hb2⟩; have HQ2 := Lib.hid (blk_alloc w2 (.cells #[.int .i64 q.k, .int .u32 q.s, .int .u64 q.ntp, .int .u32 q.tm, .int .u32 q.pk, .int .u32 q.oc, .slice A1 k1 c1, .slice G1 g1 d1, .int .u32 q.me, .slice Q1 p1 e1] 54)); have HW2 := Lib.hid (HW.out.trans (hb2.mono HW.out.size)); have HI2 := Lib.hid (HI.out.below hb2); have HX2 : Hid (SlX w2 w.heap.size ⟨q, A1, k1, c1, G1, g1, d1, Q1, p1, e1⟩) := ⟨own_base HO.out.oa HW.out.size, own_base HO.out.og HW.out.size, own_base HO.out.op HW.out.size⟩; have hbA := (Below.refl w2.heap.size w2).alloc (Nat.le_refl _) (.cells #[.int .i64 q.k, .int .u32 q.s, .int .u64 q.ntp, .int .u32 q.tm, .int .u32 q.pk, .int .u32 q.oc, .slice A1 k1 c1, .slice G1 g1 d1, .int .u32 q.me, .slice Q1 p1 e1] 54); have HW3 := Lib.hid (HW2.out.trans (hbA.mono HW2.out.size)); have HI3 := Lib.hid (HI2.out.below hbA); have HX3 := Lib.hid (slx_below HX2.out hbA)))
      by_cases hmN : m = N
      · have HGE : Hid (getsE l = 0) := by show _ = _; rw [HG.out.1, HA.out, acc_last hk7 _ HST.out.1 (by rw [HST.out.2.1, HST.out.2.2.2, hmN])]
        have HGL : Hid (itm (xs ++ [⟨q, A1, k1, c1, G1, g1, d1, Q1, p1, e1⟩]) = getsL l) := by show _ = _; rw [HG.out.2, HA.out, acc_last hk7 _ HST.out.1 (by rw [HST.out.2.1, HST.out.2.2.2, hmN]), HST.out.2.2.1]; simp [itm]
        subst hmN
        refine region_planA (calmB_sound _) (.leaf [0, 1, 4, 5, 6, 2, 3, 7, 8]) (by kernel_rfl) (by kernel_rfl) (by kernel_rfl) ?_
        have HQ4 : Hid ((w2.alloc (.cells #[.int .i64 q.k, .int .u32 q.s, .int .u64 q.ntp, .int .u32 q.tm, .int .u32 q.pk, .int .u32 q.oc, .slice A1 k1 c1, .slice G1 g1 d1, .int .u32 q.me, .slice Q1 p1 e1] 54)).drew.heap[w2.heap.size]? = some (.cells #[.int .i64 q.k, .int .u32 q.s, .int .u64 q.ntp, .int .u32 q.tm, .int .u32 q.pk, .int .u32 q.oc, .slice A1 k1 c1, .slice G1 g1 d1, .int .u32 q.me, .slice Q1 p1 e1] 54)) := HQ2.out
        have hbD := (Below.refl (w2.alloc (.cells #[.int .i64 q.k, .int .u32 q.s, .int .u64 q.ntp, .int .u32 q.tm, .int .u32 q.pk, .int .u32 q.oc, .slice A1 k1 c1, .slice G1 g1 d1, .int .u32 q.me, .slice Q1 p1 e1] 54)).heap.size (w2.alloc (.cells #[.int .i64 q.k, .int .u32 q.s, .int .u64 q.ntp, .int .u32 q.tm, .int .u32 q.pk, .int .u32 q.oc, .slice A1 k1 c1, .slice G1 g1 d1, .int .u32 q.me, .slice Q1 p1 e1] 54))).drew
        have HW4 := Lib.hid (HW3.out.trans (hbD.mono HW3.out.size))
        have HI4 := Lib.hid (HI3.out.below hbD)
        have HX4 := Lib.hid (slx_below HX3.out hbD)
        clear hbA hbD
        generalize (w2.alloc (.cells #[.int .i64 q.k, .int .u32 q.s, .int .u64 q.ntp, .int .u32 q.tm, .int .u32 q.pk, .int .u32 q.oc, .slice A1 k1 c1, .slice G1 g1 d1, .int .u32 q.me, .slice Q1 p1 e1] 54)).drew = w4 at *
        obtain ⟨x0, x1, x2, x3, x4, x5, x6, x7, x8, x9⟩ := ten_cells HQ4.out
        refine wpPlan_leaf fun P1 hP1 => ?_
        simp only [List.filterMap_cons, List.filterMap_nil, List.getElem?_toArray, List.getElem?_cons_succ, List.getElem?_cons_zero]
        change wpList _ _ _ [_, _, _, _, _, _, _, _, _] _ _
        go_wp2_with ((at_builtin; go_loud (refine wpList_app slIt rfl _ _ rfl w.heap.size A4 k c4 (rowI xs) rfl (HI4.out.own.alloc _) (some ⟨w4.heap.size, 0, none⟩) 1 1 (slV ⟨q, A1, k1, c1, G1, g1, d1, Q1, p1, e1⟩) rfl rfl (lit_sl w4 ⟨q, A1, k1, c1, G1, g1, d1, Q1, p1, e1⟩) (slV_one ⟨q, A1, k1, c1, G1, g1, d1, Q1, p1, e1⟩) (by omega) (HW4.out.alloc HW4.out.size _).size ?_; intro A5 c5 w5 ho5 hg5 hA5; have hbB := (Below.refl w4.heap.size w4).alloc (Nat.le_refl _) (.cells #[.int .i64 q.k, .int .u32 q.s, .int .u64 q.ntp, .int .u32 q.tm, .int .u32 q.pk, .int .u32 q.oc, .slice A1 k1 c1, .slice G1 g1 d1, .int .u32 q.me, .slice Q1 p1 e1] 54); have HI5 := Lib.hid ((HI4.out.below hbB).app (x := ⟨q, A1, k1, c1, G1, g1, d1, Q1, p1, e1⟩) (slx_below HX4.out hbB) HQO.out ho5 hg5); have HW5 := Lib.hid ((HW4.out.alloc HW4.out.size _).grown hg5 (HW4.out.alloc HW4.out.size _).size (own_from (HI4.out.own.alloc (.cells #[.int .i64 q.k, .int .u32 q.s, .int .u64 q.ntp, .int .u32 q.tm, .int .u32 q.pk, .int .u32 q.oc, .slice A1 k1 c1, .slice G1 g1 d1, .int .u32 q.me, .slice Q1 p1 e1] 54)))); clear ho5 hg5 hA5 hbB)))
        all_goals go_wp2
        all_goals go_ret2
        all_goals exact ⟨A5, k + 1, c5, _, by rw [HGE.out]; rfl, HGL.out, HI5, HW5.out⟩
      · have HA2 := Lib.hid (HA.out.trans (acc_step hk7 (itm xs) HST.out.1 (by rw [HST.out.2.1, HST.out.2.2.2]; omega)))
        have hcN : ¬ cX = N := by omega
        have hmN0 : ((m : Int) - (N : Int) == 0) = false := by simp; omega
        have HBN : Hid (Bts w (some (ad.add N)) (m - N) (cX - N) (r.drop N)) := by
          have hp := part_rd HR.out N (m - N) (by omega)
          have hl : (r.drop N).take (m - N) = r.drop N := List.take_of_length_le (by rw [List.length_drop, HST.out.2.2.2]; exact Nat.le_refl _)
          rw [hl] at hp
          exact ⟨by rw [List.length_drop, HST.out.2.2.2], by omega, by unfold maxLen; omega, hp⟩
        refine region_planA (calmB_sound _) (.leaf [0, 1, 4, 5, 6, 2, 3, 7, 8]) (by kernel_rfl) (by kernel_rfl) (by kernel_rfl) ?_
        have HQ4 : Hid ((w2.alloc (.cells #[.int .i64 q.k, .int .u32 q.s, .int .u64 q.ntp, .int .u32 q.tm, .int .u32 q.pk, .int .u32 q.oc, .slice A1 k1 c1, .slice G1 g1 d1, .int .u32 q.me, .slice Q1 p1 e1] 54)).drew.heap[w2.heap.size]? = some (.cells #[.int .i64 q.k, .int .u32 q.s, .int .u64 q.ntp, .int .u32 q.tm, .int .u32 q.pk, .int .u32 q.oc, .slice A1 k1 c1, .slice G1 g1 d1, .int .u32 q.me, .slice Q1 p1 e1] 54)) := HQ2.out
        have hbD := (Below.refl (w2.alloc (.cells #[.int .i64 q.k, .int .u32 q.s, .int .u64 q.ntp, .int .u32 q.tm, .int .u32 q.pk, .int .u32 q.oc, .slice A1 k1 c1, .slice G1 g1 d1, .int .u32 q.me, .slice Q1 p1 e1] 54)).heap.size (w2.alloc (.cells #[.int .i64 q.k, .int .u32 q.s, .int .u64 q.ntp, .int .u32 q.tm, .int .u32 q.pk, .int .u32 q.oc, .slice A1 k1 c1, .slice G1 g1 d1, .int .u32 q.me, .slice Q1 p1 e1] 54))).drew
        have HW4 := Lib.hid (HW3.out.trans (hbD.mono HW3.out.size))
        have HI4 := Lib.hid (HI3.out.below hbD)
        have HX4 := Lib.hid (slx_below HX3.out hbD)
        clear hbA hbD
        generalize (w2.alloc (.cells #[.int .i64 q.k, .int .u32 q.s, .int .u64 q.ntp, .int .u32 q.tm, .int .u32 q.pk, .int .u32 q.oc, .slice A1 k1 c1, .slice G1 g1 d1, .int .u32 q.me, .slice Q1 p1 e1] 54)).drew = w4 at *
        obtain ⟨x0, x1, x2, x3, x4, x5, x6, x7, x8, x9⟩ := ten_cells HQ4.out
        refine wpPlan_leaf fun P1 hP1 => ?_
        simp only [List.filterMap_cons, List.filterMap_nil, List.getElem?_toArray, List.getElem?_cons_succ, List.getElem?_cons_zero]
        change wpList _ _ _ [_, _, _, _, _, _, _, _, _] _ _
        go_wp2_with ((at_builtin; go_loud (refine wpList_app slIt rfl _ _ rfl w.heap.size A4 k c4 (rowI xs) rfl (HI4.out.own.alloc _) (some ⟨w4.heap.size, 0, none⟩) 1 1 (slV ⟨q, A1, k1, c1, G1, g1, d1, Q1, p1, e1⟩) rfl rfl (lit_sl w4 ⟨q, A1, k1, c1, G1, g1, d1, Q1, p1, e1⟩) (slV_one ⟨q, A1, k1, c1, G1, g1, d1, Q1, p1, e1⟩) (by omega) (HW4.out.alloc HW4.out.size _).size ?_; intro A5 c5 w5 ho5 hg5 hA5; have hbB := (Below.refl w4.heap.size w4).alloc (Nat.le_refl _) (.cells #[.int .i64 q.k, .int .u32 q.s, .int .u64 q.ntp, .int .u32 q.tm, .int .u32 q.pk, .int .u32 q.oc, .slice A1 k1 c1, .slice G1 g1 d1, .int .u32 q.me, .slice Q1 p1 e1] 54); have HI5 := Lib.hid ((HI4.out.below hbB).app (x := ⟨q, A1, k1, c1, G1, g1, d1, Q1, p1, e1⟩) (slx_below HX4.out hbB) HQO.out ho5 hg5); have HW5 := Lib.hid ((HW4.out.alloc HW4.out.size _).grown hg5 (HW4.out.alloc HW4.out.size _).size (own_from (HI4.out.own.alloc (.cells #[.int .i64 q.k, .int .u32 q.s, .int .u64 q.ntp, .int .u32 q.tm, .int .u32 q.pk, .int .u32 q.oc, .slice A1 k1 c1, .slice G1 g1 d1, .int .u32 q.me, .slice Q1 p1 e1] 54)))); clear ho5 hg5 hA5 hbB)))
        go_wp2
        refine ⟨⟨k + 1, m - N, some (ad.add N), cX - N, A5, c5, r.drop N, _, rfl, rfl, by omega, by omega, HBN, HI5, ?_, HW5⟩, by simp only [lenV]; omega⟩
        show _ = _; rw [HA2.out, HST.out.2.2.1, HST.out.2.1]; simp only [itm, List.map_append, List.map_cons, List.map_nil]
    · have HE : Hid (getsE l = E) := by show _ = _; rw [HG.out.1, HA.out, acc_err hk7 _ (by rw [hE]; exact h0), hE]
      have h0b : ((E : Int) != 0) = true := by simp; omega
      have HE0 := Lib.hid h0
      clear hq hN hE hk h0
      go_wp2_with (go_at_call 93; ((with_reducible refine (HV.out _ (HR.out.below HW.out)).mono ?_); rintro e w2 ⟨A1, k1, c1, G1, g1, d1, Q1, p1, e1, rfl, HO, hb2⟩; have HW2 := Lib.hid (HW.out.trans (hb2.mono HW.out.size))))
      go_ret2
      exact rcg_err E (by rw [HE.out]) (by rw [HE.out]; exact HE0.out) (HW2.out.alloc HW2.out.size _)
end Go.Proofs.Ytknlkmencdlpcaa
