/-
ReportTurn: Get tells the item that Put was given, and its length, whatever bytes are behind it; Put of an item that Get told gives the bytes that were read. For every item and all bytes.
-/
import Derived.Test.YtnkclbaeamcplaaLaw7
import Derived.Test.YtnkclbaeamcplaaRepQ
import Derived.Test.YtnkclbaeamcplaaSameItm
import Derived.Test.YtnkclbaeamcplaaItmFrame
import Derived.Test.YtnkclbaeamcplaaRows
import Derived.Deep.CutBlock
namespace Go.Proofs.Ytnkclbaeamcplaa
set_option linter.unusedVariables false
set_option linter.unusedSimpArgs false
open Go Go.RowKit

theorem sameItm_v (i : Itm) (A : Option Addr) (n c : Nat) (G : Option Addr) (gn gc : Nat) (Q : Option Addr) (pn pc : Nat) (A' : Option Addr) (n' c' : Nat) (M : Int) (w : World) (hM : M = i.me) (hg : i.go = []) (hp : i.pr = []) (hn : n' = n)
    (ra : Row w A n c 7 28 (rowK i.bl)) (rg : Row w G gn gc 1 4 (u32s i.go)) (rq : Row w Q pn pc 2 4 (rowP i.pr)) (ra' : Row w A' n' c' 7 28 (rowK i.bl)) :
    Calls Try.prog 22 #[.agg #[.int .i64 i.k, .int .u32 i.s, .int .u64 i.ntp, .int .u32 i.tm, .int .u32 i.pk, .int .u32 i.oc, .slice A n c, .slice G gn gc, .int .u32 i.me, .slice Q pn pc], .agg #[.int .i64 i.k, .int .u32 i.s, .int .u64 i.ntp, .int .u32 i.tm, .int .u32 i.pk, .int .u32 i.oc, .slice A' n' c', .slice none 0 0, .int .u32 M, .slice none 0 0]] w fun e w' =>
      e = .returned (.bool true) ∧ Below w.heap.size w w' := by
  subst hM hn
  have h1 : gn = 0 := by have := rg.len; rw [u32s_length, hg] at this; simp at this; omega
  have h2 : pn = 0 := by have := rq.len; rw [rowP_length, hp] at this; simp at this; omega
  subst h1 h2
  exact sameItm_any i A n' c G 0 gc Q 0 pc A' c' none 0 none 0 w ra rg rq ra' (by rw [hg]; exact row_nil w 1 4) (by rw [hp]; exact row_nil w 2 4)
theorem own_row {w : World} {base : Nat} {A : Option Addr} {n c : Nat} {l : List Blk} (h : w.ownsRow base 58 7 (.slice A n c) n (rowK l)) : Row w A n c 7 28 (rowK l) := by
  have hc := own_cap h
  refine ⟨h.1, hc.1, hc.2, own_nil h, fun j u hu => ?_⟩
  have hn : 0 < n := by
    have := (List.getElem?_eq_some_iff.1 hu).1
    rw [h.1] at this; omega
  obtain ⟨g, cap, hv, _⟩ := h.form hn
  injection hv with hA
  subst hA
  exact ⟨_, rfl, h.cells (g := g) rfl j u hu⟩
theorem get_put (i : Itm) (hm : mayR i = true) (ok : i.Ok) (x : List UInt8) (X : Option Addr) (n c : Nat) (w : World) (base : Nat) (ho : w.ownsRow base 5 1 (.slice X n c) n (bys (repL i ++ x))) :
    Calls Try.prog 20 #[.slice X n c] w fun e w' => ∃ A k cA, e = .returned (.tuple #[.agg #[.int .i64 i.k, .int .u32 i.s, .int .u64 i.ntp, .int .u32 i.tm, .int .u32 i.pk, .int .u32 i.oc, .slice A k cA, .slice none 0 0, .int .u32 0, .slice none 0 0], .int .i64 ((repL i).length : Nat), .int .i64 0]) ∧
      Hid (k = i.bl.length ∧ Row w' A k cA 7 28 (rowK i.bl)) ∧ Below w.heap.size w w' := by
  have hcap := own_cap ho
  have hl : (repL i ++ x).length = n := by have := ho.1; rw [bys_length] at this; omega
  refine (reget_any w X n c (repL i ++ x) ⟨hl, hcap.1, hcap.2, Rd.own ho⟩).mono ?_
  rintro e w' ⟨A, k, cA, rfl, hown, hb⟩
  rw [getI_put hm ok x] at hown
  rw [getI_put hm ok x, (rep_right hm x).1, (rep_right hm x).2.1]
  have hr := own_row hown
  have hk : k = i.bl.length := by have := hr.len; rw [rowK_length] at this; omega
  exact ⟨A, k, cA, rfl, ⟨hk, hr⟩, hb⟩
theorem put_got (l : List UInt8) (h : rightE l = 0) (A : Option Addr) (k c : Nat) (w : World) (hr : Row w A k c 7 28 (rowK (getI l).bl)) :
    Calls Try.prog 15 #[.agg #[.int .i64 (getI l).k, .int .u32 (getI l).s, .int .u64 (getI l).ntp, .int .u32 (getI l).tm, .int .u32 (getI l).pk, .int .u32 (getI l).oc, .slice A k c, .slice none 0 0, .int .u32 0, .slice none 0 0]] w fun e w' =>
      ∃ B c', e = .returned (.tuple #[.slice B (rightN l) c', .int .i64 0]) ∧ w'.ownsRow w.heap.size 5 1 (.slice B (rightN l) c') (rightN l) (bys (l.take (rightN l))) ∧ Below w.heap.size w w' := by
  obtain ⟨h1, h2, h3, h4, h5, h6, h7, h8⟩ := getI_back h
  have hp : perrR (getI l) = 0 := by
    have hk : knownB (getI l).k = true := by cases h : knownB (getI l).k <;> simp_all [mayR]
    unfold perrR; rw [if_pos hk, if_pos h1]
  have ho : outR (getI l) = l.take (rightN l) := by unfold outR; rw [if_pos h1, h3]
  have key := reput_any (getI l) A k c none 0 0 none 0 0 w hr (by rw [h6]; rfl) (by rw [h7]; rfl) h2
  rw [h8] at key
  refine key.mono ?_
  rintro e w' ⟨B, m, c', rfl, hm, hown, hb⟩
  rw [ho] at hown
  have hm' : m = rightN l := by rw [Hid, ho, List.length_take] at hm; omega
  subst hm'
  rw [hp]
  exact ⟨B, c', rfl, hown, hb⟩
set_option maxRecDepth 20000 in
set_option maxHeartbeats 4000000 in
theorem reportTurn_walk (i : Itm) (A : Option Addr) (n c : Nat) (G : Option Addr) (gn gc : Nat) (Q : Option Addr) (pn pc : Nat) (B : Option Addr) (bn bc : Nat) (lb : List UInt8) (X : Option Addr) (xn xc : Nat) (lx : List UInt8) (w : World)
    (rb : Row w A n c 7 28 (rowK i.bl)) (rg : Row w G gn gc 1 4 (u32s i.go)) (rp : Row w Q pn pc 2 4 (rowP i.pr)) (ok : i.Ok)
    (b1 : lb.length = bn) (b2 : bn ≤ bc) (b3 : bc ≤ maxLen) (b4 : bn ≤ 140737488351232) (b5 : B = none → bn = 0 ∧ bc = 0) (b6 : Rd w B (bys lb))
    (x1 : lx.length = xn) (x2 : xn ≤ xc) (x3 : xc ≤ maxLen) (x4 : xn ≤ 140737488351232) (x5 : X = none → xn = 0 ∧ xc = 0) (x6 : Rd w X (bys lx)) :
    Calls Try.prog 5 #[.agg #[.int .i64 i.k, .int .u32 i.s, .int .u64 i.ntp, .int .u32 i.tm, .int .u32 i.pk, .int .u32 i.oc, .slice A n c, .slice G gn gc, .int .u32 i.me, .slice Q pn pc], .slice B bn bc, .slice X xn xc] w fun e w' => e = .returned (.bool true) ∧ Below w.heap.size w w' := by
  have HA := Lib.hid rb
  have HG := Lib.hid rg
  have HQ := Lib.hid rp
  have HO := Lib.hid ok
  have HGl : Hid (i.go.length = gn) := by have := rg.len; rw [u32s_length] at this; show _ = _; omega
  have HPl : Hid (i.pr.length = pn) := by have := rp.len; rw [rowP_length] at this; show _ = _; omega
  have HB := Lib.hid (And.intro b1 (And.intro b5 b6))
  have HX := Lib.hid (And.intro x1 (And.intro x2 (And.intro x3 x6)))
  clear rb rg rp ok b1 b5 b6 x1 x5 x6
  go_enter Try.func5, Try.ntmps5
  go_upto_if 25 with (first
    | (go_at_call 14; (with_reducible refine (shown7_any _).mono ?_); rintro e w1 ⟨rfl, hb1⟩; have hb2 := ((Below.refl w.heap.size w).alloc (Nat.le_refl _) _).trans (hb1.mono (by simp)); have hit := blk_below (blk_alloc _ _) hb1; obtain ⟨t0, t1, t2, t3, t4, t5, t6, t7, t8, t9⟩ := ten_cells hit)
    | (go_at_call 15; (with_reducible refine (reput_any i A n c G gn gc Q pn pc _ (HA.out.below hb2) HGl.out HPl.out HO.out).mono ?_); rintro e w2 ⟨B2, m2, c2, rfl, hm2, ho2, hb3⟩))
  have hit2 := blk_below hit hb3
  have hb4 := hb2.trans (hb3.mono hb2.size)
  clear t0 t1 t2 t3 t4 t5 t6 t7 t8 t9
  go_cut [9, 10, 11] from 24 to 48 (fun s9 s10 s11 wx => Below w.heap.size w wx)
  case first =>
    cases hy : mayR i
    · have hpe : (((perrR i : Nat) : Int) == 0) = false := by unfold perrR; rw [hy]; cases knownB i.k <;> rfl
      go_wp2_with fail
      go_meet
      exact hb4
    · have hpe : (((perrR i : Nat) : Int) == 0) = true := by
        have hk : knownB i.k = true := by cases h : knownB i.k <;> simp_all [mayR]
        unfold perrR; rw [hy, hk]; rfl
      have e1 : outR i = repL i := by unfold outR; rw [if_pos hy]
      rw [e1] at hm2 ho2
      have HM2 := Lib.hid (show m2 = (repL i).length from hm2)
      have HO2 := Lib.hid ho2
      have hm600 : m2 ≤ 1000 := by
        rw [HM2.out, (rep_front hy []).2.2.2.2.2]
        have := (rep_front hy []).2.2.2.1
        unfold sizeR; split <;> omega
      have HY : Hid ((0 : Int) = (i.me : Nat) ∧ i.go = [] ∧ i.pr = []) := ⟨by rw [(may_parts hy).2.2.2.1]; rfl, (may_parts hy).2.1, (may_parts hy).2.2.1⟩
      have HBL : Hid (i.bl.length = n) := by have := HA.out.len; rw [rowK_length] at this; show _ = _; omega
      clear hm2 ho2
      go_wp2_with (first
        | (at_builtin; refine wpList_app slU8 rfl (.const (.slice none 0 0)) _ rfl w2.heap.size none 0 0 [] rfl (World.ownsRow_nil _ _ _ _) B2 m2 c2 (bys (repL i)) rfl (by rw [bys_length, HM2.out, Nat.mul_one]) (Rd.own HO2.out) (bys_one _) (by omega) (Nat.le_refl _) ?_; intro A3 c3 w3 ho3 hg3 hA3; simp only [Nat.zero_add, List.nil_append] at ho3; have hb5 := hb4.grown hg3 hb4.size (by simp); have hit3 := (hg3.block _ (blk_in hit2) (by simp)).trans hit2)
        | (at_builtin; refine wpList_app slU8 rfl (.tmp 28) _ rfl w2.heap.size A3 m2 c3 (bys (repL i)) rfl ho3 B bn bc (bys lb) rfl (by rw [bys_length, HB.out.1, Nat.mul_one]) (HB.out.2.2.below hb5) (bys_one _) (by omega) hg3.size ?_; intro A4 c4 w4 ho4 hg4 hA4; rw [bys_append] at ho4; have hb6 := hb5.grown hg4 hb5.size (fun q hq => by have := own_from ho3 q hq; have := hb4.size; omega); have hit4 := (hg4.block _ (blk_in hit3) (fun e => by have := own_from ho3 _ e.symm; have := blk_in hit2; omega)).trans hit3)
        | (go_at_call 20; (with_reducible refine (get_put i hy HO.out lb A4 _ c4 w4 _ ho4).mono ?_); rintro e w5 ⟨A5, k5, c5, rfl, HR5, hb7⟩; rw [← HM2.out]; have HK5 : Hid (k5 = n) := (HR5.out.1.trans HBL.out); have HS5 := Lib.hid (fun o => HR5.out.2.below ((Below.refl w5.heap.size w5).alloc (Nat.le_refl _) o)); have hb8 := hb6.trans (hb7.mono hb6.size); have hb9 := fun o => hb8.alloc hb8.size o; have hs5 : w.heap.size < w5.heap.size := blk_in (blk_below hit4 hb7); have hitx := fun o => blk_below (blk_below hit4 hb7) ((Below.refl w5.heap.size w5).alloc (Nat.le_refl _) o); have n0 := fun o => (ten_cells (hitx o)).1; have n1 := fun o => (ten_cells (hitx o)).2.1; have n2 := fun o => (ten_cells (hitx o)).2.2.1; have n3 := fun o => (ten_cells (hitx o)).2.2.2.1; have n4 := fun o => (ten_cells (hitx o)).2.2.2.2.1; have n5 := fun o => (ten_cells (hitx o)).2.2.2.2.2.1; have n6 := fun o => (ten_cells (hitx o)).2.2.2.2.2.2.1; have n7 := fun o => (ten_cells (hitx o)).2.2.2.2.2.2.2.1; have n8 := fun o => (ten_cells (hitx o)).2.2.2.2.2.2.2.2.1; have n9 := fun o => (ten_cells (hitx o)).2.2.2.2.2.2.2.2.2)
        | (go_at_call 22; (with_reducible refine (sameItm_v i A n c G gn gc Q pn pc A5 k5 c5 0 _ HY.out.1 HY.out.2.1 HY.out.2.2 HK5.out (HA.out.below (hb9 _)) (HG.out.below (hb9 _)) (HQ.out.below (hb9 _)) (HS5.out _)).mono ?_); rintro e w6 ⟨rfl, hb10⟩))
      go_meet
      exact (hb9 _).trans (hb10.mono (hb9 _).size)
  case rest =>
    have hbc := hcut
    have HXc := Lib.hid (HX.out.2.2.2.below hbc)
    clear hit hit2 hb1 hb2 hb3 hb4
    by_cases he : rightE lx = 0
    · have heI : ((rightE lx : Nat) : Int) = 0 := by omega
      obtain ⟨m1, m2, m3, m4, m5, _⟩ := getI_back he
      have hxl := HX.out.1
      have g8 : decide ((8 : Int) ≤ (rightN lx : Nat)) = true := by simp; omega
      have gl : decide (((rightN lx : Nat) : Int) ≤ (xn : Int)) = true := by simp; omega
      have gl2 : decide (rightN lx ≤ xn) = true := by simp; omega
      have gl3 : rightN lx ≤ xn := by omega
      have gc : rightN lx ≤ xc := by omega
      have gc' : ((rightN lx : Nat) : Int) ≤ xc := by omega
      have HPG := Lib.hid (put_got lx he)
      have HE := Lib.hid he
      have HX5 := Lib.hid (show (lx.take (rightN lx)).length = rightN lx by rw [List.length_take]; omega)
      clear m1 m2 m3 hxl he
      generalize hN : rightN lx = N at *
      go_wp2_with (first
        | (go_at_call 20; (with_reducible refine (reget_any wc X xn xc lx ⟨HX.out.1, HX.out.2.1, HX.out.2.2.1, HXc.out⟩).mono ?_); rintro e w5 ⟨A5, k5, c5, rfl, ho5, hb5⟩; rw [hN, heI]; have hb6 := hbc.trans (hb5.mono hbc.size); have HS5 := Lib.hid (fun o => (own_row ho5).below ((Below.refl w5.heap.size w5).alloc (Nat.le_refl _) o)))
        | (go_at_call 15; (with_reducible refine (HPG.out A5 k5 c5 _ (HS5.out _)).mono ?_); rintro e w6 ⟨B6, c6, rfl, ho6, hb7⟩; have hb8 := hb6.alloc hb6.size (.cells #[.int .i64 (getI lx).k, .int .u32 (getI lx).s, .int .u64 (getI lx).ntp, .int .u32 (getI lx).tm, .int .u32 (getI lx).pk, .int .u32 (getI lx).oc, .slice A5 k5 c5, .slice none 0 0, .int .u32 0, .slice none 0 0] 28); have hb9 := hb8.trans (hb7.mono hb8.size)))
      have v1 : ∀ j, (convert 30 9 (.slice B6 N c6)).run Try.prog (w6.drewN j) = .ok (.string ⟨(lx.take N).toArray⟩) (w6.drewN j) := fun j => cv_rd HX5.out ((Rd.own ho6).drewN j)
      have v2 : ∀ j, (convert 30 9 (.slice X N xc)).run Try.prog (w6.drewN j) = .ok (.string ⟨(lx.take N).toArray⟩) (w6.drewN j) := fun j => cv_rd HX5.out (by rw [← bys_take]; exact (((HX.out.2.2.2.below hb9)).take N).drewN j)
      go_quiet (fail)
      go_wp2
      go_ret
      exact ⟨rfl, below_drewN hb9 _⟩
    · have heI : (((rightE lx : Nat) : Int) != 0) = true := by simp; omega
      have hN : rightN lx = 0 := by unfold rightN; rw [if_neg he]
      have HE := Lib.hid he
      clear he
      go_wp2_with (go_at_call 20; (with_reducible refine (reget_any wc X xn xc lx ⟨HX.out.1, HX.out.2.1, HX.out.2.2.1, HXc.out⟩).mono ?_); rintro e w5 ⟨A5, k5, c5, rfl, ho5, hb5⟩; rw [hN]; have hb6 := hbc.trans (hb5.mono hbc.size))
      go_ret
      exact ⟨rfl, hb6.alloc hb6.size _⟩
namespace reportTurn
open Go.ChangeShapes Go.WideShapes Go.ChangeAt Go.RowKit
open Go.ChangeMaps (open_string shut_string)
set_option linter.unusedVariables false

theorem own : ownKnob Try.prog.godebug = none := by kernel_rfl
theorem laidOut : laidOutB Try.prog = true := by kernel_rfl

set_option maxRecDepth 100000 in
theorem lifted (os : Os) (started : os.Started) (H : Type) (enc : TypeId × Value → H) :
    ReturnsInHanded {} Try.checked os 5 .any (Rows.reportTurnSpec.pre6 enc Try.prog Try.f5 Rows.reportTurnRow.domain false) (Rows.reportTurnSpec.post enc Try.prog Try.f5 false true false false) := by
  refine returnsInHanded_of_change_sized (C := Try.checked) own started (by kernel_rfl) Try.func5
    (ChangeSpec.witness6 (enc := enc) (C := Try.checked) false ⟨#[], #[.agg #[.int .i64 0, .int .u32 0, .int .u64 0, .int .u32 0, .int .u32 0, .int .u32 0, .slice none 0 0, .slice none 0 0, .int .u32 0, .slice none 0 0], .slice none 0 0, .slice none 0 0], []⟩ 8 (by kernel_rfl) (by kernel_rfl) (by kernel_rfl) (by kernel_rfl)) ?_
  intro W base args ds gs before hval0 hW hcnd hsz0 _
  have hsz : (DataW.weightsEach Try.prog (Try.f5.params.toList ++ Rows.reportTurnSpec.plain.varTypes Try.prog) (ds ++ gs)).all (· ≤ reachBytes) = true := hsz0
  have hval : ∀ (j : Nat) t v, Try.f5.params[j]? = some t → args[j]? = some v → Value.okWide Try.prog W .any base t v := hval0
  have hW' := hW
  obtain ⟨p, q, hA0, hV, rfl, hfz, hnd⟩ := hW
  have hA : DataW.TrodAll enc Try.prog W 0 (fun _ => true) true Try.f5.params.toList args.toList ds p := hA0
  rw [Try.params5] at hA hval hsz
  obtain ⟨v0, vs0, d0, ds0, p0, q0, hargs, rfl, rfl, h0, r0⟩ := trodAll_cons hA
  obtain ⟨v1, vs1, d1, ds1, p1, q1, rfl, rfl, rfl, h1, r1⟩ := trodAll_cons r0
  obtain ⟨v2, vs2, d2, ds2, p2, q2, rfl, rfl, rfl, h2, r2⟩ := trodAll_cons r1
  obtain ⟨rfl, rfl, rfl⟩ := trodAll_nil r2
  obtain rfl : args = #[v0, v1, v2] := by cases args; simp_all
  obtain ⟨rfl, rfl⟩ := trodVars_none hV
  have k0 := h0
  have lt0 : ∀ x ∈ p0, x.block < W.heap.size := by obtain ⟨m, hm⟩ := k0; exact DataW.trod_lt m _ _ _ hm
  obtain ⟨i0, A0, n0, c0, G0, gn0, gc0, Q0, pn0, pc0, rfl, rb0, rg0, rp0, ok0⟩ := open_item (hval 0 28 v0 rfl rfl) h0
  obtain ⟨a1, len1, cap1, rfl⟩ := okWide_slice Try.underlying30 (hval 1 30 v1 rfl rfl)
  have k1 := h1
  have lt1 : ∀ x ∈ p1, x.block < W.heap.size := by obtain ⟨m, hm⟩ := k1; exact DataW.trod_lt m _ _ _ hm
  obtain ⟨l1, n1, nc1, cm1, nl1, rd1, hl1⟩ : ∃ l : List UInt8, l.length = len1 ∧ len1 ≤ cap1 ∧ cap1 ≤ maxLen ∧ (a1 = none → len1 = 0 ∧ cap1 = 0) ∧ Rd W a1 (bys l) ∧ (len1 = 0 ∨ ∃ es sp, d1 = .slice es sp ∧ es.length = len1) := by
    obtain ⟨fuel, hf⟩ := h1
    exact open_byte_slice Try.underlying30 Try.underlying5 (by kernel_rfl) hf
  have hb1 : len1 * 1 ≤ 140737488351232 := reach_slice hsz (j := 1) rfl rfl Try.underlying30 (by kernel_rfl) hl1
  rw [Nat.mul_one] at hb1
  obtain ⟨a2, len2, cap2, rfl⟩ := okWide_slice Try.underlying30 (hval 2 30 v2 rfl rfl)
  have k2 := h2
  have lt2 : ∀ x ∈ p2, x.block < W.heap.size := by obtain ⟨m, hm⟩ := k2; exact DataW.trod_lt m _ _ _ hm
  obtain ⟨l2, n2, nc2, cm2, nl2, rd2, hl2⟩ : ∃ l : List UInt8, l.length = len2 ∧ len2 ≤ cap2 ∧ cap2 ≤ maxLen ∧ (a2 = none → len2 = 0 ∧ cap2 = 0) ∧ Rd W a2 (bys l) ∧ (len2 = 0 ∨ ∃ es sp, d2 = .slice es sp ∧ es.length = len2) := by
    obtain ⟨fuel, hf⟩ := h2
    exact open_byte_slice Try.underlying30 Try.underlying5 (by kernel_rfl) hf
  have hb2 : len2 * 1 ≤ 140737488351232 := reach_slice hsz (j := 2) rfl rfl Try.underlying30 (by kernel_rfl) hl2
  rw [Nat.mul_one] at hb2
  clear hA0 hval0 hsz0
  refine (reportTurn_walk i0 A0 n0 c0 G0 gn0 gc0 Q0 pn0 pc0 a1 len1 cap1 l1 a2 len2 cap2 l2 W rb0 rg0 rp0 ok0 n1 nc1 cm1 hb1 nl1 rd1 n2 nc2 cm2 hb2 nl2 rd2).mono fun e W' ⟨he, bel⟩ => ?_
  subst he
  exact ⟨_, rfl, _, _, _, [], _, [], hW', trodAll_mk1 (shut_bool Try.underlying4 _), (trodAll_cons_mk (Below.trod laidOut (by kernel_rfl) (of_decide_eq_true (by kernel_rfl)) k0 bel lt0) (trodAll_cons_mk (Below.trod laidOut (by kernel_rfl) (of_decide_eq_true (by kernel_rfl)) k1 bel lt1) (trodAll_cons_mk (Below.trod laidOut (by kernel_rfl) (of_decide_eq_true (by kernel_rfl)) k2 bel lt2) trodAll_mk0))), rfl, bel.frame _, fun h => by cases h⟩

/-- The statement. -/
theorem proved : Rows.ReportTurnSaid :=
  OpenClaim.holds_of_wide 5 Try.f5 rfl rfl rfl rfl rfl rfl rfl ⟨rfl, rfl, rfl, rfl, rfl⟩ rfl rfl rfl rfl rfl (by kernel_rfl) Try.func5 (by kernel_rfl)
    (of_decide_eq_true (by kernel_rfl)) (by unfold Func.isWrapper; rw [if_neg (of_decide_eq_false (by kernel_rfl))]; exact ⟨rfl, rfl⟩)
    (fun os started H enc _ => lifted os started H enc)
#print axioms proved
end reportTurn
end Go.Proofs.Ytnkclbaeamcplaa
