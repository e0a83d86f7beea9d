/-
ReportCut: Get tells ErrShort of each beginning of a report's bytes. For every item and every number.
-/
import Derived.Test.YtnkclbaeamcplaaLaw7
import Derived.Test.YtnkclbaeamcplaaRepP
import Derived.Test.YtnkclbaeamcplaaItmFrame
import Derived.Test.YtnkclbaeamcplaaRows
namespace Go.Proofs.Ytnkclbaeamcplaa
set_option linter.unusedVariables false
set_option linter.unusedSimpArgs false
open Go Go.RowKit

set_option maxRecDepth 20000 in
set_option maxHeartbeats 2000000 in
theorem reportCut_walk (i : Itm) (A : Option Addr) (n c : Nat) (G : Option Addr) (gn gc : Nat) (Q : Option Addr) (pn pc : Nat) (N : Int) (w : World)
    (rb : Row w A n c 7 28 (rowK i.bl)) (rg : Row w G gn gc 1 4 (u32s i.go)) (rp : Row w Q pn pc 2 4 (rowP i.pr)) (ok : i.Ok) (h0 : -9223372036854775808 ≤ N ∧ N ≤ 9223372036854775807) :
    Calls Try.prog 6 #[.agg #[.int .i64 i.k, .int .u32 i.s, .int .u64 i.ntp, .int .u32 i.tm, .int .u32 i.pk, .int .u32 i.oc, .slice A n c, .slice G gn gc, .int .u32 i.me, .slice Q pn pc], .int .i64 N] w fun e w' => e = .returned (.bool true) ∧ Below w.heap.size w w' := by
  have HB := Lib.hid rb
  have HO := Lib.hid ok
  have HG : Hid (i.go.length = gn) := by have := rg.len; rw [u32s_length] at this; show _ = _; omega
  have HP : Hid (i.pr.length = pn) := by have := rp.len; rw [rowP_length] at this; show _ = _; omega
  clear rb rg rp ok
  have key : ∀ (B : Option Addr) (m c' : Nat) (w2 : World) (base : Nat), Hid (m = (outR i).length) → w2.ownsRow base 5 1 (.slice B m c') m (bys (outR i)) → mayR i = true → ∀ K : Nat, K < m →
      Calls Try.prog 20 #[.slice B K c'] w2 fun e w' => ∃ A k cA, e = .returned (.tuple #[.agg #[.int .i64 0, .int .u32 0, .int .u64 0, .int .u32 0, .int .u32 0, .int .u32 0, .slice A k cA, .slice none 0 0, .int .u32 0, .slice none 0 0], .int .i64 0, .int .i64 2]) ∧ Below w2.heap.size w2 w' := by
    intro B m c' w2 base hm ho hy K hK
    have e1 : outR i = repL i := by unfold outR; rw [if_pos hy]
    rw [e1] at hm ho
    have hm' : m = (repL i).length := hm
    have hcap := own_cap ho
    obtain ⟨c1, c2⟩ := rep_cut hy K (by omega)
    have e2 : getI ((repL i).take K) = bareI 0 := by unfold getI; rw [if_pos (by rw [c1]; decide)]
    refine (reget_any w2 B K c' ((repL i).take K) ⟨by rw [List.length_take]; omega, by omega, hcap.2, by rw [← bys_take]; exact (Rd.own ho).take K⟩).mono ?_
    rintro e w' ⟨A, k, cA, rfl, _, hb⟩
    rw [e2, c1, c2]
    exact ⟨A, k, cA, rfl, hb⟩
  have KEY := Lib.hid key
  clear key
  cases hy : mayR i
  · have hpe : (((perrR i : Nat) : Int) != 0) = true := by unfold perrR; rw [hy]; cases knownB i.k <;> rfl
    go_enter Try.func6, Try.ntmps6
    go_wp2_with (first
      | (go_at_call 14; (with_reducible refine (shown7_any _).mono ?_); rintro e w1 ⟨rfl, hb1⟩; have hb2 := ((Below.refl w.heap.size w).alloc (Nat.le_refl _) _).trans (hb1.mono (by simp)); obtain ⟨t0, t1, t2, t3, t4, t5, t6, t7, t8, t9⟩ := ten_cells (blk_below (blk_alloc _ _) hb1))
      | (go_at_call 15; (with_reducible refine (reput_any i A n c G gn gc Q pn pc _ (HB.out.below hb2) HG.out HP.out HO.out).mono ?_); rintro e w2 ⟨B, m, c', rfl, hm, ho, hb3⟩))
    go_ret
    exact ⟨rfl, hb2.trans (hb3.mono hb2.size)⟩
  · have hpe : (((perrR i : Nat) : Int) != 0) = false := by
      have hk : knownB i.k = true := by cases h : knownB i.k <;> simp_all [mayR]
      unfold perrR; rw [hy, hk]; rfl
    go_enter Try.func6, Try.ntmps6
    go_upto_region 4 with (first
      | (go_at_call 14; (with_reducible refine (shown7_any _).mono ?_); rintro e w1 ⟨rfl, hb1⟩; have hb2 := ((Below.refl w.heap.size w).alloc (Nat.le_refl _) _).trans (hb1.mono (by simp)); obtain ⟨t0, t1, t2, t3, t4, t5, t6, t7, t8, t9⟩ := ten_cells (blk_below (blk_alloc _ _) hb1))
      | (go_at_call 15; (with_reducible refine (reput_any i A n c G gn gc Q pn pc _ (HB.out.below hb2) HG.out HP.out HO.out).mono ?_); rintro e w2 ⟨B, m, c', rfl, hm, ho, hb3⟩))
    have hcap := own_cap ho
    have HM := Lib.hid hm
    have HOW := Lib.hid ho
    have hcm := hcap.2
    clear hm ho hcap
    by_cases hn : N < 0
    · go_wp2_with fail
      go_ret
      exact ⟨rfl, hb2.trans (hb3.mono hb2.size)⟩
    · by_cases hge : N < m
      · obtain ⟨K, rfl⟩ : ∃ K : Nat, N = (K : Int) := ⟨N.toNat, by omega⟩
        have hKm : K < m := by omega
        have hcap := (own_cap HOW.out).1
        have hKc : K ≤ c' := by omega
        have hKc' : (K : Int) ≤ c' := by omega
        have hge' : decide ((m : Int) ≤ (K : Int)) = false := by simp; omega
        go_wp2_with (go_at_call 20; (with_reducible refine (KEY.out B m c' w2 _ HM.out HOW.out hy K hKm).mono ?_); rintro e w4 ⟨A4, k4, c4, rfl, hb4⟩)
        go_ret
        have hb5 := hb2.trans (hb3.mono hb2.size)
        have hb6 := hb5.trans (hb4.mono hb5.size)
        exact ⟨rfl, hb6.alloc hb6.size _⟩
      · have hge' : decide ((m : Int) ≤ N) = true := by simp; omega
        go_wp2_with fail
        go_ret
        exact ⟨rfl, hb2.trans (hb3.mono hb2.size)⟩
namespace reportCut
open Go.ChangeShapes Go.WideShapes Go.ChangeAt Go.RowKit
open Go.ChangeMaps (open_string shut_string)
set_option linter.unusedVariables false

theorem own : ownKnob Try.prog.godebug = none := by kernel_rfl
theorem laidOut : laidOutB Try.prog = true := by kernel_rfl

set_option maxRecDepth 100000 in
theorem lifted (os : Os) (started : os.Started) (H : Type) (enc : TypeId × Value → H) :
    ReturnsInHanded {} Try.checked os 6 .any (Rows.reportCutSpec.pre6 enc Try.prog Try.f6 Rows.reportCutRow.domain false) (Rows.reportCutSpec.post enc Try.prog Try.f6 false true false false) := by
  refine returnsInHanded_of_change_sized (C := Try.checked) own started (by kernel_rfl) Try.func6
    (ChangeSpec.witness6 (enc := enc) (C := Try.checked) false ⟨#[], #[.agg #[.int .i64 0, .int .u32 0, .int .u64 0, .int .u32 0, .int .u32 0, .int .u32 0, .slice none 0 0, .slice none 0 0, .int .u32 0, .slice none 0 0], .int .i64 0], []⟩ 8 (by kernel_rfl) (by kernel_rfl) (by kernel_rfl) (by kernel_rfl)) ?_
  intro W base args ds gs before hval0 hW hcnd hsz0 _
  have hsz : (DataW.weightsEach Try.prog (Try.f6.params.toList ++ Rows.reportCutSpec.plain.varTypes Try.prog) (ds ++ gs)).all (· ≤ reachBytes) = true := hsz0
  have hval : ∀ (j : Nat) t v, Try.f6.params[j]? = some t → args[j]? = some v → Value.okWide Try.prog W .any base t v := hval0
  have hW' := hW
  obtain ⟨p, q, hA0, hV, rfl, hfz, hnd⟩ := hW
  have hA : DataW.TrodAll enc Try.prog W 0 (fun _ => true) true Try.f6.params.toList args.toList ds p := hA0
  rw [Try.params6] at hA hval hsz
  obtain ⟨v0, vs0, d0, ds0, p0, q0, hargs, rfl, rfl, h0, r0⟩ := trodAll_cons hA
  obtain ⟨v1, vs1, d1, ds1, p1, q1, rfl, rfl, rfl, h1, r1⟩ := trodAll_cons r0
  obtain ⟨rfl, rfl, rfl⟩ := trodAll_nil r1
  obtain rfl : args = #[v0, v1] := by cases args; simp_all
  obtain ⟨rfl, rfl⟩ := trodVars_none hV
  have k0 := h0
  have lt0 : ∀ x ∈ p0, x.block < W.heap.size := by obtain ⟨m, hm⟩ := k0; exact DataW.trod_lt m _ _ _ hm
  obtain ⟨i0, A0, n0, c0, G0, gn0, gc0, Q0, pn0, pc0, rfl, rb0, rg0, rp0, ok0⟩ := open_item (hval 0 28 v0 rfl rfl) h0
  obtain ⟨x1, rfl, rfl, rfl, w1⟩ := open_int Try.underlying3 (hval 1 3 v1 rfl rfl) h1
  clear hA0 hval0 hsz0
  refine (reportCut_walk i0 A0 n0 c0 G0 gn0 gc0 Q0 pn0 pc0 x1 W rb0 rg0 rp0 ok0 (bounds_i64 w1)).mono fun e W' ⟨he, bel⟩ => ?_
  subst he
  exact ⟨_, rfl, _, _, _, [], _, [], hW', trodAll_mk1 (shut_bool Try.underlying4 _), (trodAll_cons_mk (Below.trod laidOut (by kernel_rfl) (of_decide_eq_true (by kernel_rfl)) k0 bel lt0) (trodAll_cons_mk (shut_int Try.underlying3 w1) trodAll_mk0)), rfl, bel.frame _, fun h => by cases h⟩

/-- The statement. -/
theorem proved : Rows.ReportCutSaid :=
  OpenClaim.holds_of_wide 6 Try.f6 rfl rfl rfl rfl rfl rfl rfl ⟨rfl, rfl, rfl, rfl, rfl⟩ rfl rfl rfl rfl rfl (by kernel_rfl) Try.func6 (by kernel_rfl)
    (of_decide_eq_true (by kernel_rfl)) (by unfold Func.isWrapper; rw [if_neg (of_decide_eq_false (by kernel_rfl))]; exact ⟨rfl, rfl⟩)
    (fun os started H enc _ => lifted os started H enc)
#print axioms proved
end reportCut
end Go.Proofs.Ytnkclbaeamcplaa
