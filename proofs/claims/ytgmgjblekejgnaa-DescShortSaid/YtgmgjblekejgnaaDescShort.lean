/-
DescShort: Get returns ErrShort for fewer than four bytes of an encoding. For every descriptor and every number.
-/
import Derived.Test.YtgmgjblekejgnaaLaw4
import Derived.Test.YtgmgjblekejgnaaReg
import Derived.Test.YtgmgjblekejgnaaDescFrame
import Derived.Test.YtgmgjblekejgnaaRows
namespace Go.Proofs.Ytgmgjblekejgnaa
set_option linter.unusedVariables false
set_option linter.unusedSimpArgs false
open Go.RowKit

theorem size_alloc3 (w : World) (o : Obj) : (w.alloc o).heap.size = w.heap.size + 1 := by simp
theorem dget_short_agg (A : Option Addr) (n c : Nat) (w : World) (h : n < 4) :
    Calls Try.prog 21 #[.slice A n c] w fun e w' => e = .returned (.tuple #[.agg #[.int .i64 0, .bool false, .bool false, .int .u16 0], .int .i64 2]) ∧ Below w.heap.size w w' :=
  dget_short A n c w h
set_option maxHeartbeats 1000000 in
theorem descShort_no (L : Int) (k s : Bool) (f : Int) (q : Int) (w : World) (h : mayD L = false) :
    Calls Try.prog 11 #[.agg #[.int .i64 L, .bool k, .bool s, .int .u16 f], .int .i64 q] w fun e w' => e = .returned (.bool true) ∧ Below w.heap.size w w' := by
  have H := Lib.hid h
  clear h
  go_enter Try.func11, Try.ntmps11
  go_wp2_with (first
    | (go_at_call 20; (with_reducible refine (shown4_any _).mono ?_); rintro e w1 ⟨rfl, hb1⟩; have d1 := (hb1.block w.heap.size (by simp)).trans (heap_alloc_new w _); obtain ⟨a0, a1, a2, a3⟩ := row4_cells d1; have hbw := ((Below.refl w.heap.size w).alloc (Nat.le_refl _) _).trans (hb1.mono (by simp)); have s1 := hb1.size; rw [size_alloc3] at s1)
    | (go_at_call 25; (with_reducible refine (dput_no L k s f _ H.out).mono ?_); rintro e w2 ⟨rfl, hb2⟩; have hbw := hbw.trans (hb2.mono (by omega))))
  go_ret
  exact ⟨rfl, hbw⟩
set_option maxHeartbeats 1000000 in
theorem descShort_yes (L : Nat) (k s : Bool) (f : Nat) (q : Int) (w : World) (hL : L ≤ 2) (hf : f ≤ 65535) (hq : q < 0 ∨ (0 ≤ q ∧ 3 < q) ∨ (0 ≤ q ∧ q ≤ 3)) :
    Calls Try.prog 11 #[.agg #[.int .i64 L, .bool k, .bool s, .int .u16 f], .int .i64 q] w fun e w' => e = .returned (.bool true) ∧ Below w.heap.size w w' := by
  rcases hq with hq | ⟨hq, hq2⟩ | ⟨hq, hq2⟩
  · go_enter Try.func11, Try.ntmps11
    go_wp2_with (first
      | (go_at_call 20; (with_reducible refine (shown4_any _).mono ?_); rintro e w1 ⟨rfl, hb1⟩; have d1 := (hb1.block w.heap.size (by simp)).trans (heap_alloc_new w _); obtain ⟨a0, a1, a2, a3⟩ := row4_cells d1; have hbw := ((Below.refl w.heap.size w).alloc (Nat.le_refl _) _).trans (hb1.mono (by simp)); have s1 := hb1.size; rw [size_alloc3] at s1)
      | (go_at_call 25; (with_reducible refine (dput_yes L k s f _ hL hf).mono ?_); rintro e w2 ⟨A2, c2, rfl, ho2, hb2⟩; have hbw := hbw.trans (hb2.mono (by omega))))
    go_ret
    exact ⟨rfl, hbw⟩
  · go_enter Try.func11, Try.ntmps11
    go_wp2_with (first
      | (go_at_call 20; (with_reducible refine (shown4_any _).mono ?_); rintro e w1 ⟨rfl, hb1⟩; have d1 := (hb1.block w.heap.size (by simp)).trans (heap_alloc_new w _); obtain ⟨a0, a1, a2, a3⟩ := row4_cells d1; have hbw := ((Below.refl w.heap.size w).alloc (Nat.le_refl _) _).trans (hb1.mono (by simp)); have s1 := hb1.size; rw [size_alloc3] at s1)
      | (go_at_call 25; (with_reducible refine (dput_yes L k s f _ hL hf).mono ?_); rintro e w2 ⟨A2, c2, rfl, ho2, hb2⟩; have hbw := hbw.trans (hb2.mono (by omega))))
    go_ret
    exact ⟨rfl, hbw⟩
  · obtain ⟨q, rfl⟩ := Int.eq_ofNat_of_zero_le hq
    have hq3 : q < 4 := by omega
    go_enter Try.func11, Try.ntmps11
    go_wp2_with (first
      | (go_at_call 20; (with_reducible refine (shown4_any _).mono ?_); rintro e w1 ⟨rfl, hb1⟩; have d1 := (hb1.block w.heap.size (by simp)).trans (heap_alloc_new w _); obtain ⟨a0, a1, a2, a3⟩ := row4_cells d1; have hbw := ((Below.refl w.heap.size w).alloc (Nat.le_refl _) _).trans (hb1.mono (by simp)); have s1 := hb1.size; rw [size_alloc3] at s1)
      | (go_at_call 25; (with_reducible refine (dput_yes L k s f _ hL hf).mono ?_); rintro e w2 ⟨A2, c2, rfl, ho2, hb2⟩; have hqc : q ≤ c2 := Nat.le_trans (Nat.le_of_lt hq3) (own_cap ho2).1; have s2 := hb2.size; have hbw := hbw.trans (hb2.mono (by omega)))
      | (go_at_call 21; (with_reducible refine (dget_short_agg A2 q c2 _ hq3).mono ?_); rintro e w3 ⟨rfl, hb3⟩; have s3 := hb3.size; have hbw := hbw.trans (hb3.mono (by omega))))
    go_ret
    exact ⟨rfl, hbw.alloc hbw.size _⟩
theorem descShort_walk (L : Int) (k s : Bool) (f : Int) (q : Int) (w : World)
    (h0a : (-9223372036854775808 ≤ L ∧ L ≤ 9223372036854775807) ∧ (0 ≤ f ∧ f ≤ 65535)) (h1a : -9223372036854775808 ≤ q ∧ q ≤ 9223372036854775807) :
    Calls Try.prog 11 #[.agg #[.int .i64 L, .bool k, .bool s, .int .u16 f], .int .i64 q] w fun e w' => e = .returned (.bool true) ∧ Below w.heap.size w w' := by
  obtain ⟨_, hf0, hf1⟩ := h0a
  cases h : mayD L
  · exact descShort_no L k s f q w h
  · simp [mayD] at h
    obtain ⟨L, rfl⟩ := Int.eq_ofNat_of_zero_le h.1
    obtain ⟨f, rfl⟩ := Int.eq_ofNat_of_zero_le hf0
    exact descShort_yes L k s f q w (by omega) (by omega) (by omega)
namespace descShort
open Go.ChangeShapes Go.WideShapes Go.ChangeAt Go.RowKit
open Go.ChangeMaps (open_string shut_string)
set_option linter.unusedVariables false

theorem own : ownKnob Try.prog.godebug = none := by kernel_rfl
theorem laidOut : laidOutB Try.prog = true := by kernel_rfl

set_option maxRecDepth 100000 in
theorem lifted (os : Os) (started : os.Started) (H : Type) (enc : TypeId × Value → H) :
    ReturnsInHanded {} Try.checked os 11 .any (Rows.descShortSpec.pre6 enc Try.prog Try.f11 Rows.descShortRow.domain false) (Rows.descShortSpec.post enc Try.prog Try.f11 false true false false) := by
  refine returnsInHanded_of_change_sized (C := Try.checked) own started (by kernel_rfl) Try.func11
    (ChangeSpec.witness6 (enc := enc) (C := Try.checked) false ⟨#[], #[.agg #[.int .i64 0, .bool false, .bool false, .int .u16 0], .int .i64 0], []⟩ 8 (by kernel_rfl) (by kernel_rfl) (by kernel_rfl) (by kernel_rfl)) ?_
  intro W base args ds gs before hval0 hW hcnd hsz0 _
  have hsz : (DataW.weightsEach Try.prog (Try.f11.params.toList ++ Rows.descShortSpec.plain.varTypes Try.prog) (ds ++ gs)).all (· ≤ reachBytes) = true := hsz0
  have hval : ∀ (j : Nat) t v, Try.f11.params[j]? = some t → args[j]? = some v → Value.okWide Try.prog W .any base t v := hval0
  have hW' := hW
  obtain ⟨p, q, hA0, hV, rfl, hfz, hnd⟩ := hW
  have hA : DataW.TrodAll enc Try.prog W 0 (fun _ => true) true Try.f11.params.toList args.toList ds p := hA0
  rw [Try.params11] at hA hval hsz
  obtain ⟨v0, vs0, d0, ds0, p0, q0, hargs, rfl, rfl, h0, r0⟩ := trodAll_cons hA
  obtain ⟨v1, vs1, d1, ds1, p1, q1, rfl, rfl, rfl, h1, r1⟩ := trodAll_cons r0
  obtain ⟨rfl, rfl, rfl⟩ := trodAll_nil r1
  obtain rfl : args = #[v0, v1] := by cases args; simp_all
  obtain ⟨rfl, rfl⟩ := trodVars_none hV
  obtain ⟨L0, k0, s0, f0, rfl, rfl, rfl, wL0, wf0⟩ := open_desc (hval 0 40 v0 rfl rfl) h0
  obtain ⟨x1, rfl, rfl, rfl, w1⟩ := open_int Try.underlying3 (hval 1 3 v1 rfl rfl) h1
  clear hA0 hval0 hsz0
  refine (descShort_walk L0 k0 s0 f0 x1 W ⟨bounds_i64 wL0, bounds_u16 wf0⟩ (bounds_i64 w1)).mono fun e W' ⟨he, bel⟩ => ?_
  subst he
  exact ⟨_, rfl, _, _, _, [], _, [], hW', trodAll_mk1 (shut_bool Try.underlying4 _), (trodAll_cons_mk (shut_desc wL0 wf0) (trodAll_cons_mk (shut_int Try.underlying3 w1) trodAll_mk0)), rfl, bel.frame _, fun h => by cases h⟩

/-- The statement. -/
theorem proved : Rows.DescShortSaid :=
  OpenClaim.holds_of_wide 11 Try.f11 rfl rfl rfl rfl rfl rfl rfl ⟨rfl, rfl, rfl, rfl, rfl⟩ rfl rfl rfl rfl rfl (by kernel_rfl) Try.func11 (by kernel_rfl)
    (of_decide_eq_true (by kernel_rfl)) (by unfold Func.isWrapper; rw [if_neg (of_decide_eq_false (by kernel_rfl))]; exact ⟨rfl, rfl⟩)
    (fun os started H enc _ => lifted os started H enc)
#print axioms proved
end descShort
end Go.Proofs.Ytgmgjblekejgnaa
