/-
DescBack: four bytes that Get accepts are those that Put returns for its result; others are ErrForm, for one of the stated reasons. For every four bytes.
-/
import Derived.Test.YtgmgjblekejgnaaLaw4
import Derived.Test.YtgmgjblekejgnaaReg
import Derived.Test.YtgmgjblekejgnaaDescFrame
import Derived.Test.YtgmgjblekejgnaaRows
namespace Go.Proofs.Ytgmgjblekejgnaa
set_option linter.unusedVariables false
set_option linter.unusedSimpArgs false
open Go.RowKit

theorem size_alloc4 (w : World) (o : Obj) : (w.alloc o).heap.size = w.heap.size + 1 := by simp
theorem dback_get (W : World) (g : Nat) (hg : W.heap.size = g) (a b c d : UInt8) :
    Calls Try.prog 21 #[.slice (some ⟨g, 0, none⟩) 4 4] (W.alloc (.cells #[.int .u8 a.toNat, .int .u8 b.toNat, .int .u8 c.toNat, .int .u8 d.toNat] 5)) fun e w' =>
      e = .returned (.tuple #[.agg #[.int .i64 (dL [a, b, c, d]), .bool (dK [a, b, c, d]), .bool (dS [a, b, c, d]), .int .u16 (dF [a, b, c, d])], .int .i64 (dE [a, b, c, d])]) ∧
      w'.ownsRow g 5 1 (.slice (some ⟨g, 0, none⟩) 4 4) 4 (bys [a, b, c, d]) ∧ Below g W w' := by
  have ho := lit_own W [a, b, c, d] _ rfl 4 rfl (by unfold maxLen; omega) g g hg (Nat.le_refl _)
  refine (dget_any _ 4 4 [a, b, c, d] _ rfl (by omega) (by unfold maxLen; omega) (Rd.own ho)).mono ?_
  rintro e w' ⟨rfl, hb⟩
  have hk := ho.kept (own_below hb) (own_none _)
  have hsz : ∀ A : Array Value, (W.alloc (.cells A 5)).heap.size = g + 1 := fun A => by simp [hg]
  rw [hsz] at hb
  exact ⟨rfl, hk, ((Below.refl g W).alloc (by omega) _).trans (hb.mono (by omega))⟩
theorem back_ok (a b c d : UInt8) (h : dOk [a, b, c, d] = true) : dE [a, b, c, d] = 0 ∧ dP (dL [a, b, c, d]) (dK [a, b, c, d]) (dS [a, b, c, d]) (dF [a, b, c, d]) = [a, b, c, d] ∧ dF [a, b, c, d] ≤ 65535 := by
  have hi := dOk_is [a, b, c, d] (by simp)
  rw [h] at hi
  have hi := eq_of_beq hi
  have g1 := UInt8.toNat_lt c
  have g2 := UInt8.toNat_lt d
  have eF : dF [a, b, c, d] = 256 * c.toNat + d.toNat := by
    unfold dF
    rw [h, if_pos rfl, getN_22 _ (by simp)]
    rfl
  refine ⟨eq_of_beq h, ?_, by omega⟩
  rw [eF]
  simpa [dL, dK, dS, h] using hi
theorem back_no (a b c d : UInt8) (h : dOk [a, b, c, d] = false) : dE [a, b, c, d] = 1 ∧ dL [a, b, c, d] = 0 ∧ dK [a, b, c, d] = false ∧ dS [a, b, c, d] = false ∧ dF [a, b, c, d] = 0 ∧ (a.toNat / 4 % 16 ≠ 0 ∨ a.toNat % 4 = 3 ∨ b.toNat ≠ 90) := by
  have hc : dE [a, b, c, d] = 1 ∧ (a.toNat / 4 % 16 ≠ 0 ∨ a.toNat % 4 = 3 ∨ b.toNat ≠ 90) := by
    by_cases hc : (([a, b, c, d] : List UInt8)[0]?.getD 0).toNat / 4 % 16 ≠ 0 ∨ (([a, b, c, d] : List UInt8)[0]?.getD 0).toNat % 4 = 3 ∨ (([a, b, c, d] : List UInt8)[1]?.getD 0).toNat ≠ 90
    · exact ⟨by unfold dE; rw [if_neg (by simp), if_pos hc], hc⟩
    · have : dE [a, b, c, d] = 0 := by unfold dE; rw [if_neg (by simp), if_neg hc]
      rw [dOk, this] at h
      cases h
  exact ⟨hc.1, by simp [dL, h], by simp [dK, h], by simp [dS, h], by simp [dF, h], hc.2⟩
set_option maxHeartbeats 1000000 in
theorem descBack_ok (a b c d : UInt8) (w : World) (h : dOk [a, b, c, d] = true) :
    Calls Try.prog 10 #[.int .u8 a.toNat, .int .u8 b.toNat, .int .u8 c.toNat, .int .u8 d.toNat] w fun e w' => e = .returned (.bool true) ∧ Below w.heap.size w w' := by
  obtain ⟨h1, h2, h3⟩ := back_ok a b c d h
  have H1 := Lib.hid h1
  have H2 := Lib.hid h2
  clear h h1 h2
  go_enter Try.func10, Try.ntmps10
  go_wp2_with (first
    | (go_at_call 20; (with_reducible refine (shown4_any _).mono ?_); rintro e w1 ⟨rfl, hb1⟩; have s1 := hb1.size)
    | (go_at_call 21; (with_reducible refine (dback_get w1 _ rfl a b c d).mono ?_); rintro e w2 ⟨rfl, ho2, hb2⟩; rw [H1.out]; have s2 := hb2.size; have hbw := hb1.trans (hb2.mono s1)))
  have d2 : (w2.alloc (.cells #[.int .i64 (dL [a, b, c, d]), .bool (dK [a, b, c, d]), .bool (dS [a, b, c, d]), .int .u16 (dF [a, b, c, d])] 40)).drew.heap[w2.heap.size]? = some (.cells #[.int .i64 (dL [a, b, c, d]), .bool (dK [a, b, c, d]), .bool (dS [a, b, c, d]), .int .u16 (dF [a, b, c, d])] 40) := heap_alloc_new w2 (.cells #[.int .i64 (dL [a, b, c, d]), .bool (dK [a, b, c, d]), .bool (dS [a, b, c, d]), .int .u16 (dF [a, b, c, d])] 40)
  have hl3 : (w2.alloc (.cells #[.int .i64 (dL [a, b, c, d]), .bool (dK [a, b, c, d]), .bool (dS [a, b, c, d]), .int .u16 (dF [a, b, c, d])] 40)).drew.ownsRow w1.heap.size 5 1 (.slice (some ⟨w1.heap.size, 0, none⟩) 4 4) 4 (bys [a, b, c, d]) := ho2.alloc (.cells #[.int .i64 (dL [a, b, c, d]), .bool (dK [a, b, c, d]), .bool (dS [a, b, c, d]), .int .u16 (dF [a, b, c, d])] 40)
  have hbw3 : Below w.heap.size w (w2.alloc (.cells #[.int .i64 (dL [a, b, c, d]), .bool (dK [a, b, c, d]), .bool (dS [a, b, c, d]), .int .u16 (dF [a, b, c, d])] 40)).drew := (hbw.alloc hbw.size (.cells #[.int .i64 (dL [a, b, c, d]), .bool (dK [a, b, c, d]), .bool (dS [a, b, c, d]), .int .u16 (dF [a, b, c, d])] 40)).drew
  refine region_plan (calmB_sound _) (.fork [0, 3] (.leaf [4, 1, 2, 5, 6]) (.leaf [1, 2, 4, 5, 6])) (by kernel_rfl) (by kernel_rfl) (by kernel_rfl) ?_
  generalize (w2.alloc (.cells #[.int .i64 (dL [a, b, c, d]), .bool (dK [a, b, c, d]), .bool (dS [a, b, c, d]), .int .u16 (dF [a, b, c, d])] 40)).drew = w4 at *
  obtain ⟨a0, a1, a2, a3⟩ := row4_cells d2
  have hcv := conv_own hl3
  refine wpPlan_fork fun K hK => ?_
  simp only [List.filterMap_cons, List.filterMap_nil, List.getElem?_toArray, List.getElem?_cons_succ, List.getElem?_cons_zero]
  go_wp2
  refine hK _ _ ?_ ?_
  all_goals
    refine wpPlan_leaf fun K3 hK3 => ?_
    simp only [List.filterMap_cons, List.filterMap_nil, List.getElem?_toArray, List.getElem?_cons_succ, List.getElem?_cons_zero]
    go_wp2_with (go_at_call 25; (with_reducible refine (dput_any _ _ _ _ _ _ rfl h3).mono ?_); rintro e w7 ⟨A7, m7, c7, rfl, HM7, ho7, hb⟩; rw [H2.out] at ho7; have hcv7 := conv_own ho7; have hcv8 := conv_own (hl3.kept (own_below hb) (own_none _)))
    go_ret
    exact ⟨rfl, hbw3.trans (hb.mono hbw3.size)⟩
theorem dback_get' (W : World) (g : Nat) (hg : W.heap.size = g) (a b c d : UInt8) (X : Int) (hX : X = (b.toNat : Int)) :
    Calls Try.prog 21 #[.slice (some ⟨g, 0, none⟩) 4 4] (W.alloc (.cells #[.int .u8 a.toNat, .int .u8 X, .int .u8 c.toNat, .int .u8 d.toNat] 5)) fun e w' =>
      e = .returned (.tuple #[.agg #[.int .i64 (dL [a, b, c, d]), .bool (dK [a, b, c, d]), .bool (dS [a, b, c, d]), .int .u16 (dF [a, b, c, d])], .int .i64 (dE [a, b, c, d])]) ∧
      w'.ownsRow g 5 1 (.slice (some ⟨g, 0, none⟩) 4 4) 4 (bys [a, b, c, d]) ∧ Below g W w' := by
  subst hX
  exact dback_get W g hg a b c d
set_option maxHeartbeats 1000000 in
theorem descBack_no (a b c d : UInt8) (w : World) (h : dOk [a, b, c, d] = false) :
    Calls Try.prog 10 #[.int .u8 a.toNat, .int .u8 b.toNat, .int .u8 c.toNat, .int .u8 d.toNat] w fun e w' => e = .returned (.bool true) ∧ Below w.heap.size w w' := by
  obtain ⟨h1, h2, h3, h4, h5, h6⟩ := back_no a b c d h
  obtain ⟨b1, b2, _, _⟩ := byte_bits a.toNat (UInt8.toNat_lt _)
  obtain ⟨X, hX⟩ : ∃ X : Int, X = (b.toNat : Int) := ⟨_, rfl⟩
  have h7 : ¬ X = 90 ∨ (X = 90 ∧ ¬ bits .and .u8 (a.toNat : Int) 60 = 0) ∨ (X = 90 ∧ bits .and .u8 (a.toNat : Int) 60 = 0 ∧ bits .and .u8 (a.toNat : Int) 3 = 3) := by
    rw [b1, b2]; omega
  rw [← hX]
  have H0 := Lib.hid hX
  have H1 := Lib.hid h1
  have H2 := Lib.hid h2
  have H3 := Lib.hid h3
  have H4 := Lib.hid h4
  have H5 := Lib.hid h5
  clear h h1 h2 h3 h4 h5 h6 b1 b2 hX
  rcases h7 with e1 | ⟨rfl, e2⟩ | ⟨rfl, e2, e3⟩
  all_goals
    go_enter Try.func10, Try.ntmps10
    go_wp2_with (first
      | (go_at_call 20; (with_reducible refine (shown4_any _).mono ?_); rintro e w1 ⟨rfl, hb1⟩; have s1 := hb1.size)
      | (go_at_call 21; (with_reducible refine (dback_get' w1 _ rfl a b c d _ H0.out).mono ?_); rintro e w2 ⟨rfl, ho2, hb2⟩; rw [H1.out, H2.out, H3.out, H4.out, H5.out]; have s2 := hb2.size; have hbw := hb1.trans (hb2.mono s1)))
    go_ret
    exact ⟨rfl, hbw.alloc hbw.size _⟩
theorem byte_of (x : Int) (h : 0 ≤ x ∧ x ≤ 255) : ∃ b : UInt8, x = (b.toNat : Int) := by
  obtain ⟨k, rfl⟩ := Int.eq_ofNat_of_zero_le h.1
  exact ⟨UInt8.ofNat k, by rw [UInt8.toNat_ofNat']; omega⟩
theorem descBack_walk (x0 x1 x2 x3 : Int) (w : World) (h0 : 0 ≤ x0 ∧ x0 ≤ 255) (h1 : 0 ≤ x1 ∧ x1 ≤ 255) (h2 : 0 ≤ x2 ∧ x2 ≤ 255) (h3 : 0 ≤ x3 ∧ x3 ≤ 255) :
    Calls Try.prog 10 #[.int .u8 x0, .int .u8 x1, .int .u8 x2, .int .u8 x3] w fun e w' => e = .returned (.bool true) ∧ Below w.heap.size w w' := by
  obtain ⟨a, rfl⟩ := byte_of x0 h0
  obtain ⟨b, rfl⟩ := byte_of x1 h1
  obtain ⟨c, rfl⟩ := byte_of x2 h2
  obtain ⟨d, rfl⟩ := byte_of x3 h3
  cases h : dOk [a, b, c, d]
  · exact descBack_no a b c d w h
  · exact descBack_ok a b c d w h
namespace descBack
open Go.ChangeShapes Go.WideShapes Go.ChangeAt Go.RowKit
open Go.ChangeMaps (open_string shut_string)
set_option linter.unusedVariables false

theorem own : ownKnob Try.prog.godebug = none := by kernel_rfl
theorem laidOut : laidOutB Try.prog = true := by kernel_rfl

set_option maxRecDepth 100000 in
theorem lifted (os : Os) (started : os.Started) (H : Type) (enc : TypeId × Value → H) :
    ReturnsInHanded {} Try.checked os 10 .any (Rows.descBackSpec.pre6 enc Try.prog Try.f10 Rows.descBackRow.domain false) (Rows.descBackSpec.post enc Try.prog Try.f10 false true false false) := by
  refine returnsInHanded_of_change_sized (C := Try.checked) own started (by kernel_rfl) Try.func10
    (ChangeSpec.witness6 (enc := enc) (C := Try.checked) false ⟨#[], #[.int .u8 0, .int .u8 0, .int .u8 0, .int .u8 0], []⟩ 8 (by kernel_rfl) (by kernel_rfl) (by kernel_rfl) (by kernel_rfl)) ?_
  intro W base args ds gs before hval0 hW hcnd hsz0 _
  have hsz : (DataW.weightsEach Try.prog (Try.f10.params.toList ++ Rows.descBackSpec.plain.varTypes Try.prog) (ds ++ gs)).all (· ≤ reachBytes) = true := hsz0
  have hval : ∀ (j : Nat) t v, Try.f10.params[j]? = some t → args[j]? = some v → Value.okWide Try.prog W .any base t v := hval0
  have hW' := hW
  obtain ⟨p, q, hA0, hV, rfl, hfz, hnd⟩ := hW
  have hA : DataW.TrodAll enc Try.prog W 0 (fun _ => true) true Try.f10.params.toList args.toList ds p := hA0
  rw [Try.params10] at hA hval hsz
  obtain ⟨v0, vs0, d0, ds0, p0, q0, hargs, rfl, rfl, h0, r0⟩ := trodAll_cons hA
  obtain ⟨v1, vs1, d1, ds1, p1, q1, rfl, rfl, rfl, h1, r1⟩ := trodAll_cons r0
  obtain ⟨v2, vs2, d2, ds2, p2, q2, rfl, rfl, rfl, h2, r2⟩ := trodAll_cons r1
  obtain ⟨v3, vs3, d3, ds3, p3, q3, rfl, rfl, rfl, h3, r3⟩ := trodAll_cons r2
  obtain ⟨rfl, rfl, rfl⟩ := trodAll_nil r3
  obtain rfl : args = #[v0, v1, v2, v3] := by cases args; simp_all
  obtain ⟨rfl, rfl⟩ := trodVars_none hV
  obtain ⟨x0, rfl, rfl, rfl, w0⟩ := open_int Try.underlying5 (hval 0 5 v0 rfl rfl) h0
  obtain ⟨x1, rfl, rfl, rfl, w1⟩ := open_int Try.underlying5 (hval 1 5 v1 rfl rfl) h1
  obtain ⟨x2, rfl, rfl, rfl, w2⟩ := open_int Try.underlying5 (hval 2 5 v2 rfl rfl) h2
  obtain ⟨x3, rfl, rfl, rfl, w3⟩ := open_int Try.underlying5 (hval 3 5 v3 rfl rfl) h3
  clear hA0 hval0 hsz0
  refine (descBack_walk x0 x1 x2 x3 W (bounds_u8 w0) (bounds_u8 w1) (bounds_u8 w2) (bounds_u8 w3)).mono fun e W' ⟨he, bel⟩ => ?_
  subst he
  exact ⟨_, rfl, _, _, _, [], _, [], hW', trodAll_mk1 (shut_bool Try.underlying4 _), (trodAll_cons_mk (shut_int Try.underlying5 w0) (trodAll_cons_mk (shut_int Try.underlying5 w1) (trodAll_cons_mk (shut_int Try.underlying5 w2) (trodAll_cons_mk (shut_int Try.underlying5 w3) trodAll_mk0)))), rfl, bel.frame _, fun h => by cases h⟩

/-- The statement. -/
theorem proved : Rows.DescBackSaid :=
  OpenClaim.holds_of_wide 10 Try.f10 rfl rfl rfl rfl rfl rfl rfl ⟨rfl, rfl, rfl, rfl, rfl⟩ rfl rfl rfl rfl rfl (by kernel_rfl) Try.func10 (by kernel_rfl)
    (of_decide_eq_true (by kernel_rfl)) (by unfold Func.isWrapper; rw [if_neg (of_decide_eq_false (by kernel_rfl))]; exact ⟨rfl, rfl⟩)
    (fun os started H enc _ => lifted os started H enc)
#print axioms proved
end descBack
end Go.Proofs.Ytgmgjblekejgnaa
