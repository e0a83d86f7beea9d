/-
FieldParts: a number is composed of its upper bytes and its lower ones. For every slice, place, size and cut.
-/
import Derived.Test.YtgmgjblekejgnaaLaw1
import Derived.Test.YtgmgjblekejgnaaFrame
namespace Go.Proofs.Ytgmgjblekejgnaa
set_option linter.unusedVariables false
set_option linter.unusedSimpArgs false
open Go.RowKit

theorem part_cut (l : List UInt8) (a s k : Nat) (hk : k ≤ s) : part l a s = part l a k ++ part l (a + k) (s - k) := by
  unfold part
  rw [← List.drop_drop, ← List.take_append_drop k ((l.drop a).take s), List.take_take, Nat.min_eq_left hk, List.drop_take]
theorem parts_num (l : List UInt8) (a s k : Nat) (hk : k ≤ s) (hs : s ≤ 8) (hk1 : 1 ≤ k) (h : a + s ≤ l.length) :
    bits .or .u64 (IntKind.u64.wrap ((beN (part l a k) : Nat) * 2 ^ (8 * (s - k)) : Int)) ((beN (part l (a + k) (s - k)) : Nat) : Int) = ((beN (part l a s) : Nat) : Int) := by
  have e := part_cut l a s k hk
  have h1 : (part l a k).length = k := part_length (by omega)
  have h2 : (part l (a + k) (s - k)).length = s - k := part_length (by omega)
  have b1 := beN_lt (part l a k)
  have b2 := beN_lt (part l (a + k) (s - k))
  have b := beN_lt (part l a s)
  rw [part_length h] at b
  rw [h1] at b1
  rw [h2] at b2
  have e2 : beN (part l a s) = beN (part l a k) * 256 ^ (s - k) + beN (part l (a + k) (s - k)) := by rw [e, beN_append, h2]
  have p1 : (256 : Nat) ^ s ≤ 256 ^ 8 := Nat.pow_le_pow_right (by omega) hs
  have p2 : (256 : Nat) ^ (s - k) ≤ 256 ^ s := Nat.pow_le_pow_right (by omega) (by omega)
  have e3 : (2 : Int) ^ (8 * (s - k)) = ((256 ^ (s - k) : Nat) : Int) := by rw [← pow_8]; simp
  rw [e3, ← Int.natCast_mul]
  have e4 : IntKind.u64.wrap ((beN (part l a k) * 256 ^ (s - k) : Nat) : Int) = ((beN (part l a k) * 256 ^ (s - k) : Nat) : Int) := by
    rw [IntKind.wrap_u64]; omega
  rw [e4, u64_or_nat _ _ (by omega) (by omega), e2]
  congr 1
  have := nat_join (8 * (s - k)) (beN (part l a k) * 256 ^ (s - k)) (beN (part l (a + k) (s - k))) (by rw [pow_8]; exact Nat.mul_mod_left _ _) (by rw [pow_8]; exact b2)
  exact this

set_option maxHeartbeats 1000000 in
theorem fieldParts_walk (X : Option Addr) (n c : Nat) (l : List UInt8) (a s k : Int) (w : World) (hn : l.length = n) (hnc : n ≤ c) (hcm : c ≤ maxLen) (hb0 : n ≤ 140737488351232) (hX : X = none → n = 0 ∧ c = 0) (hr : Rd w X (bys l))
    (h1a : -9223372036854775808 ≤ a ∧ a ≤ 9223372036854775807) (h2a : -9223372036854775808 ≤ s ∧ s ≤ 9223372036854775807) (h3a : -9223372036854775808 ≤ k ∧ k ≤ 9223372036854775807) :
    Calls Try.prog 5 #[.slice X n c, .int .i64 a, .int .i64 s, .int .i64 k] w fun e w' => e = .returned (.bool true) ∧ Below w.heap.size w w' := by
  obtain ⟨_, h1⟩ := h1a
  obtain ⟨_, h2⟩ := h2a
  obtain ⟨_, h3⟩ := h3a
  have Hn := Lib.hid hn
  by_cases hg : 2 ≤ s ∧ s ≤ 8 ∧ 1 ≤ k ∧ k < s ∧ 0 ≤ a ∧ a ≤ n
  · obtain ⟨g1, g2, g3, g4, g5, g6⟩ := hg
    obtain ⟨a, rfl⟩ := Int.eq_ofNat_of_zero_le g5
    obtain ⟨s, rfl⟩ := Int.eq_ofNat_of_zero_le (show 0 ≤ s by omega)
    obtain ⟨k, rfl⟩ := Int.eq_ofNat_of_zero_le (show 0 ≤ k by omega)
    by_cases hok : a + s ≤ n
    · have Hw1 : Hid (withinB n a s = true) := by show _ = _; rw [withinB_iff]; omega
      have Hw2 : Hid (withinB n a k = true) := by show _ = _; rw [withinB_iff]; omega
      have Hw3 : Hid (withinB n ((a : Int) + k) ((s : Int) - k) = true) := by show _ = _; rw [withinB_iff]; omega
      have G1 : Hid (getN l a s = beN (part l a s)) := by show _ = _; unfold getN; rw [hn, Hw1.out]; simp
      have G2 : Hid (getN l a k = beN (part l a k)) := by show _ = _; unfold getN; rw [hn, Hw2.out]; simp
      have G3 : Hid (getN l ((a : Int) + k) ((s : Int) - k) = beN (part l (a + k) (s - k))) := by
        show _ = _; unfold getN; rw [hn, Hw3.out]
        simp only [if_true]
        rw [show ((a : Int) + k).toNat = a + k by omega, show ((s : Int) - k).toNat = s - k by omega]
      have HP := Lib.hid (parts_num l a s k (by omega) (by omega) (by omega) (by omega))
      clear hn hX
      go_enter Try.func5, Try.ntmps5
      go_wp2_with (first
        | (go_at_call 12; (with_reducible refine (shown_any _).mono ?_); rintro e w1 ⟨rfl, hb1⟩; have hr1 := hr.below hb1)
        | (go_at_call 13; (with_reducible refine (get_any X n c l a s _ Hn.out hnc hcm hr1 h1 h2).mono ?_); rintro e w' ⟨rfl, rfl⟩; rw [Hw1.out, G1.out])
        | (go_at_call 13; (with_reducible refine (get_any X n c l a k _ Hn.out hnc hcm hr1 h1 h3).mono ?_); rintro e w' ⟨rfl, rfl⟩; rw [Hw2.out, G2.out])
        | (go_at_call 13; (with_reducible refine (get_any X n c l ((a : Int) + k) ((s : Int) - k) _ Hn.out hnc hcm hr1 (by omega) (by omega)).mono ?_); rintro e w' ⟨rfl, rfl⟩; rw [Hw3.out, G3.out]))
      go_ret
      refine ⟨ret_bool ?_, hb1⟩
      rw [HP.out]
      simp
    · have Hw1 : Hid (withinB n a s = false) := by show _ = _; rw [← Bool.not_eq_true, withinB_iff]; omega
      have Hw3 : Hid (withinB n ((a : Int) + k) ((s : Int) - k) = false) := by show _ = _; rw [← Bool.not_eq_true, withinB_iff]; omega
      cases Hw2 : withinB n a k
      all_goals
        have Hw2' := Lib.hid Hw2
        clear Hw2
        clear hn hX
        go_enter Try.func5, Try.ntmps5
        go_wp2_with (first
          | (go_at_call 12; (with_reducible refine (shown_any _).mono ?_); rintro e w1 ⟨rfl, hb1⟩; have hr1 := hr.below hb1)
          | (go_at_call 13; (with_reducible refine (get_any X n c l a s _ Hn.out hnc hcm hr1 h1 h2).mono ?_); rintro e w' ⟨rfl, rfl⟩; rw [Hw1.out])
          | (go_at_call 13; (with_reducible refine (get_any X n c l a k _ Hn.out hnc hcm hr1 h1 h3).mono ?_); rintro e w' ⟨rfl, rfl⟩; rw [Hw2'.out])
          | (go_at_call 13; (with_reducible refine (get_any X n c l ((a : Int) + k) ((s : Int) - k) _ Hn.out hnc hcm hr1 (by omega) (by omega)).mono ?_); rintro e w' ⟨rfl, rfl⟩; rw [Hw3.out]))
        go_ret
        exact ⟨rfl, hb1⟩
  · clear hn hX
    go_enter Try.func5, Try.ntmps5
    go_wp2_with (go_at_call 12; (with_reducible refine (shown_any _).mono ?_); rintro e w1 ⟨rfl, hb1⟩; have hr1 := hr.below hb1)
    all_goals
      go_ret
      exact ⟨rfl, hb1⟩
namespace fieldParts
open Go.ChangeShapes Go.WideShapes Go.ChangeAt Go.RowKit
open Go.ChangeMaps (open_string shut_string)
set_option linter.unusedVariables false

theorem own : ownKnob Try.prog.godebug = none := by kernel_rfl
theorem laidOut : laidOutB Try.prog = true := by kernel_rfl

set_option maxRecDepth 100000 in
theorem lifted (os : Os) (started : os.Started) (H : Type) (enc : TypeId × Value → H) :
    ReturnsInHanded {} Try.checked os 5 .any (Rows.fieldPartsSpec.pre6 enc Try.prog Try.f5 Rows.fieldPartsRow.domain false) (Rows.fieldPartsSpec.post enc Try.prog Try.f5 false true false false) := by
  refine returnsInHanded_of_change_sized (C := Try.checked) own started (by kernel_rfl) Try.func5
    (ChangeSpec.witness6 (enc := enc) (C := Try.checked) false ⟨#[], #[.slice none 0 0, .int .i64 0, .int .i64 0, .int .i64 0], []⟩ 8 (by kernel_rfl) (by kernel_rfl) (by kernel_rfl) (by kernel_rfl)) ?_
  intro W base args ds gs before hval0 hW hcnd hsz0 _
  have hsz : (DataW.weightsEach Try.prog (Try.f5.params.toList ++ Rows.fieldPartsSpec.plain.varTypes Try.prog) (ds ++ gs)).all (· ≤ reachBytes) = true := hsz0
  have hval : ∀ (j : Nat) t v, Try.f5.params[j]? = some t → args[j]? = some v → Value.okWide Try.prog W .any base t v := hval0
  have hW' := hW
  obtain ⟨p, q, hA0, hV, rfl, hfz, hnd⟩ := hW
  have hA : DataW.TrodAll enc Try.prog W 0 (fun _ => true) true Try.f5.params.toList args.toList ds p := hA0
  rw [Try.params5] at hA hval hsz
  obtain ⟨v0, vs0, d0, ds0, p0, q0, hargs, rfl, rfl, h0, r0⟩ := trodAll_cons hA
  obtain ⟨v1, vs1, d1, ds1, p1, q1, rfl, rfl, rfl, h1, r1⟩ := trodAll_cons r0
  obtain ⟨v2, vs2, d2, ds2, p2, q2, rfl, rfl, rfl, h2, r2⟩ := trodAll_cons r1
  obtain ⟨v3, vs3, d3, ds3, p3, q3, rfl, rfl, rfl, h3, r3⟩ := trodAll_cons r2
  obtain ⟨rfl, rfl, rfl⟩ := trodAll_nil r3
  obtain rfl : args = #[v0, v1, v2, v3] := by cases args; simp_all
  obtain ⟨rfl, rfl⟩ := trodVars_none hV
  obtain ⟨a0, len0, cap0, rfl⟩ := okWide_slice Try.underlying22 (hval 0 22 v0 rfl rfl)
  have k0 := h0
  have lt0 : ∀ x ∈ p0, x.block < W.heap.size := by obtain ⟨m, hm⟩ := k0; exact DataW.trod_lt m _ _ _ hm
  obtain ⟨l0, n0, nc0, cm0, nl0, rd0, hl0⟩ : ∃ l : List UInt8, l.length = len0 ∧ len0 ≤ cap0 ∧ cap0 ≤ maxLen ∧ (a0 = none → len0 = 0 ∧ cap0 = 0) ∧ Rd W a0 (bys l) ∧ (len0 = 0 ∨ ∃ es sp, d0 = .slice es sp ∧ es.length = len0) := by
    obtain ⟨fuel, hf⟩ := h0
    exact open_byte_slice Try.underlying22 Try.underlying5 (by kernel_rfl) hf
  have hb0 : len0 * 1 ≤ 140737488351232 := reach_slice hsz (j := 0) rfl rfl Try.underlying22 (by kernel_rfl) hl0
  rw [Nat.mul_one] at hb0
  obtain ⟨x1, rfl, rfl, rfl, w1⟩ := open_int Try.underlying3 (hval 1 3 v1 rfl rfl) h1
  obtain ⟨x2, rfl, rfl, rfl, w2⟩ := open_int Try.underlying3 (hval 2 3 v2 rfl rfl) h2
  obtain ⟨x3, rfl, rfl, rfl, w3⟩ := open_int Try.underlying3 (hval 3 3 v3 rfl rfl) h3
  clear hA0 hval0 hsz0
  refine (fieldParts_walk a0 len0 cap0 l0 x1 x2 x3 W n0 nc0 cm0 hb0 nl0 rd0 (bounds_i64 w1) (bounds_i64 w2) (bounds_i64 w3)).mono fun e W' ⟨he, bel⟩ => ?_
  subst he
  exact ⟨_, rfl, _, _, _, [], _, [], hW', trodAll_mk1 (shut_bool Try.underlying4 _), (trodAll_cons_mk (Below.trod laidOut (by kernel_rfl) (of_decide_eq_true (by kernel_rfl)) k0 bel lt0) (trodAll_cons_mk (shut_int Try.underlying3 w1) (trodAll_cons_mk (shut_int Try.underlying3 w2) (trodAll_cons_mk (shut_int Try.underlying3 w3) trodAll_mk0)))), rfl, bel.frame _, fun h => by cases h⟩

/-- The statement. -/
theorem proved : Rows.FieldPartsSaid :=
  OpenClaim.holds_of_wide 5 Try.f5 rfl rfl rfl rfl rfl rfl rfl ⟨rfl, rfl, rfl, rfl, rfl⟩ rfl rfl rfl rfl rfl (by kernel_rfl) Try.func5 (by kernel_rfl)
    (of_decide_eq_true (by kernel_rfl)) (by unfold Func.isWrapper; rw [if_neg (of_decide_eq_false (by kernel_rfl))]; exact ⟨rfl, rfl⟩)
    (fun os started H enc _ => lifted os started H enc)
#print axioms proved
end fieldParts
end Go.Proofs.Ytgmgjblekejgnaa
