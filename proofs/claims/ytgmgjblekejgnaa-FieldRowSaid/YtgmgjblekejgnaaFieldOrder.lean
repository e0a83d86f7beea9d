/-
FieldOrder: of two numbers in as many bytes the greater one's bytes are the greater; a number that needs more bytes is not written. For all numbers and sizes.
-/
import Derived.Test.YtgmgjblekejgnaaLaw1
import Derived.Test.YtgmgjblekejgnaaFrame
namespace Go.Proofs.Ytgmgjblekejgnaa
set_option linter.unusedVariables false
set_option linter.unusedSimpArgs false
open Go.RowKit

set_option maxHeartbeats 400000 in
theorem lfits_any (n s : Int) (w : World) (h0 : 0 ≤ n) (h1 : n ≤ 18446744073709551615) :
    Calls Try.prog 19 #[.int .u64 n, .int .i64 s] w fun e w' => e = .returned (.bool (fitsB s n.toNat)) ∧ w = w' := by
  by_cases h8 : s = 8
  · subst h8
    go_enter Try.func19, Try.ntmps19
    go_wp2
    go_ret
    refine ⟨ret_bool ?_, rfl⟩
    rw [Bool.eq_iff_iff, fitsB_iff]
    simp; omega
  · have h8' : (s == 8) = false := by simpa using h8
    by_cases h : 1 ≤ s ∧ s < 8
    · obtain ⟨hs1, hs2⟩ := h
      have hs3 : ¬ 8 ≤ s := by omega
      go_enter Try.func19, Try.ntmps19
      go_wp2
      go_ret
      refine ⟨ret_bool ?_, rfl⟩
      have e := fits_eq s n.toNat hs1 (by omega)
      rw [Int.toNat_of_nonneg h0] at e
      rw [← e]
      try simp
    · go_enter Try.func19, Try.ntmps19
      go_wp2
      all_goals
        go_ret
        refine ⟨ret_bool ?_, rfl⟩
        simp [fitsB]; omega

theorem nil_app (s num : Int) (w : World) (h2 : s ≤ 9223372036854775807) (h3 : 0 ≤ num) (h4 : num ≤ 18446744073709551615) :
    Calls Try.prog 17 #[.slice none 0 0, .int .i64 s, .int .u64 num] w fun e w' => ∃ A c', e = .returned (.slice A (appL [] s num.toNat).length c') ∧
      w'.ownsRow w.heap.size 5 1 (.slice A (appL [] s num.toNat).length c') (appL [] s num.toNat).length (bys (appL [] s num.toNat)) ∧ Below w.heap.size w w' := by
  refine (append_any none 0 0 [] s num w rfl (by omega) (fun _ => ⟨rfl, rfl⟩) (Rd.nil _ _) h2 h3 h4).mono ?_
  rintro e w' ⟨A, m, c', rfl, hm, ho, hb⟩
  obtain rfl : m = _ := hm
  exact ⟨A, c', rfl, ho, hb⟩
theorem nil_app_yes (s num : Nat) (w : World) (h4 : num ≤ 18446744073709551615) (hf : fitsB s num = true) :
    Calls Try.prog 17 #[.slice none 0 0, .int .i64 s, .int .u64 num] w fun e w' => ∃ A c', e = .returned (.slice A s c') ∧
      w'.ownsRow w.heap.size 5 1 (.slice A s c') s (bys (enc s num)) ∧ Below w.heap.size w w' := by
  have hs := (fitsB_iff.1 hf)
  have e : appL [] (s : Int) ((num : Int).toNat) = enc s num := by rw [Int.toNat_natCast]; simp [appL, hf]
  have := nil_app s num w (by omega) (by omega) (by omega)
  rw [e, enc_length] at this
  exact this
theorem nil_app_no (s num : Int) (w : World) (h2 : s ≤ 9223372036854775807) (h3 : 0 ≤ num) (h4 : num ≤ 18446744073709551615) (hf : fitsB s num.toNat = false) :
    Calls Try.prog 17 #[.slice none 0 0, .int .i64 s, .int .u64 num] w fun e w' => ∃ A c', e = .returned (.slice A 0 c') ∧
      w'.ownsRow w.heap.size 5 1 (.slice A 0 c') 0 (bys []) ∧ Below w.heap.size w w' := by
  have e : appL [] s num.toNat = [] := by simp [appL, hf]
  have := nil_app s num w h2 h3 h4
  rw [e] at this
  exact this

theorem enc_mod (s n : Nat) : enc s (n % 256 ^ s) = enc s n := by
  induction s generalizing n with
  | zero => rfl
  | succ s ih =>
    have hp : 0 < 256 ^ s := Nat.pow_pos (by omega)
    rw [enc, enc]
    have e1 : n % 256 ^ (s + 1) / 256 = n / 256 % 256 ^ s := by
      rw [Nat.pow_succ, Nat.mul_comm, Nat.mod_mul_right_div_self]
    have e2 : UInt8.ofNat (n % 256 ^ (s + 1)) = UInt8.ofNat n := by
      apply UInt8.toNat_inj.1
      rw [UInt8.toNat_ofNat', UInt8.toNat_ofNat', Nat.pow_succ, Nat.mul_comm]
      exact Nat.mod_mul_right_mod n 256 (256 ^ s)
    rw [e1, e2, ih]
theorem less_enc (s a b : Nat) (ha : a < 256 ^ s) (hb : b < 256 ^ s) : Op.bytesLess (enc s a) (enc s b) = decide (a < b) := by
  induction s generalizing a b with
  | zero => simp at ha hb; subst ha; subst hb; simp [enc, Op.bytesLess]
  | succ s ih =>
    have hp : 0 < 256 ^ s := Nat.pow_pos (by omega)
    rw [Nat.pow_succ] at ha hb
    have qa : a / 256 ^ s < 256 := by rw [Nat.div_lt_iff_lt_mul hp]; omega
    have qb : b / 256 ^ s < 256 := by rw [Nat.div_lt_iff_lt_mul hp]; omega
    have ma := Nat.mod_lt a hp
    have mb := Nat.mod_lt b hp
    have ea := Nat.div_add_mod a (256 ^ s)
    have eb := Nat.div_add_mod b (256 ^ s)
    rw [enc_cons, enc_cons, ← enc_mod s a, ← enc_mod s b, Op.bytesLess, ih _ _ ma mb]
    rw [Bool.eq_iff_iff]
    simp only [Bool.or_eq_true, Bool.and_eq_true, decide_eq_true_eq, beq_iff_eq, UInt8.lt_iff_toNat_lt, ← UInt8.toNat_inj, UInt8.toNat_ofNat']
    rw [Nat.mod_eq_of_lt (show a / 256 ^ s < 2 ^ 8 by omega), Nat.mod_eq_of_lt (show b / 256 ^ s < 2 ^ 8 by omega)]
    generalize a / 256 ^ s = x at *
    generalize b / 256 ^ s = y at *
    constructor
    · rintro (h | ⟨h, h2⟩)
      · have : 256 ^ s * (x + 1) ≤ 256 ^ s * y := Nat.mul_le_mul_left _ h
        rw [Nat.mul_add, Nat.mul_one] at this
        omega
      · subst h; omega
    · intro h
      rcases Nat.lt_trichotomy x y with h2 | h2 | h2
      · exact .inl h2
      · subst h2; exact .inr ⟨rfl, by omega⟩
      · exfalso
        have : 256 ^ s * (y + 1) ≤ 256 ^ s * x := Nat.mul_le_mul_left _ h2
        rw [Nat.mul_add, Nat.mul_one] at this
        omega

set_option maxHeartbeats 1000000 in
theorem fieldOrder_walk (a b s : Int) (w : World) (h1a : 0 ≤ a ∧ a ≤ 18446744073709551615) (h2a : 0 ≤ b ∧ b ≤ 18446744073709551615) (h3a : -9223372036854775808 ≤ s ∧ s ≤ 9223372036854775807) :
    Calls Try.prog 6 #[.int .u64 a, .int .u64 b, .int .i64 s] w fun e w' => e = .returned (.bool true) ∧ Below w.heap.size w w' := by
  obtain ⟨h1, h2⟩ := h1a
  obtain ⟨h3, h4⟩ := h2a
  obtain ⟨_, h5⟩ := h3a
  cases fa : fitsB s a.toNat <;> cases fb : fitsB s b.toNat
  · have Fa := Lib.hid fa
    have Fb := Lib.hid fb
    clear fa fb
    go_enter Try.func6, Try.ntmps6
    go_wp2_with (first
      | (go_at_call 12; (with_reducible refine (shown_any _).mono ?_); rintro e w1 ⟨rfl, hb1⟩)
      | (go_at_call 17; (with_reducible refine (nil_app_no s a w1 h5 h1 h2 Fa.out).mono ?_); rintro e w2 ⟨A2, c2, rfl, hown2, hb2⟩)
      | (go_at_call 17; (with_reducible refine (nil_app_no s b w2 h5 h3 h4 Fb.out).mono ?_); rintro e w3 ⟨A3, c3, rfl, hown3, hb3⟩)
      | (go_at_call 19; (with_reducible refine (lfits_any a s _ h1 h2).mono ?_); rintro e w' ⟨rfl, rfl⟩; first | rw [Fa.out] | rw [Int.toNat_natCast, Fa.out])
      | (go_at_call 19; (with_reducible refine (lfits_any b s _ h3 h4).mono ?_); rintro e w' ⟨rfl, rfl⟩; first | rw [Fb.out] | rw [Int.toNat_natCast, Fb.out]))
    go_ret
    exact ⟨rfl, (hb1.trans (hb2.mono hb1.size)).trans (hb3.mono (hb1.trans (hb2.mono hb1.size)).size)⟩
  · have hs := fitsB_iff.1 fb
    obtain ⟨s, rfl⟩ := Int.eq_ofNat_of_zero_le (show 0 ≤ s by omega)
    obtain ⟨b, rfl⟩ := Int.eq_ofNat_of_zero_le h3
    rw [Int.toNat_natCast] at fb
    have Fa := Lib.hid fa
    have Fb := Lib.hid fb
    clear fa fb
    go_enter Try.func6, Try.ntmps6
    go_wp2_with (first
      | (go_at_call 12; (with_reducible refine (shown_any _).mono ?_); rintro e w1 ⟨rfl, hb1⟩)
      | (go_at_call 17; (with_reducible refine (nil_app_no s a w1 h5 h1 h2 Fa.out).mono ?_); rintro e w2 ⟨A2, c2, rfl, hown2, hb2⟩)
      | (go_at_call 17; (with_reducible refine (nil_app_yes s b w2 (by omega) Fb.out).mono ?_); rintro e w3 ⟨A3, c3, rfl, hown3, hb3⟩)
      | (go_at_call 19; (with_reducible refine (lfits_any a s _ h1 h2).mono ?_); rintro e w' ⟨rfl, rfl⟩; first | rw [Fa.out] | rw [Int.toNat_natCast, Fa.out])
      | (go_at_call 19; (with_reducible refine (lfits_any b s _ h3 h4).mono ?_); rintro e w' ⟨rfl, rfl⟩; first | rw [Fb.out] | rw [Int.toNat_natCast, Fb.out]))
    go_ret
    exact ⟨rfl, (hb1.trans (hb2.mono hb1.size)).trans (hb3.mono (hb1.trans (hb2.mono hb1.size)).size)⟩
  · have hs := fitsB_iff.1 fa
    obtain ⟨s, rfl⟩ := Int.eq_ofNat_of_zero_le (show 0 ≤ s by omega)
    obtain ⟨a, rfl⟩ := Int.eq_ofNat_of_zero_le h1
    rw [Int.toNat_natCast] at fa
    have Fa := Lib.hid fa
    have Fb := Lib.hid fb
    clear fa fb
    go_enter Try.func6, Try.ntmps6
    go_wp2_with (first
      | (go_at_call 12; (with_reducible refine (shown_any _).mono ?_); rintro e w1 ⟨rfl, hb1⟩)
      | (go_at_call 17; (with_reducible refine (nil_app_yes s a w1 (by omega) Fa.out).mono ?_); rintro e w2 ⟨A2, c2, rfl, hown2, hb2⟩)
      | (go_at_call 17; (with_reducible refine (nil_app_no s b w2 h5 h3 h4 Fb.out).mono ?_); rintro e w3 ⟨A3, c3, rfl, hown3, hb3⟩)
      | (go_at_call 19; (with_reducible refine (lfits_any a s _ h1 h2).mono ?_); rintro e w' ⟨rfl, rfl⟩; first | rw [Fa.out] | rw [Int.toNat_natCast, Fa.out])
      | (go_at_call 19; (with_reducible refine (lfits_any b s _ h3 h4).mono ?_); rintro e w' ⟨rfl, rfl⟩; first | rw [Fb.out] | rw [Int.toNat_natCast, Fb.out]))
    go_ret
    exact ⟨rfl, (hb1.trans (hb2.mono hb1.size)).trans (hb3.mono (hb1.trans (hb2.mono hb1.size)).size)⟩
  · have hs := fitsB_iff.1 fa
    obtain ⟨s, rfl⟩ := Int.eq_ofNat_of_zero_le (show 0 ≤ s by omega)
    obtain ⟨a, rfl⟩ := Int.eq_ofNat_of_zero_le h1
    rw [Int.toNat_natCast] at fa
    obtain ⟨b, rfl⟩ := Int.eq_ofNat_of_zero_le h3
    rw [Int.toNat_natCast] at fb
    have HL : Hid (Op.bytesLess (enc s a) (enc s b) = decide (a < b)) := less_enc s a b (by have := (fitsB_iff.1 fa).2.2; simpa using this) (by have := (fitsB_iff.1 fb).2.2; simpa using this)
    have Fa := Lib.hid fa
    have Fb := Lib.hid fb
    clear fa fb
    go_enter Try.func6, Try.ntmps6
    go_wp2_with (first
      | (go_at_call 12; (with_reducible refine (shown_any _).mono ?_); rintro e w1 ⟨rfl, hb1⟩)
      | (go_at_call 17; (with_reducible refine (nil_app_yes s a w1 (by omega) Fa.out).mono ?_); rintro e w2 ⟨A2, c2, rfl, hown2, hb2⟩)
      | (go_at_call 17; (with_reducible refine (nil_app_yes s b w2 (by omega) Fb.out).mono ?_); rintro e w3 ⟨A3, c3, rfl, hown3, hb3⟩; have hcv1 := conv_own hown3; have hcv2 := conv_own (hown2.kept (own_below hb3) (own_none _)); have HL1 := HL.out)
      | (go_at_call 19; (with_reducible refine (lfits_any a s _ h1 h2).mono ?_); rintro e w' ⟨rfl, rfl⟩; first | rw [Fa.out] | rw [Int.toNat_natCast, Fa.out])
      | (go_at_call 19; (with_reducible refine (lfits_any b s _ h3 h4).mono ?_); rintro e w' ⟨rfl, rfl⟩; first | rw [Fb.out] | rw [Int.toNat_natCast, Fb.out]))
    go_ret
    exact ⟨rfl, (hb1.trans (hb2.mono hb1.size)).trans (hb3.mono (hb1.trans (hb2.mono hb1.size)).size)⟩
namespace fieldOrder
open Go.ChangeShapes Go.WideShapes Go.ChangeAt Go.RowKit
open Go.ChangeMaps (open_string shut_string)
set_option linter.unusedVariables false

theorem own : ownKnob Try.prog.godebug = none := by kernel_rfl
theorem laidOut : laidOutB Try.prog = true := by kernel_rfl

set_option maxRecDepth 100000 in
theorem lifted (os : Os) (started : os.Started) (H : Type) (enc : TypeId × Value → H) :
    ReturnsInHanded {} Try.checked os 6 .any (Rows.fieldOrderSpec.pre6 enc Try.prog Try.f6 Rows.fieldOrderRow.domain false) (Rows.fieldOrderSpec.post enc Try.prog Try.f6 false true false false) := by
  refine returnsInHanded_of_change_sized (C := Try.checked) own started (by kernel_rfl) Try.func6
    (ChangeSpec.witness6 (enc := enc) (C := Try.checked) false ⟨#[], #[.int .u64 0, .int .u64 0, .int .i64 0], []⟩ 8 (by kernel_rfl) (by kernel_rfl) (by kernel_rfl) (by kernel_rfl)) ?_
  intro W base args ds gs before hval0 hW hcnd hsz0 _
  have hsz : (DataW.weightsEach Try.prog (Try.f6.params.toList ++ Rows.fieldOrderSpec.plain.varTypes Try.prog) (ds ++ gs)).all (· ≤ reachBytes) = true := hsz0
  have hval : ∀ (j : Nat) t v, Try.f6.params[j]? = some t → args[j]? = some v → Value.okWide Try.prog W .any base t v := hval0
  have hW' := hW
  obtain ⟨p, q, hA0, hV, rfl, hfz, hnd⟩ := hW
  have hA : DataW.TrodAll enc Try.prog W 0 (fun _ => true) true Try.f6.params.toList args.toList ds p := hA0
  rw [Try.params6] at hA hval hsz
  obtain ⟨v0, vs0, d0, ds0, p0, q0, hargs, rfl, rfl, h0, r0⟩ := trodAll_cons hA
  obtain ⟨v1, vs1, d1, ds1, p1, q1, rfl, rfl, rfl, h1, r1⟩ := trodAll_cons r0
  obtain ⟨v2, vs2, d2, ds2, p2, q2, rfl, rfl, rfl, h2, r2⟩ := trodAll_cons r1
  obtain ⟨rfl, rfl, rfl⟩ := trodAll_nil r2
  obtain rfl : args = #[v0, v1, v2] := by cases args; simp_all
  obtain ⟨rfl, rfl⟩ := trodVars_none hV
  obtain ⟨x0, rfl, rfl, rfl, w0⟩ := open_int Try.underlying23 (hval 0 23 v0 rfl rfl) h0
  obtain ⟨x1, rfl, rfl, rfl, w1⟩ := open_int Try.underlying23 (hval 1 23 v1 rfl rfl) h1
  obtain ⟨x2, rfl, rfl, rfl, w2⟩ := open_int Try.underlying3 (hval 2 3 v2 rfl rfl) h2
  clear hA0 hval0 hsz0
  refine (fieldOrder_walk x0 x1 x2 W (bounds_u64 w0) (bounds_u64 w1) (bounds_i64 w2)).mono fun e W' ⟨he, bel⟩ => ?_
  subst he
  exact ⟨_, rfl, _, _, _, [], _, [], hW', trodAll_mk1 (shut_bool Try.underlying4 _), (trodAll_cons_mk (shut_int Try.underlying23 w0) (trodAll_cons_mk (shut_int Try.underlying23 w1) (trodAll_cons_mk (shut_int Try.underlying3 w2) trodAll_mk0))), rfl, bel.frame _, fun h => by cases h⟩

/-- The statement. -/
theorem proved : Rows.FieldOrderSaid :=
  OpenClaim.holds_of_wide 6 Try.f6 rfl rfl rfl rfl rfl rfl rfl ⟨rfl, rfl, rfl, rfl, rfl⟩ rfl rfl rfl rfl rfl (by kernel_rfl) Try.func6 (by kernel_rfl)
    (of_decide_eq_true (by kernel_rfl)) (by unfold Func.isWrapper; rw [if_neg (of_decide_eq_false (by kernel_rfl))]; exact ⟨rfl, rfl⟩)
    (fun os started H enc _ => lifted os started H enc)
#print axioms proved
end fieldOrder
end Go.Proofs.Ytgmgjblekejgnaa
