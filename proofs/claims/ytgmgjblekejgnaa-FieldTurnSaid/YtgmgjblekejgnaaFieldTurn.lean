/-
FieldTurn: what Put wrote is what Get reads, all other bytes are as they were; where Put writes nothing, nothing is changed. For every slice, place, size and number.
-/
import Derived.Test.YtgmgjblekejgnaaLaw1
import Derived.Test.YtgmgjblekejgnaaReg
import Derived.Test.YtgmgjblekejgnaaFrame
namespace Go.Proofs.Ytgmgjblekejgnaa
set_option linter.unusedVariables false
set_option linter.unusedSimpArgs false
open Go.RowKit

theorem conv_rd {w : World} {A : Option Addr} {n c : Nat} {l : List UInt8} (hn : l.length = n) (hr : Rd w A (bys l)) : (convert 22 9 (.slice A n c)).run Try.prog w = .ok (.string ⟨l.toArray⟩) w :=
  conv_str Try.underlying22 Try.underlying5 Try.underlying9 w A n c l hn hr

set_option maxHeartbeats 1000000 in
theorem fieldTurn_walk (X : Option Addr) (n c : Nat) (l : List UInt8) (a s num : Int) (w : World) (hn : l.length = n) (hnc : n ≤ c) (hcm : c ≤ maxLen) (hb0 : n ≤ 140737488351232) (hX : X = none → n = 0 ∧ c = 0) (hr : Rd w X (bys l))
    (h1a : -9223372036854775808 ≤ a ∧ a ≤ 9223372036854775807) (h2a : -9223372036854775808 ≤ s ∧ s ≤ 9223372036854775807) (h3a : 0 ≤ num ∧ num ≤ 18446744073709551615) :
    Calls Try.prog 4 #[.slice X n c, .int .i64 a, .int .i64 s, .int .u64 num] w fun e w' => e = .returned (.bool true) ∧ Below w.heap.size w w' := by
  obtain ⟨_, h1⟩ := h1a
  obtain ⟨_, h2⟩ := h2a
  obtain ⟨h3, h4⟩ := h3a
  have Hn := Lib.hid hn
  have HX := Lib.hid hX
  cases hp : putB l a s num.toNat
  · have HE : Hid (putL l a s num.toNat = l) := by simp [Hid, putL, hp]
    clear hn hX
    go_enter Try.func4, Try.ntmps4
    go_wp2_with (first
      | (go_at_call 12; (with_reducible refine (shown_any _).mono ?_); rintro e w1 ⟨rfl, hb1⟩; have hr1 := hr.below hb1)
      | (at_builtin; refine wpList_app slU8 rfl _ _ rfl w.heap.size none 0 0 [] rfl (World.ownsRow_nil _ _ _ _) X n c (bys l) rfl (by rw [bys_length, Nat.mul_one]; exact Hn.out) hr1 (bys_one l) (by omega) hb1.size ?_; intro A2 c2 w2 hown2 hg2 hA2; simp only [Nat.zero_add, List.nil_append] at hown2; have hb2 := hb1.grown hg2 hb1.size (by simp))
      | (go_at_call 15; (with_reducible refine (put_any w.heap.size A2 n c2 l a s num _ Hn.out (own_cap hown2).1 (own_cap hown2).2 hown2 h1 h2 h3 h4).mono ?_); rintro e w3 ⟨rfl, hown3, hg3, hz3⟩; have hb3 := hb2.grown hg3 hb2.size (own_from hown2); rw [HE.out] at hown3; have hcv1 := conv_own hown3; have hcv2 := conv_rd (c := c) Hn.out (hr.below hb3)))
    go_ret
    exact ⟨rfl, hb3⟩
  · have hpp := hp
    simp only [putB, Bool.and_eq_true, withinB_iff] at hpp
    obtain ⟨⟨b1, b2, b3, b4⟩, hf⟩ := hpp
    rw [hn] at b4
    obtain ⟨a, rfl⟩ := Int.eq_ofNat_of_zero_le b3
    obtain ⟨s, rfl⟩ := Int.eq_ofNat_of_zero_le (show 0 ≤ s by omega)
    obtain ⟨num, rfl⟩ := Int.eq_ofNat_of_zero_le h3
    rw [Int.toNat_natCast] at hp hf
    have hal : a + (enc s num).length ≤ l.length := by rw [enc_length]; omega
    have HE : Hid (putL l a s num = splice' l a (enc s num)) := by simp [Hid, putL, hp]
    have HG : Hid (getN (putL l a s num) a s = num) := by
      show _ = _
      unfold getN
      rw [putL_length, if_pos (by rw [withinB_iff]; omega), HE.out, Int.toNat_natCast, Int.toNat_natCast]
      have := part_splice l (enc s num) a hal
      rw [enc_length] at this
      rw [this, beN_enc]
      exact (fitsB_iff.1 hf).2.2
    have HT : Hid ((putL l a s num).take a = l.take a) := by rw [HE.out]; exact take_splice l _ a hal
    have HD : Hid ((putL l a s num).drop (a + s) = l.drop (a + s)) := by
      rw [HE.out]
      have := drop_splice l (enc s num) a hal
      rwa [enc_length] at this
    have HL : Hid ((putL l a s num).length = n) := by rw [putL_length]; exact hn
    have HW : Hid (withinB n a s = true) := by show _ = _; rw [withinB_iff]; omega
    have Hp := Lib.hid hp
    clear hn hX hp hf hal
    go_enter Try.func4, Try.ntmps4
    go_wp2_with (first
      | (go_at_call 12; (with_reducible refine (shown_any _).mono ?_); rintro e w1 ⟨rfl, hb1⟩; have hr1 := hr.below hb1)
      | (at_builtin; refine wpList_app slU8 rfl _ _ rfl w.heap.size none 0 0 [] rfl (World.ownsRow_nil _ _ _ _) X n c (bys l) rfl (by rw [bys_length, Nat.mul_one]; exact Hn.out) hr1 (bys_one l) (by omega) hb1.size ?_; intro A2 c2 w2 hown2 hg2 hA2; simp only [Nat.zero_add, List.nil_append] at hown2; have hb2 := hb1.grown hg2 hb1.size (by simp))
      | (go_at_call 15; (with_reducible refine (put_any w.heap.size A2 n c2 l a s num _ Hn.out (own_cap hown2).1 (own_cap hown2).2 hown2 h1 h2 h3 h4).mono ?_); rintro e w3 ⟨rfl, hown3, hg3, hz3⟩; have hb3 := hb2.grown hg3 hb2.size (own_from hown2); rw [Int.toNat_natCast] at hown3; have hp := Hp.out)
      | (go_at_call 13; (with_reducible refine (get_any A2 n c2 (putL l a s num) a s _ HL.out (own_cap hown3).1 (own_cap hown3).2 (Rd.own hown3) h1 h2).mono ?_); rintro e w' ⟨rfl, rfl⟩; rw [HG.out, HW.out]))
    have han : a ≤ n := by omega
    have hasn : a + s ≤ n := by omega
    have hca := (own_cap hown3).1
    have ha2 : a ≤ c2 := by omega
    have ha3 : a ≤ c := by omega
    have h02 : ¬ c2 = 0 := by omega
    have h03 : ¬ c = 0 := by omega
    have hr3 := hr.below hb3
    have hv1 := fun k => conv_rd (w := w3.drewN k) (A := A2) (n := a) (c := c2) (l := l.take a) (by rw [List.length_take, Hn.out]; omega) (by rw [← HT.out, ← bys_take]; exact (Rd.own hown3).take a)
    have hv2 := fun k => conv_rd (w := w3.drewN k) (A := X) (n := a) (c := c) (l := l.take a) (by rw [List.length_take, Hn.out]; omega) (by rw [← bys_take]; exact hr3.take a)
    have hv3 := fun k => conv_rd (w := w3.drewN k) (n := n - (a + s)) (c := c2 - (a + s)) (l := l.drop (a + s)) (by rw [List.length_drop, Hn.out]) (by rw [← HD.out, ← bys_drop]; exact (Rd.own hown3).cut (n := n) (cap := c2) (by rw [bys_length, HL.out]) hasn hca)
    have hv4 := fun k => conv_rd (w := w3.drewN k) (n := n - (a + s)) (c := c - (a + s)) (l := l.drop (a + s)) (by rw [List.length_drop, Hn.out]) (by rw [← bys_drop]; exact hr3.cut (n := n) (cap := c) (by rw [bys_length, Hn.out]) hasn hnc)
    go_quiet (fail)
    go_wp2
    all_goals
      go_ret
      exact ⟨rfl, below_drewN hb3 _⟩
namespace fieldTurn
open Go.ChangeShapes Go.WideShapes Go.ChangeAt Go.RowKit
open Go.ChangeMaps (open_string shut_string)
set_option linter.unusedVariables false

theorem own : ownKnob Try.prog.godebug = none := by kernel_rfl
theorem laidOut : laidOutB Try.prog = true := by kernel_rfl

set_option maxRecDepth 100000 in
theorem lifted (os : Os) (started : os.Started) (H : Type) (enc : TypeId × Value → H) :
    ReturnsInHanded {} Try.checked os 4 .any (Rows.fieldTurnSpec.pre6 enc Try.prog Try.f4 Rows.fieldTurnRow.domain false) (Rows.fieldTurnSpec.post enc Try.prog Try.f4 false true false false) := by
  refine returnsInHanded_of_change_sized (C := Try.checked) own started (by kernel_rfl) Try.func4
    (ChangeSpec.witness6 (enc := enc) (C := Try.checked) false ⟨#[], #[.slice none 0 0, .int .i64 0, .int .i64 0, .int .u64 0], []⟩ 8 (by kernel_rfl) (by kernel_rfl) (by kernel_rfl) (by kernel_rfl)) ?_
  intro W base args ds gs before hval0 hW hcnd hsz0 _
  have hsz : (DataW.weightsEach Try.prog (Try.f4.params.toList ++ Rows.fieldTurnSpec.plain.varTypes Try.prog) (ds ++ gs)).all (· ≤ reachBytes) = true := hsz0
  have hval : ∀ (j : Nat) t v, Try.f4.params[j]? = some t → args[j]? = some v → Value.okWide Try.prog W .any base t v := hval0
  have hW' := hW
  obtain ⟨p, q, hA0, hV, rfl, hfz, hnd⟩ := hW
  have hA : DataW.TrodAll enc Try.prog W 0 (fun _ => true) true Try.f4.params.toList args.toList ds p := hA0
  rw [Try.params4] at hA hval hsz
  obtain ⟨v0, vs0, d0, ds0, p0, q0, hargs, rfl, rfl, h0, r0⟩ := trodAll_cons hA
  obtain ⟨v1, vs1, d1, ds1, p1, q1, rfl, rfl, rfl, h1, r1⟩ := trodAll_cons r0
  obtain ⟨v2, vs2, d2, ds2, p2, q2, rfl, rfl, rfl, h2, r2⟩ := trodAll_cons r1
  obtain ⟨v3, vs3, d3, ds3, p3, q3, rfl, rfl, rfl, h3, r3⟩ := trodAll_cons r2
  obtain ⟨rfl, rfl, rfl⟩ := trodAll_nil r3
  obtain rfl : args = #[v0, v1, v2, v3] := by cases args; simp_all
  obtain ⟨rfl, rfl⟩ := trodVars_none hV
  obtain ⟨a0, len0, cap0, rfl⟩ := okWide_slice Try.underlying22 (hval 0 22 v0 rfl rfl)
  have k0 := h0
  have lt0 : ∀ x ∈ p0, x.block < W.heap.size := by obtain ⟨m, hm⟩ := k0; exact DataW.trod_lt m _ _ _ hm
  obtain ⟨l0, n0, nc0, cm0, nl0, rd0, hl0⟩ : ∃ l : List UInt8, l.length = len0 ∧ len0 ≤ cap0 ∧ cap0 ≤ maxLen ∧ (a0 = none → len0 = 0 ∧ cap0 = 0) ∧ Rd W a0 (bys l) ∧ (len0 = 0 ∨ ∃ es sp, d0 = .slice es sp ∧ es.length = len0) := by
    obtain ⟨fuel, hf⟩ := h0
    exact open_byte_slice Try.underlying22 Try.underlying5 (by kernel_rfl) hf
  have hb0 : len0 * 1 ≤ 140737488351232 := reach_slice hsz (j := 0) rfl rfl Try.underlying22 (by kernel_rfl) hl0
  rw [Nat.mul_one] at hb0
  obtain ⟨x1, rfl, rfl, rfl, w1⟩ := open_int Try.underlying3 (hval 1 3 v1 rfl rfl) h1
  obtain ⟨x2, rfl, rfl, rfl, w2⟩ := open_int Try.underlying3 (hval 2 3 v2 rfl rfl) h2
  obtain ⟨x3, rfl, rfl, rfl, w3⟩ := open_int Try.underlying23 (hval 3 23 v3 rfl rfl) h3
  clear hA0 hval0 hsz0
  refine (fieldTurn_walk a0 len0 cap0 l0 x1 x2 x3 W n0 nc0 cm0 hb0 nl0 rd0 (bounds_i64 w1) (bounds_i64 w2) (bounds_u64 w3)).mono fun e W' ⟨he, bel⟩ => ?_
  subst he
  exact ⟨_, rfl, _, _, _, [], _, [], hW', trodAll_mk1 (shut_bool Try.underlying4 _), (trodAll_cons_mk (Below.trod laidOut (by kernel_rfl) (of_decide_eq_true (by kernel_rfl)) k0 bel lt0) (trodAll_cons_mk (shut_int Try.underlying3 w1) (trodAll_cons_mk (shut_int Try.underlying3 w2) (trodAll_cons_mk (shut_int Try.underlying23 w3) trodAll_mk0)))), rfl, bel.frame _, fun h => by cases h⟩

/-- The statement. -/
theorem proved : Rows.FieldTurnSaid :=
  OpenClaim.holds_of_wide 4 Try.f4 rfl rfl rfl rfl rfl rfl rfl ⟨rfl, rfl, rfl, rfl, rfl⟩ rfl rfl rfl rfl rfl (by kernel_rfl) Try.func4 (by kernel_rfl)
    (of_decide_eq_true (by kernel_rfl)) (by unfold Func.isWrapper; rw [if_neg (of_decide_eq_false (by kernel_rfl))]; exact ⟨rfl, rfl⟩)
    (fun os started H enc _ => lifted os started H enc)
#print axioms proved
end fieldTurn
end Go.Proofs.Ytgmgjblekejgnaa
