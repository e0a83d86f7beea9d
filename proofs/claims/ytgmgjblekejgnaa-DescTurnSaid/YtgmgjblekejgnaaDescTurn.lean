/-
DescTurn: Get returns the descriptor that Put wrote, whatever bytes follow; a descriptor that may not be has no bytes. For every descriptor and every slice of bytes.
-/
import Derived.Test.YtgmgjblekejgnaaLaw4
import Derived.Test.YtgmgjblekejgnaaReg
import Derived.Test.YtgmgjblekejgnaaDescFrame
import Derived.Test.YtgmgjblekejgnaaRows
namespace Go.Proofs.Ytgmgjblekejgnaa
set_option linter.unusedVariables false
set_option linter.unusedSimpArgs false
open Go.RowKit

theorem size_alloc'' (w : World) (o : Obj) : (w.alloc o).heap.size = w.heap.size + 1 := by simp
theorem desc0_back (L : Nat) (hL : L ≤ 2) (k s : Bool) : (desc0 L k s).toNat / 4 % 16 = 0 ∧ (desc0 L k s).toNat % 4 = L ∧ decide (128 ≤ (desc0 L k s).toNat) = k ∧ decide ((desc0 L k s).toNat / 64 % 2 = 1) = s := by
  have : L = 0 ∨ L = 1 ∨ L = 2 := by omega
  rcases this with rfl | rfl | rfl <;> cases k <;> cases s <;> decide
theorem desc_turn (L : Nat) (hL : L ≤ 2) (k s : Bool) (f : Nat) (hf : f ≤ 65535) (l : List UInt8) :
    dE (descL L k s f ++ l) = 0 ∧ dL (descL L k s f ++ l) = L ∧ dK (descL L k s f ++ l) = k ∧ dS (descL L k s f ++ l) = s ∧ dF (descL L k s f ++ l) = f := by
  obtain ⟨h1, h2, h3, h4⟩ := desc0_back L hL k s
  have e0 : (descL L k s f ++ l)[0]?.getD 0 = desc0 L k s := by simp [descL]
  have e1 : (descL L k s f ++ l)[1]?.getD 0 = 90 := by simp [descL]
  have hlen : 4 ≤ (descL L k s f ++ l).length := by rw [List.length_append, descL_length]; omega
  have hE : dE (descL L k s f ++ l) = 0 := by
    unfold dE
    rw [if_neg (by omega), e0, e1, if_neg]
    rintro (h | h | h)
    · exact h h1
    · omega
    · exact h rfl
  have ho : dOk (descL L k s f ++ l) = true := by unfold dOk; rw [hE]; rfl
  refine ⟨hE, ?_, ?_, ?_, ?_⟩
  · simp only [dL, ho, if_true, e0]; exact h2
  · simp only [dK, ho, Bool.true_and, e0]; exact h3
  · simp only [dS, ho, Bool.true_and, e0]; exact h4
  · simp only [dF, ho, if_true]
    unfold getN
    rw [if_pos (by rw [withinB_iff]; omega)]
    have : part (descL L k s f ++ l) (2 : Int).toNat (2 : Int).toNat = enc 2 f := by
      show ((descL L k s f ++ l).drop 2).take 2 = _
      unfold descL
      simp [enc]
    rw [this, beN_enc]
    show f < 256 ^ 2
    omega

set_option maxHeartbeats 1000000 in
theorem descTurn_no (L : Int) (k s : Bool) (f : Int) (X : Option Addr) (n c : Nat) (l : List UInt8) (w : World) (h : mayD L = false) (hf0 : 0 ≤ f) (hf1 : f ≤ 65535) :
    Calls Try.prog 9 #[.agg #[.int .i64 L, .bool k, .bool s, .int .u16 f], .slice X n c] w fun e w' => e = .returned (.bool true) ∧ Below w.heap.size w w' := by
  have H := Lib.hid h
  clear h
  go_enter Try.func9, Try.ntmps9
  go_wp2_with (first
    | (go_at_call 20; (with_reducible refine (shown4_any _).mono ?_); rintro e w1 ⟨rfl, hb1⟩; have d1 := (hb1.block w.heap.size (by simp)).trans (heap_alloc_new w _); obtain ⟨a0, a1, a2, a3⟩ := row4_cells d1; have hbw := ((Below.refl w.heap.size w).alloc (Nat.le_refl _) _).trans (hb1.mono (by simp)); have s1 := hb1.size; rw [size_alloc''] at s1)
    | (go_at_call 25; (with_reducible refine (dput_no L k s f _ H.out).mono ?_); rintro e w2 ⟨rfl, hb2⟩; have d2 := (hb2.block w.heap.size (by omega)).trans d1; obtain ⟨a0, a1, a2, a3⟩ := row4_cells d2; have s2 := hb2.size; have hbw := hbw.trans (hb2.mono (by omega)))
    | (go_at_call 23; (with_reducible refine (dmay_any _ _ _ _ _).mono ?_); rintro e w3 ⟨rfl, hb3⟩; rw [H.out]; have hbw := hbw.trans (hb3.mono (by omega))))
  go_ret
  exact ⟨rfl, hbw⟩
set_option maxHeartbeats 1000000 in
theorem descTurn_yes (L : Nat) (k s : Bool) (f : Nat) (X : Option Addr) (n c : Nat) (l : List UInt8) (w : World) (hL : L ≤ 2) (hf : f ≤ 65535) (hn : l.length = n) (hb0 : n ≤ 140737488351232) (hr : Rd w X (bys l)) :
    Calls Try.prog 9 #[.agg #[.int .i64 L, .bool k, .bool s, .int .u16 f], .slice X n c] w fun e w' => e = .returned (.bool true) ∧ Below w.heap.size w w' := by
  have H : Hid (mayD L = true) := by simp [Hid, mayD]; omega
  have hdl := descL_length L k s f
  obtain ⟨T1, T2, T3, T4, T5⟩ := desc_turn L hL k s f hf l
  have HT1 := Lib.hid T1
  have HT2 := Lib.hid T2
  have HT3 := Lib.hid T3
  have HT4 := Lib.hid T4
  have HT5 := Lib.hid T5
  clear T1 T2 T3 T4 T5
  go_enter Try.func9, Try.ntmps9
  go_wp2_with (first
    | (go_at_call 20; (with_reducible refine (shown4_any _).mono ?_); rintro e w1 ⟨rfl, hb1⟩; have d1 := (hb1.block w.heap.size (by simp)).trans (heap_alloc_new w _); obtain ⟨a0, a1, a2, a3⟩ := row4_cells d1; have hbw := ((Below.refl w.heap.size w).alloc (Nat.le_refl _) _).trans (hb1.mono (by simp)); have s1 := hb1.size; rw [size_alloc''] at s1)
    | (go_at_call 25; (with_reducible refine (dput_yes L k s f _ hL hf).mono ?_); rintro e w2 ⟨A2, c2, rfl, ho2, hb2⟩; have d2 := (hb2.block w.heap.size (by omega)).trans d1; obtain ⟨a0, a1, a2, a3⟩ := row4_cells d2; have s2 := hb2.size; have hbw := hbw.trans (hb2.mono (by omega)))
    | (go_at_call 23; (with_reducible refine (dmay_any _ _ _ _ _).mono ?_); rintro e w3 ⟨rfl, hb3⟩; rw [H.out]; have d3 := (hb3.block w.heap.size (by omega)).trans d2; obtain ⟨a0, a1, a2, a3⟩ := row4_cells d3; have s3 := hb3.size; have ho3 := ho2.kept (own_below hb3) (own_none _); have hbw := hbw.trans (hb3.mono (by omega)); have hr3 := hr.below hbw)
    | (at_builtin; refine wpList_app slU8 rfl _ _ rfl w3.heap.size none 0 0 [] rfl (World.ownsRow_nil _ _ _ _) A2 4 c2 (bys (descL L k s f)) rfl (by rw [bys_length, hdl]) (Rd.own ho3) (bys_one _) (by omega) (Nat.le_refl _) ?_; intro A4 c4 w4 ho4 hg4 hA4; simp only [Nat.zero_add, List.nil_append] at ho4; have hb4 := (Below.refl w3.heap.size w3).grown hg4 (Nat.le_refl _) (by simp); have s4 := hb4.size; have d4 := (hb4.block w.heap.size (by omega)).trans d3; have hbw := hbw.trans (hb4.mono (by omega)); have hr4 := hr.below hbw)
    | (at_builtin; refine wpList_app slU8 rfl _ _ rfl w3.heap.size A4 4 c4 (bys (descL L k s f)) rfl ho4 X n c (bys l) rfl (by rw [bys_length, Nat.mul_one]; exact hn) hr4 (bys_one l) (by omega) (by omega) ?_; intro A6 c6 w6 ho6 hg6 hA6; rw [bys_append] at ho6; have hb6 := hb4.grown hg6 (by omega) (own_from ho4); have s6 := hb6.size; have d6 := (hb6.block w.heap.size (by omega)).trans d3; have hbw := (hbw.mono (Nat.le_refl _)).grown hg6 (by omega) (fun q hq => by have := own_from ho4 q hq; omega); obtain ⟨o1, o2⟩ := own_cap ho6)
    | (go_at_call 21; (with_reducible refine (dget_agg A6 (4 + n) c6 (descL L k s f ++ l) _ (by rw [List.length_append, hdl, hn]) o1 o2 (Rd.own ho6)).mono ?_); rintro e w7 ⟨rfl, hb7⟩; rw [HT1.out, HT2.out, HT3.out, HT4.out, HT5.out]; have s7 := hb7.size; have d7 := (hb7.block w.heap.size (by omega)).trans d6; have hbw := hbw.trans (hb7.mono (by omega)); have d8 := fun o => row4_cells (((Below.refl w7.heap.size w7).alloc (Nat.le_refl _) o).block w.heap.size (by omega) |>.trans d7); have e0 := fun o => (d8 o).1; have e1 := fun o => (d8 o).2.1; have e2 := fun o => (d8 o).2.2.1; have e3 := fun o => (d8 o).2.2.2; clear d8))
  go_ret
  exact ⟨rfl, hbw.alloc hbw.size _⟩
theorem descTurn_walk (L : Int) (k s : Bool) (f : Int) (X : Option Addr) (n c : Nat) (l : List UInt8) (w : World)
    (h0a : (-9223372036854775808 ≤ L ∧ L ≤ 9223372036854775807) ∧ (0 ≤ f ∧ f ≤ 65535))
    (hn : l.length = n) (hnc : n ≤ c) (hcm : c ≤ maxLen) (hb0 : n ≤ 140737488351232) (hX : X = none → n = 0 ∧ c = 0) (hr : Rd w X (bys l)) :
    Calls Try.prog 9 #[.agg #[.int .i64 L, .bool k, .bool s, .int .u16 f], .slice X n c] w fun e w' => e = .returned (.bool true) ∧ Below w.heap.size w w' := by
  obtain ⟨_, hf0, hf1⟩ := h0a
  cases h : mayD L
  · exact descTurn_no L k s f X n c l w h hf0 hf1
  · simp [mayD] at h
    obtain ⟨L, rfl⟩ := Int.eq_ofNat_of_zero_le h.1
    obtain ⟨f, rfl⟩ := Int.eq_ofNat_of_zero_le hf0
    exact descTurn_yes L k s f X n c l w (by omega) (by omega) hn hb0 hr
namespace descTurn
open Go.ChangeShapes Go.WideShapes Go.ChangeAt Go.RowKit
open Go.ChangeMaps (open_string shut_string)
set_option linter.unusedVariables false

theorem own : ownKnob Try.prog.godebug = none := by kernel_rfl
theorem laidOut : laidOutB Try.prog = true := by kernel_rfl

set_option maxRecDepth 100000 in
theorem lifted (os : Os) (started : os.Started) (H : Type) (enc : TypeId × Value → H) :
    ReturnsInHanded {} Try.checked os 9 .any (Rows.descTurnSpec.pre6 enc Try.prog Try.f9 Rows.descTurnRow.domain false) (Rows.descTurnSpec.post enc Try.prog Try.f9 false true false false) := by
  refine returnsInHanded_of_change_sized (C := Try.checked) own started (by kernel_rfl) Try.func9
    (ChangeSpec.witness6 (enc := enc) (C := Try.checked) false ⟨#[], #[.agg #[.int .i64 0, .bool false, .bool false, .int .u16 0], .slice none 0 0], []⟩ 8 (by kernel_rfl) (by kernel_rfl) (by kernel_rfl) (by kernel_rfl)) ?_
  intro W base args ds gs before hval0 hW hcnd hsz0 _
  have hsz : (DataW.weightsEach Try.prog (Try.f9.params.toList ++ Rows.descTurnSpec.plain.varTypes Try.prog) (ds ++ gs)).all (· ≤ reachBytes) = true := hsz0
  have hval : ∀ (j : Nat) t v, Try.f9.params[j]? = some t → args[j]? = some v → Value.okWide Try.prog W .any base t v := hval0
  have hW' := hW
  obtain ⟨p, q, hA0, hV, rfl, hfz, hnd⟩ := hW
  have hA : DataW.TrodAll enc Try.prog W 0 (fun _ => true) true Try.f9.params.toList args.toList ds p := hA0
  rw [Try.params9] at hA hval hsz
  obtain ⟨v0, vs0, d0, ds0, p0, q0, hargs, rfl, rfl, h0, r0⟩ := trodAll_cons hA
  obtain ⟨v1, vs1, d1, ds1, p1, q1, rfl, rfl, rfl, h1, r1⟩ := trodAll_cons r0
  obtain ⟨rfl, rfl, rfl⟩ := trodAll_nil r1
  obtain rfl : args = #[v0, v1] := by cases args; simp_all
  obtain ⟨rfl, rfl⟩ := trodVars_none hV
  obtain ⟨L0, k0, s0, f0, rfl, rfl, rfl, wL0, wf0⟩ := open_desc (hval 0 40 v0 rfl rfl) h0
  obtain ⟨a1, len1, cap1, rfl⟩ := okWide_slice Try.underlying22 (hval 1 22 v1 rfl rfl)
  have k1 := h1
  have lt1 : ∀ x ∈ p1, x.block < W.heap.size := by obtain ⟨m, hm⟩ := k1; exact DataW.trod_lt m _ _ _ hm
  obtain ⟨l1, n1, nc1, cm1, nl1, rd1, hl1⟩ : ∃ l : List UInt8, l.length = len1 ∧ len1 ≤ cap1 ∧ cap1 ≤ maxLen ∧ (a1 = none → len1 = 0 ∧ cap1 = 0) ∧ Rd W a1 (bys l) ∧ (len1 = 0 ∨ ∃ es sp, d1 = .slice es sp ∧ es.length = len1) := by
    obtain ⟨fuel, hf⟩ := h1
    exact open_byte_slice Try.underlying22 Try.underlying5 (by kernel_rfl) hf
  have hb1 : len1 * 1 ≤ 140737488351232 := reach_slice hsz (j := 1) rfl rfl Try.underlying22 (by kernel_rfl) hl1
  rw [Nat.mul_one] at hb1
  clear hA0 hval0 hsz0
  refine (descTurn_walk L0 k0 s0 f0 a1 len1 cap1 l1 W ⟨bounds_i64 wL0, bounds_u16 wf0⟩ n1 nc1 cm1 hb1 nl1 rd1).mono fun e W' ⟨he, bel⟩ => ?_
  subst he
  exact ⟨_, rfl, _, _, _, [], _, [], hW', trodAll_mk1 (shut_bool Try.underlying4 _), (trodAll_cons_mk (shut_desc wL0 wf0) (trodAll_cons_mk (Below.trod laidOut (by kernel_rfl) (of_decide_eq_true (by kernel_rfl)) k1 bel lt1) trodAll_mk0)), rfl, bel.frame _, fun h => by cases h⟩

/-- The statement. -/
theorem proved : Rows.DescTurnSaid :=
  OpenClaim.holds_of_wide 9 Try.f9 rfl rfl rfl rfl rfl rfl rfl ⟨rfl, rfl, rfl, rfl, rfl⟩ rfl rfl rfl rfl rfl (by kernel_rfl) Try.func9 (by kernel_rfl)
    (of_decide_eq_true (by kernel_rfl)) (by unfold Func.isWrapper; rw [if_neg (of_decide_eq_false (by kernel_rfl))]; exact ⟨rfl, rfl⟩)
    (fun os started H enc _ => lifted os started H enc)
#print axioms proved
end descTurn
end Go.Proofs.Ytgmgjblekejgnaa
