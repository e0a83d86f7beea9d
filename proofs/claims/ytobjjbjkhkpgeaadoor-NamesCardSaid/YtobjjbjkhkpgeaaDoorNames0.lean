/-
Names: the names of package api have the document's numbers. A closed statement.
-/
import Derived.Test.YtobjjbjkhkpgeaaDoorRows
import Derived.Test.YtobjjbjkhkpgeaaDoorCards
import Derived.Test.YtobjjbjkhkpgeaaDoorTie
import Derived.WalkKit
import Derived.Lib.Hide
import Derived.WalkSpells
import Derived.WalkLawsBesides
import Derived.ProofKit
import Derived.LaidMore
import Derived.OpenShut
import Derived.Stop.Joined
import Derived.SevenTiedAt
import Derived.Deep.QuietTactic
import Derived.BigQuiet
namespace Go.Proofs.YtobjjbjkhkpgeaaDoor
set_option linter.unusedVariables false
set_option linter.unusedSimpArgs false
open Go Go.RowKit

/-- The numbers. -/
def wantL : List Int := [0, 1, 2, 3, 4, 5, 6, 7, 8, 9, 10, 11, 12, 512, 15, 15, 16, 15, 8, 3, 8, 8, 8, 64, 1024, 256, 64, 64, 256, 262144, 3000, 1, 3221225472, 200, 201, 203, 205, 206, 1, 2, 3, 4, 5, 6, 7, 8, 9, 10, 11, 12, 1, 2, 3, 4, 5, 6, 7, 8, 9, 1, 2, 3, 4, 5, 1, 2, 3, 4, 5, 1, 2, 3, 4, 5, 6, 1, 2, 0, 1, 2, 3, 4]
set_option maxRecDepth 20000 in
theorem small_any (w : World) : Calls Tryd.prog 8 #[.int .i64 12] w fun e w' => e = .returned (.string ⟨#[49, 50]⟩) ∧ w' = w := by
  go_enter Tryd.func8, Tryd.ntmps8
  go_wp2
  go_ret
  exact ⟨rfl, rfl⟩
set_option maxRecDepth 20000 in
theorem format_any (w : World) : Calls Tryd.prog 7 #[.int .i64 12, .int .i64 10] w fun e w' => e = .returned (.string ⟨#[49, 50]⟩) ∧ w' = w := by
  go_enter Tryd.func7, Tryd.ntmps7
  go_wp2_with (go_at_call 8; (with_reducible refine (small_any _).mono ?_); rintro e w1 ⟨rfl, rfl⟩)
  go_ret
  exact ⟨rfl, rfl⟩
theorem itoa1_any (w : World) : Calls Tryd.prog 6 #[.int .i64 12] w fun e w' => e = .returned (.string ⟨#[49, 50]⟩) ∧ w' = w := by
  go_enter Tryd.func6, Tryd.ntmps6
  go_wp2_with (go_at_call 7; (with_reducible refine (format_any _).mono ?_); rintro e w1 ⟨rfl, rfl⟩)
  go_ret
  exact ⟨rfl, rfl⟩
theorem itoa_any (w : World) : Calls Tryd.prog 5 #[.int .i64 12] w fun e w' => e = .returned (.string ⟨#[49, 50]⟩) ∧ w' = w := by
  go_enter Tryd.func5, Tryd.ntmps5
  go_wp2_with (go_at_call 6; (with_reducible refine (itoa1_any _).mono ?_); rintro e w1 ⟨rfl, rfl⟩)
  go_ret
  exact ⟨rfl, rfl⟩
def errS : ByteArray := ⟨#[115, 108, 117, 105, 99, 101, 103, 97, 116, 101, 58, 32, 101, 114, 114, 111, 114, 32, 49, 50]⟩
set_option maxRecDepth 20000 in
theorem error_any (w : World) : Calls Tryd.prog 4 #[.int .i64 12] w fun e w' => e = .returned (.string ⟨#[115, 108, 117, 105, 99, 101, 103, 97, 116, 101, 58, 32, 101, 114, 114, 111, 114, 32, 49, 50]⟩) ∧ w' = w := by
  go_enter Tryd.func4, Tryd.ntmps4
  go_wp2_with (go_at_call 5; (with_reducible refine (itoa_any _).mono ?_); rintro e w1 ⟨rfl, rfl⟩)
  go_ret
  exact ⟨rfl, rfl⟩
theorem below_drewN {B : Nat} {a w : World} (h : Below B a w) (n : Nat) : Below B a (w.drewN n) := ⟨h.os, h.tape, h.output, h.size, h.block⟩
theorem two_1 (w : World) (A1 A2 : Array Value) (t1 t2 : TypeId) (k : Nat) : ((w.alloc (.cells A1 t1)).alloc (.cells A2 t2)).cell? ⟨w.heap.size, k, none⟩ = A1[k]? :=
  cell_of_row _ _ _ _ _ _ ((((Below.refl _ _).alloc (Nat.le_refl _) (.cells A2 t2)).block _ (by simp)).trans (heap_alloc_new w (.cells A1 t1)))
theorem two_2 (w : World) (A1 A2 : Array Value) (t1 t2 : TypeId) (k : Nat) : ((w.alloc (.cells A1 t1)).alloc (.cells A2 t2)).cell? ⟨w.heap.size + 1, k, none⟩ = A2[k]? := by
  have h := heap_alloc_new (w.alloc (.cells A1 t1)) (.cells A2 t2)
  rw [show (w.alloc (.cells A1 t1)).heap.size = w.heap.size + 1 by simp] at h
  exact cell_of_row _ _ _ _ _ _ h
theorem want_at (A : Array Value) (hA : A = (wantL.map (Value.int .i64)).toArray) (k : Nat) (hk : k < 82) : A[k]? = some (.int .i64 (wantL.getD k 0)) := by
  subst hA
  have hl : wantL.length = 82 := rfl
  rw [List.getElem?_toArray, List.getElem?_map, List.getElem?_eq_getElem (by omega), Option.map_some, List.getD, List.getElem?_eq_getElem (by omega)]
  rfl
set_option maxRecDepth 40000 in
set_option maxHeartbeats 4000000 in
theorem names_any (w : World) : Calls Tryd.prog 3 #[] w fun e w' => e = .returned (.bool true) ∧ Below w.heap.size w w' := by
  go_enter Tryd.func3, Tryd.ntmps3
  go_wp2
  go_loopw [13] (fun ix wr => ∃ k : Nat, ix = .int .i64 k ∧ k ≤ 82 ∧ Below w.heap.size w wr ∧ (∀ k, k < 82 → wr.cell? ⟨w.heap.size, k, none⟩ = some (.int .i64 (wantL.getD k 0))) ∧ (∀ k, k < 82 → wr.cell? ⟨w.heap.size + 1, k, none⟩ = some (.int .i64 (wantL.getD k 0)))) (fun ix _ => 82 - (intOf ix).toNat)
  case atStart =>
    exact ⟨0, rfl, by omega, ((Below.refl _ _).alloc (Nat.le_refl _) _).alloc (by simp) _, fun k hk => (two_1 w _ _ _ _ k).trans (want_at _ rfl k hk), fun k hk => (two_2 w _ _ _ _ k).trans (want_at _ rfl k hk)⟩
  case round =>
    obtain ⟨k, rfl, hk, hb, h1, h2⟩ := hrel
    have H1 := Lib.hid h1
    have H2 := Lib.hid h2
    clear h1 h2
    by_cases hlt : k < 82
    · have a1 : ∀ j, (wr.drewN j).cell? ⟨w.heap.size, k, none⟩ = some (.int .i64 (wantL.getD k 0)) := fun j => H1.out k hlt
      have a2 : ∀ j, (wr.drewN j).cell? ⟨w.heap.size + 1, k, none⟩ = some (.int .i64 (wantL.getD k 0)) := fun j => H2.out k hlt
      generalize wantL.getD k 0 = z at *
      go_wp2
      go_quiet (fail)
      go_wp2
      exact ⟨⟨k + 1, rfl, by omega, below_drewN hb _, H1.out, H2.out⟩, by simp [intOf]; omega⟩
    · go_wp2_with (go_at_call 4; (with_reducible refine (error_any _).mono ?_); rintro e w1 ⟨rfl, rfl⟩)
      go_ret
      exact ⟨rfl, hb⟩
namespace names
open Go.ChangeShapes Go.WideShapes Go.ChangeAt Go.RowKit
theorem own : ownKnob Tryd.prog.godebug = none := by kernel_rfl
def laid3 : List (String × DataW Unit) := [("math/bits.deBruijn32tab", Rows.laid_math_bits_deBruijn32tab), ("math/bits.deBruijn64tab", Rows.laid_math_bits_deBruijn64tab), ("internal/strconv.uint64pow10", Rows.laid_internal_strconv_uint64pow10)]
/-- The door's own heap meets the condition: three closed facts. -/
theorem door_met (os : Os) (args : Array Value) : laidMetH Tryd.prog laid3 ((World.doorLaid Tryd.prog 400 os).forCall (fun _ _ => 0) ⟨#[], args, []⟩).memory :=
  laidMetH_of_parts3 (fuel := 8) (laidMet_of_run' 8 (by kernel_rfl) (by kernel_rfl)) (by kernel_rfl) (by kernel_rfl)
set_option maxRecDepth 100000 in
theorem lifted (os : Os) (started : os.Started) (H : Type) (enc : TypeId × Value → H) :
    ReturnsInHanded {} Tryd.checked os 3 .any (fun w args => (Rows.namesSpec.pre enc Tryd.prog Tryd.f3 [] false w args ∧ laidMetH Tryd.prog laid3 w) ∧ sizedMet enc Tryd.prog Tryd.f3 (OpenSpec.ofChange Rows.namesSpec) false w args)
      (Rows.namesSpec.post enc Tryd.prog Tryd.f3 false true false false) := by
  refine returnsInHanded_of_change_and (C := Tryd.checked) (X := fun w _ => laidMetH Tryd.prog laid3 w) (fun _ _ _ hh h => h.of_heap hh) own started (by kernel_rfl) Tryd.func3
    (ChangeSpec.witness_shaped (enc := enc) (C := Tryd.checked) (os := os) (X := fun w _ => laidMetH Tryd.prog laid3 w) false (World.doorLaid Tryd.prog 400 os) #[] 8 rfl (World.shaped_of_RefB (by kernel_rfl) (by kernel_rfl)) (by kernel_rfl) (by kernel_rfl) (by kernel_rfl) (door_met os _)) ?_
  intro W base args ds gs before hval0 hW _ _ hL _
  have hW' := hW
  obtain ⟨p, q, hA0, hV, rfl, hfz, hnd⟩ := hW
  have hA : DataW.TrodAll enc Tryd.prog W 0 (fun _ => true) true Tryd.f3.params.toList args.toList ds p := hA0
  rw [Tryd.params3] at hA
  obtain ⟨hargs, rfl, rfl⟩ := trodAll_nil hA
  obtain rfl : args = #[] := by cases args; simp_all
  obtain ⟨rfl, rfl⟩ := trodVars_none hV
  clear hA0 hval0
  refine (names_any W).mono fun e W' ⟨he, bel⟩ => ?_
  subst he
  exact ⟨_, rfl, _, _, _, [], _, [], hW', trodAll_mk1 (shut_bool Tryd.underlying4 _), trodAll_mk0, rfl, bel.frame _, fun h => by cases h⟩
theorem holds : Rows.NamesSaid :=
  OpenClaim.holds_of_wide 3 Tryd.f3 rfl rfl rfl rfl rfl rfl rfl ⟨rfl, rfl, rfl, rfl, rfl⟩ rfl rfl rfl rfl rfl (by kernel_rfl) Tryd.func3 (by kernel_rfl)
    (of_decide_eq_true (by kernel_rfl)) (by unfold Func.isWrapper; rw [if_neg (of_decide_eq_false (by kernel_rfl))]; exact ⟨rfl, rfl⟩)
    (fun os started H enc _ => lifted os started H enc)
/-- The card. -/
theorem proved : Rows.NamesCardSaid :=
  Claim7.holds_tied_plain_at .later [] [.data, .data, .data] true (true, "ee427cf01912ce9f7e4a71276d3ccd979827725006d4ed28c05c9d136e996186") false
    holds (fun _ h => by cases h) (by kernel_rfl) (fun _ h => by cases h) names_row_tie rfl ⟨rfl, rfl⟩ (by kernel_rfl) rfl
    (fun f fn hf hfn => by
      obtain rfl : f = 3 := Option.some.inj ((show Tryd.prog.funcNamed "sluicegate/sluicegatelaw0.Names" = some 3 by kernel_rfl).symm.trans hf) |>.symm
      obtain rfl : fn = Tryd.f3 := (Option.some.inj (Tryd.func3.symm.trans hfn)).symm
      exact ⟨by kernel_rfl, fun j t ht => by
        rw [Tryd.params3] at ht
        simp at ht⟩)
    (by kernel_rfl)
#print axioms proved
end names
end Go.Proofs.YtobjjbjkhkpgeaaDoor
