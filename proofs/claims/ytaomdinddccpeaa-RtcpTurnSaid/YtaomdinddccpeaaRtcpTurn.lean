/-
RtcpTurn: Get tells the items that Put was given, in Size bytes; if Put fails it says why. For all items.
-/
import Derived.Test.YtaomdinddccpeaaRcV
import Derived.Test.YtaomdinddccpeaaItsFrame
import Derived.Test.YtaomdinddccpeaaRows
namespace Go.Proofs.Ytaomdinddccpeaa
set_option linter.unusedVariables false
set_option linter.unusedSimpArgs false
open Go Go.RowKit

namespace rtcpTurn
set_option maxRecDepth 20000 in
set_option maxHeartbeats 8000000 in
theorem rtcpTurn_walk (A : Option Addr) (n c : Nat) (xs : List Sl) (w : World) (h : Its w A n c xs) (hn0 : n * 120 ≤ 140737488351232) :
    Calls Try.prog 10 #[.slice A n c] w fun e w' => e = .returned (.bool true) ∧ Below w.heap.size w w' := by
  have hn : n ≤ 140737488351232 := by omega
  have HI := Lib.hid h
  have HOK := Lib.hid (itm_ok h)
  clear h hn0
  rcases puts_cases (itm xs) with h0 | h1 | ⟨h5, hs⟩
  · obtain ⟨q1, q2, q3, q4, q5, q6⟩ := puts_ok h0
    obtain ⟨g1, g2⟩ := gets_puts h0 HOK.out
    obtain ⟨b, hb⟩ : ∃ b, putsL (itm xs) = b := ⟨_, rfl⟩
    obtain ⟨m, hm⟩ : ∃ m, b.length = m := ⟨_, rfl⟩
    rw [hb] at g1 g2 q5
    have hm5 : m ≤ 512 := by rw [← hm, q5]; exact q4
    have HP : Hid ((0 : Int) = (putsE (itm xs) : Nat) ∧ putsL (itm xs) = b ∧ b.length = m) := ⟨by rw [h0]; rfl, hb, hm⟩
    have HS : Hid ((m : Int) = (sizG (itm xs) : Nat)) := by show _ = _; rw [q6, ← q5, hm]
    have HG : Hid ((0 : Int) = (getsE b : Nat) ∧ getsL b = itm xs ∧ (itm xs).length = n) := ⟨by rw [g1]; rfl, g2, by rw [itm_len]; exact HI.out.len⟩
    clear h0 q1 q2 q3 q4 q5 q6 g1 g2 hb hm
    go_enter Try.func10, Try.ntmps10
    go_wp2_with (first
      | (go_at_call 29; ((with_reducible refine (shown9_any _).mono ?_); rintro e w1 ⟨rfl, hb1⟩))
      | (go_at_call 30; ((with_reducible refine (rcput_v A n c xs _ (HI.out.below hb1) hn b 0 m HP.out.1 HP.out.2.1 HP.out.2.2).mono ?_); rintro e w2 ⟨B, c2, rfl, ho2, hb2⟩; have hw2 := hb1.trans (hb2.mono hb1.size)))
      | (go_at_call 36; ((with_reducible refine (rcget_v B m c2 b _ (own_btsR ho2) (itm xs) 0 n HG.out.1 HG.out.2.1 HG.out.2.2).mono ?_); rintro e w3 ⟨A3, c3, ys, rfl, hi3, ho3, hb3⟩; have hw3 := hw2.trans (hb3.mono hw2.size)))
      | (go_at_call 38; ((with_reducible refine (sameIts_any A n c xs A3 n c3 ys _ (HI.out.below hw3) ho3.out.its hi3.out.symm).mono ?_); rintro e w4 ⟨rfl, hb4⟩; have hw4 := hw3.trans (hb4.mono hw3.size)))
      | (go_at_call 34; ((with_reducible refine (rcsizes_v A n c xs _ (HI.out.below hw4) hn (m : Int) HS.out).mono ?_); rintro e w5 ⟨rfl, hb5⟩)))
    go_ret
    exact ⟨by simp; omega, hw4.trans (hb5.mono hw4.size)⟩
  · have HP : Hid ((1 : Int) = (putsE (itm xs) : Nat) ∧ putsL (itm xs) = [] ∧ ([] : List UInt8).length = 0) := ⟨by rw [h1]; rfl, putsL_no (by rw [h1]; decide), rfl⟩
    clear h1
    go_enter Try.func10, Try.ntmps10
    go_wp2_with (first
      | (go_at_call 29; ((with_reducible refine (shown9_any _).mono ?_); rintro e w1 ⟨rfl, hb1⟩))
      | (go_at_call 30; ((with_reducible refine (rcput_v A n c xs _ (HI.out.below hb1) hn [] 1 0 HP.out.1 HP.out.2.1 HP.out.2.2).mono ?_); rintro e w2 ⟨B, c2, rfl, ho2, hb2⟩; have hw2 := hb1.trans (hb2.mono hb1.size))))
    go_ret
    exact ⟨by simp, hw2⟩
  · have HP : Hid ((5 : Int) = (putsE (itm xs) : Nat) ∧ putsL (itm xs) = [] ∧ ([] : List UInt8).length = 0) := ⟨by rw [h5]; rfl, putsL_no (by rw [h5]; decide), rfl⟩
    obtain ⟨S, hS⟩ : ∃ S, sizG (itm xs) = S := ⟨_, rfl⟩
    rw [hS] at hs
    have HS : Hid ((S : Int) = (sizG (itm xs) : Nat)) := by show _ = _; rw [hS]
    have hs5 : decide ((512 : Int) < (S : Int)) = true := by simp; omega
    clear h5 hS hs
    go_enter Try.func10, Try.ntmps10
    go_wp2_with (first
      | (go_at_call 29; ((with_reducible refine (shown9_any _).mono ?_); rintro e w1 ⟨rfl, hb1⟩))
      | (go_at_call 30; ((with_reducible refine (rcput_v A n c xs _ (HI.out.below hb1) hn [] 5 0 HP.out.1 HP.out.2.1 HP.out.2.2).mono ?_); rintro e w2 ⟨B, c2, rfl, ho2, hb2⟩; have hw2 := hb1.trans (hb2.mono hb1.size)))
      | (go_at_call 34; ((with_reducible refine (rcsizes_v A n c xs _ (HI.out.below hw2) hn (S : Int) HS.out).mono ?_); rintro e w5 ⟨rfl, hb5⟩)))
    go_ret
    exact ⟨by simp, hw2.trans (hb5.mono hw2.size)⟩
end rtcpTurn
namespace rtcpTurn
open Go.ChangeShapes Go.WideShapes Go.ChangeAt Go.RowKit
open Go.ChangeMaps (open_string shut_string)
set_option linter.unusedVariables false

theorem own : ownKnob Try.prog.godebug = none := by kernel_rfl
theorem laidOut : laidOutB Try.prog = true := by kernel_rfl

set_option maxRecDepth 100000 in
theorem lifted (os : Os) (started : os.Started) (H : Type) (enc : TypeId × Value → H) :
    ReturnsInHanded {} Try.checked os 10 .any (Rows.rtcpTurnSpec.pre6 enc Try.prog Try.f10 Rows.rtcpTurnRow.domain false) (Rows.rtcpTurnSpec.post enc Try.prog Try.f10 false true false false) := by
  refine returnsInHanded_of_change_sized (C := Try.checked) own started (by kernel_rfl) Try.func10
    (ChangeSpec.witness6 (enc := enc) (C := Try.checked) false ⟨#[], #[.slice none 0 0], []⟩ 8 (by kernel_rfl) (by kernel_rfl) (by kernel_rfl) (by kernel_rfl)) ?_
  intro W base args ds gs before hval0 hW hcnd hsz0 _
  have hsz : (DataW.weightsEach Try.prog (Try.f10.params.toList ++ Rows.rtcpTurnSpec.plain.varTypes Try.prog) (ds ++ gs)).all (· ≤ reachBytes) = true := hsz0
  have hval : ∀ (j : Nat) t v, Try.f10.params[j]? = some t → args[j]? = some v → Value.okWide Try.prog W .any base t v := hval0
  have hW' := hW
  obtain ⟨p, q, hA0, hV, rfl, hfz, hnd⟩ := hW
  have hA : DataW.TrodAll enc Try.prog W 0 (fun _ => true) true Try.f10.params.toList args.toList ds p := hA0
  rw [Try.params10] at hA hval hsz
  obtain ⟨v0, vs0, d0, ds0, p0, q0, hargs, rfl, rfl, h0, r0⟩ := trodAll_cons hA
  obtain ⟨rfl, rfl, rfl⟩ := trodAll_nil r0
  obtain rfl : args = #[v0] := by cases args; simp_all
  obtain ⟨rfl, rfl⟩ := trodVars_none hV
  obtain ⟨a0, len0, cap0, rfl⟩ := okWide_slice Try.underlying58 (hval 0 58 v0 rfl rfl)
  have k0 := h0
  have lt0 : ∀ x ∈ p0, x.block < W.heap.size := by obtain ⟨m, hm⟩ := k0; exact DataW.trod_lt m _ _ _ hm
  obtain ⟨xs0, it0⟩ : ∃ xs, Its W a0 len0 cap0 xs := by obtain ⟨fuel, hf⟩ := h0; exact open_items hf
  have hl0 : len0 = 0 ∨ ∃ es sp, d0 = .slice es sp ∧ es.length = len0 := by obtain ⟨fuel, hf⟩ := h0; exact slice_len Try.underlying58 hf
  have hb0 : len0 * 120 ≤ 140737488351232 := reach_slice hsz (j := 0) rfl rfl Try.underlying58 (by kernel_rfl) hl0
  clear hA0 hval0 hsz0
  refine (rtcpTurn_walk a0 len0 cap0 xs0 W it0 hb0).mono fun e W' ⟨he, bel⟩ => ?_
  subst he
  exact ⟨_, rfl, _, _, _, [], _, [], hW', trodAll_mk1 (shut_bool Try.underlying4 _), (trodAll_cons_mk (Below.trod laidOut (by kernel_rfl) (of_decide_eq_true (by kernel_rfl)) k0 bel lt0) trodAll_mk0), rfl, bel.frame _, fun h => by cases h⟩

/-- The statement. -/
theorem proved : Rows.RtcpTurnSaid :=
  OpenClaim.holds_of_wide 10 Try.f10 rfl rfl rfl rfl rfl rfl rfl ⟨rfl, rfl, rfl, rfl, rfl⟩ rfl rfl rfl rfl rfl (by kernel_rfl) Try.func10 (by kernel_rfl)
    (of_decide_eq_true (by kernel_rfl)) (by unfold Func.isWrapper; rw [if_neg (of_decide_eq_false (by kernel_rfl))]; exact ⟨rfl, rfl⟩)
    (fun os started H enc _ => lifted os started H enc)
#print axioms proved
end rtcpTurn
end Go.Proofs.Ytaomdinddccpeaa
