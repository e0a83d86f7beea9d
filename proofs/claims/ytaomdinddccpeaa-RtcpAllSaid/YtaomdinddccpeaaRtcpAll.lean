/-
RtcpAll: Put, Size, and May of each item tell what the reference tells. For all items.
-/
import Derived.Test.YtaomdinddccpeaaRcV
import Derived.Test.YtaomdinddccpeaaItsFrame
import Derived.Test.YtaomdinddccpeaaRows
namespace Go.Proofs.Ytaomdinddccpeaa
set_option linter.unusedVariables false
set_option linter.unusedSimpArgs false
open Go Go.RowKit

namespace rtcpAll
set_option maxRecDepth 20000 in
set_option maxHeartbeats 8000000 in
theorem rtcpAll_walk (A : Option Addr) (n c : Nat) (xs : List Sl) (w : World) (h : Its w A n c xs) (hn0 : n * 120 ≤ 140737488351232) :
    Calls Try.prog 8 #[.slice A n c] w fun e w' => e = .returned (.bool true) ∧ Below w.heap.size w w' := by
  have hn : n ≤ 140737488351232 := by omega
  have HI := Lib.hid h
  have m1 := h.nc
  have m2 := h.cm
  unfold maxLen at m2
  have HL := Lib.hid h.len
  obtain ⟨b, h1⟩ : ∃ b, putsL (itm xs) = b := ⟨_, rfl⟩
  obtain ⟨Z, h2⟩ : ∃ x : Int, x = (putsE (itm xs) : Nat) := ⟨_, rfl⟩
  obtain ⟨m, h3⟩ : ∃ m, b.length = m := ⟨_, rfl⟩
  obtain ⟨S, h4⟩ : ∃ x : Int, x = (sizG (itm xs) : Nat) := ⟨_, rfl⟩
  have HP := Lib.hid (And.intro h2 (And.intro h1 h3))
  have HS := Lib.hid h4
  clear h hn0 h1 h2 h3 h4
  go_enter Try.func8, Try.ntmps8
  go_wp2_with (first
    | (go_at_call 29; ((with_reducible refine (shown9_any _).mono ?_); rintro e w1 ⟨rfl, hb1⟩))
    | (go_at_call 30; ((with_reducible refine (rcput_v A n c xs _ (HI.out.below hb1) hn b Z m HP.out.1 HP.out.2.1 HP.out.2.2).mono ?_); rintro e w2 ⟨B, c2, rfl, ho2, hb2⟩; have hw2 := hb1.trans (hb2.mono hb1.size)))
    | (go_at_call 31; ((with_reducible refine (rputI_v A n c xs _ (HI.out.below hw2) hn b Z m HP.out.1 HP.out.2.1 HP.out.2.2).mono ?_); rintro e w3 ⟨C, c3, rfl, ho3, hb3⟩; have hw3 := Lib.hid (hw2.trans (hb3.mono hw2.size)); have HO2 := Lib.hid (ho2.kept (own_below hb3) (own_none _)); have HO3 := Lib.hid ho3; clear ho2 ho3)))
  go_loopw [23] (fun ix wr => ∃ k : Nat, ix = .int .i64 k ∧ k ≤ n ∧ Hid (Below w3.heap.size w3 wr)) (fun ix _ => n - (intOf ix).toNat)
  case atStart => exact ⟨0, rfl, Nat.zero_le _, Below.refl _ _⟩
  case round =>
    obtain ⟨k, rfl, hkn, HBR⟩ := hrel
    have HWR := Lib.hid (hw3.out.trans (HBR.out.mono hw3.out.size))
    by_cases hlt : k < n
    · have hk : k < xs.length := by rw [HL.out]; exact hlt
      obtain ⟨ad, rfl, a0, a1, a2, a3, a4, a5, a6, a7, a8, a9⟩ := rd_sl (HI.out.below HWR.out).rd hk
      have HX := Lib.hid ((HI.out.below HWR.out).rows _ (List.getElem_mem hk))
      generalize xs[k] = x at *
      have HXL : Hid (x.i.go.length = x.gn ∧ x.i.pr.length = x.pn) := ⟨by have := HX.out.rg.len; rw [u32s_length] at this; omega, by have := HX.out.rp.len; rw [rowP_length] at this; omega⟩
      go_wp2
      refine region_planA (calmB_sound _) (.fork [0] (.leaf [2, 1, 3, 4]) (.leaf [1, 2, 3, 4])) (by kernel_rfl) (by kernel_rfl) (by kernel_rfl) ?_
      have HA0 := Lib.hid (((Below.refl wr.heap.size wr).alloc (Nat.le_refl _) (.cells #[.int .i64 x.i.k, .int .u32 x.i.s, .int .u64 x.i.ntp, .int .u32 x.i.tm, .int .u32 x.i.pk, .int .u32 x.i.oc, .slice x.A x.n x.c, .slice x.G x.gn x.gc, .int .u32 x.i.me, .slice x.P x.pn x.pc] 64)).drew)
      have HAX : Hid ((wr.alloc (.cells #[.int .i64 x.i.k, .int .u32 x.i.s, .int .u64 x.i.ntp, .int .u32 x.i.tm, .int .u32 x.i.pk, .int .u32 x.i.oc, .slice x.A x.n x.c, .slice x.G x.gn x.gc, .int .u32 x.i.me, .slice x.P x.pn x.pc] 64)).drew.heap[wr.heap.size]? = some (.cells #[.int .i64 x.i.k, .int .u32 x.i.s, .int .u64 x.i.ntp, .int .u32 x.i.tm, .int .u32 x.i.pk, .int .u32 x.i.oc, .slice x.A x.n x.c, .slice x.G x.gn x.gc, .int .u32 x.i.me, .slice x.P x.pn x.pc] 64)) := blk_alloc wr (.cells #[.int .i64 x.i.k, .int .u32 x.i.s, .int .u64 x.i.ntp, .int .u32 x.i.tm, .int .u32 x.i.pk, .int .u32 x.i.oc, .slice x.A x.n x.c, .slice x.G x.gn x.gc, .int .u32 x.i.me, .slice x.P x.pn x.pc] 64)
      generalize (wr.alloc (.cells #[.int .i64 x.i.k, .int .u32 x.i.s, .int .u64 x.i.ntp, .int .u32 x.i.tm, .int .u32 x.i.pk, .int .u32 x.i.oc, .slice x.A x.n x.c, .slice x.G x.gn x.gc, .int .u32 x.i.me, .slice x.P x.pn x.pc] 64)).drew = w9 at *
      obtain ⟨x0, x1, x2, x3, x4, x5, x6, x7, x8, x9⟩ := ten_cells HAX.out
      refine wpPlan_fork fun P1 hP1 => ?_
      simp only [List.filterMap_cons, List.filterMap_nil, List.getElem?_toArray, List.getElem?_cons_succ, List.getElem?_cons_zero]
      change wpList _ _ _ [_] _ _
      go_wp2
      refine hP1 _ _ ?_ ?_
      · refine wpPlan_leaf fun P2 hP2 => ?_
        simp only [List.filterMap_cons, List.filterMap_nil, List.getElem?_toArray, List.getElem?_cons_succ, List.getElem?_cons_zero]
        change wpList _ _ _ [_, _, _, _] _ _
        go_wp2_with (first | (go_at_call 32; (fail_if_success have := HA1); ((with_reducible refine (rcmay_any x.i x.A x.n x.c x.G x.gn x.gc x.P x.pn x.pc _ (HX.out.ra.below HA0.out) (HX.out.rg.below HA0.out) (HX.out.rp.below HA0.out)).mono ?_); rintro e w4 ⟨rfl, hb4⟩; have HA1 := Lib.hid (HA0.out.trans (hb4.mono HA0.out.size)); obtain ⟨x0, x1, x2, x3, x4, x5, x6, x7, x8, x9⟩ := ten_cells (blk_below HAX.out hb4))) | (go_at_call 32; ((with_reducible refine (rcmay_any x.i x.A x.n x.c x.G x.gn x.gc x.P x.pn x.pc _ (HX.out.ra.below HA1.out) (HX.out.rg.below HA1.out) (HX.out.rp.below HA1.out)).mono ?_); rintro e w5 ⟨rfl, hb5⟩; have HA2 := Lib.hid (HA1.out.trans (hb5.mono HA1.out.size)))) | (go_at_call 33; (fail_if_success have := HA1); ((with_reducible refine (rmayI_any x.i x.A x.n x.c x.G x.gn x.gc x.P x.pn x.pc _ (HX.out.ra.below HA0.out) HXL.out.1 HXL.out.2).mono ?_); rintro e w4 ⟨rfl, hb4⟩; have HA1 := Lib.hid (HA0.out.trans (hb4.mono HA0.out.size)); obtain ⟨x0, x1, x2, x3, x4, x5, x6, x7, x8, x9⟩ := ten_cells (blk_below HAX.out hb4))) | (go_at_call 33; ((with_reducible refine (rmayI_any x.i x.A x.n x.c x.G x.gn x.gc x.P x.pn x.pc _ (HX.out.ra.below HA1.out) HXL.out.1 HXL.out.2).mono ?_); rintro e w5 ⟨rfl, hb5⟩; have HA2 := Lib.hid (HA1.out.trans (hb5.mono HA1.out.size)))))
        go_wp2
        exact ⟨⟨k + 1, rfl, by omega, HBR.out.trans (HA2.out.mono HBR.out.size)⟩, by simp [intOf]; omega⟩
      · refine wpPlan_leaf fun P3 hP3 => ?_
        simp only [List.filterMap_cons, List.filterMap_nil, List.getElem?_toArray, List.getElem?_cons_succ, List.getElem?_cons_zero]
        change wpList _ _ _ [_, _, _, _] _ _
        go_wp2_with (first | (go_at_call 32; (fail_if_success have := HA1); ((with_reducible refine (rcmay_any x.i x.A x.n x.c x.G x.gn x.gc x.P x.pn x.pc _ (HX.out.ra.below HA0.out) (HX.out.rg.below HA0.out) (HX.out.rp.below HA0.out)).mono ?_); rintro e w4 ⟨rfl, hb4⟩; have HA1 := Lib.hid (HA0.out.trans (hb4.mono HA0.out.size)); obtain ⟨x0, x1, x2, x3, x4, x5, x6, x7, x8, x9⟩ := ten_cells (blk_below HAX.out hb4))) | (go_at_call 32; ((with_reducible refine (rcmay_any x.i x.A x.n x.c x.G x.gn x.gc x.P x.pn x.pc _ (HX.out.ra.below HA1.out) (HX.out.rg.below HA1.out) (HX.out.rp.below HA1.out)).mono ?_); rintro e w5 ⟨rfl, hb5⟩; have HA2 := Lib.hid (HA1.out.trans (hb5.mono HA1.out.size)))) | (go_at_call 33; (fail_if_success have := HA1); ((with_reducible refine (rmayI_any x.i x.A x.n x.c x.G x.gn x.gc x.P x.pn x.pc _ (HX.out.ra.below HA0.out) HXL.out.1 HXL.out.2).mono ?_); rintro e w4 ⟨rfl, hb4⟩; have HA1 := Lib.hid (HA0.out.trans (hb4.mono HA0.out.size)); obtain ⟨x0, x1, x2, x3, x4, x5, x6, x7, x8, x9⟩ := ten_cells (blk_below HAX.out hb4))) | (go_at_call 33; ((with_reducible refine (rmayI_any x.i x.A x.n x.c x.G x.gn x.gc x.P x.pn x.pc _ (HX.out.ra.below HA1.out) HXL.out.1 HXL.out.2).mono ?_); rintro e w5 ⟨rfl, hb5⟩; have HA2 := Lib.hid (HA1.out.trans (hb5.mono HA1.out.size)))))
        go_wp2
        exact ⟨⟨k + 1, rfl, by omega, HBR.out.trans (HA2.out.mono HBR.out.size)⟩, by simp [intOf]; omega⟩
    · have k1 := cv_own (HO2.out.kept (own_below HBR.out) (own_none _))
      have k2 := cv_own (HO3.out.kept (own_below HBR.out) (own_none _))
      go_wp2_with (first
        | (go_at_call 34; ((with_reducible refine (rcsizes_v A n c xs _ (HI.out.below HWR.out) hn S HS.out).mono ?_); rintro e w5 ⟨rfl, hb5⟩; have hw5 := HWR.out.trans (hb5.mono HWR.out.size)))
        | (go_at_call 35; ((with_reducible refine (rsizeI_v A n c xs _ (HI.out.below hw5) hn S HS.out).mono ?_); rintro e w6 ⟨rfl, hb6⟩)))
      go_ret
      exact ⟨by simp, hw5.trans (hb6.mono hw5.size)⟩
end rtcpAll
namespace rtcpAll
open Go.ChangeShapes Go.WideShapes Go.ChangeAt Go.RowKit
open Go.ChangeMaps (open_string shut_string)
set_option linter.unusedVariables false

theorem own : ownKnob Try.prog.godebug = none := by kernel_rfl
theorem laidOut : laidOutB Try.prog = true := by kernel_rfl

set_option maxRecDepth 100000 in
theorem lifted (os : Os) (started : os.Started) (H : Type) (enc : TypeId × Value → H) :
    ReturnsInHanded {} Try.checked os 8 .any (Rows.rtcpAllSpec.pre6 enc Try.prog Try.f8 Rows.rtcpAllRow.domain false) (Rows.rtcpAllSpec.post enc Try.prog Try.f8 false true false false) := by
  refine returnsInHanded_of_change_sized (C := Try.checked) own started (by kernel_rfl) Try.func8
    (ChangeSpec.witness6 (enc := enc) (C := Try.checked) false ⟨#[], #[.slice none 0 0], []⟩ 8 (by kernel_rfl) (by kernel_rfl) (by kernel_rfl) (by kernel_rfl)) ?_
  intro W base args ds gs before hval0 hW hcnd hsz0 _
  have hsz : (DataW.weightsEach Try.prog (Try.f8.params.toList ++ Rows.rtcpAllSpec.plain.varTypes Try.prog) (ds ++ gs)).all (· ≤ reachBytes) = true := hsz0
  have hval : ∀ (j : Nat) t v, Try.f8.params[j]? = some t → args[j]? = some v → Value.okWide Try.prog W .any base t v := hval0
  have hW' := hW
  obtain ⟨p, q, hA0, hV, rfl, hfz, hnd⟩ := hW
  have hA : DataW.TrodAll enc Try.prog W 0 (fun _ => true) true Try.f8.params.toList args.toList ds p := hA0
  rw [Try.params8] at hA hval hsz
  obtain ⟨v0, vs0, d0, ds0, p0, q0, hargs, rfl, rfl, h0, r0⟩ := trodAll_cons hA
  obtain ⟨rfl, rfl, rfl⟩ := trodAll_nil r0
  obtain rfl : args = #[v0] := by cases args; simp_all
  obtain ⟨rfl, rfl⟩ := trodVars_none hV
  obtain ⟨a0, len0, cap0, rfl⟩ := okWide_slice Try.underlying58 (hval 0 58 v0 rfl rfl)
  have k0 := h0
  have lt0 : ∀ x ∈ p0, x.block < W.heap.size := by obtain ⟨m, hm⟩ := k0; exact DataW.trod_lt m _ _ _ hm
  obtain ⟨xs0, it0⟩ : ∃ xs, Its W a0 len0 cap0 xs := by obtain ⟨fuel, hf⟩ := h0; exact open_items hf
  have hl0 : len0 = 0 ∨ ∃ es sp, d0 = .slice es sp ∧ es.length = len0 := by obtain ⟨fuel, hf⟩ := h0; exact slice_len Try.underlying58 hf
  have hb0 : len0 * 120 ≤ 140737488351232 := reach_slice hsz (j := 0) rfl rfl Try.underlying58 (by kernel_rfl) hl0
  clear hA0 hval0 hsz0
  refine (rtcpAll_walk a0 len0 cap0 xs0 W it0 hb0).mono fun e W' ⟨he, bel⟩ => ?_
  subst he
  exact ⟨_, rfl, _, _, _, [], _, [], hW', trodAll_mk1 (shut_bool Try.underlying4 _), (trodAll_cons_mk (Below.trod laidOut (by kernel_rfl) (of_decide_eq_true (by kernel_rfl)) k0 bel lt0) trodAll_mk0), rfl, bel.frame _, fun h => by cases h⟩

/-- The statement. -/
theorem proved : Rows.RtcpAllSaid :=
  OpenClaim.holds_of_wide 8 Try.f8 rfl rfl rfl rfl rfl rfl rfl ⟨rfl, rfl, rfl, rfl, rfl⟩ rfl rfl rfl rfl rfl (by kernel_rfl) Try.func8 (by kernel_rfl)
    (of_decide_eq_true (by kernel_rfl)) (by unfold Func.isWrapper; rw [if_neg (of_decide_eq_false (by kernel_rfl))]; exact ⟨rfl, rfl⟩)
    (fun os started H enc _ => lifted os started H enc)
#print axioms proved
end rtcpAll
end Go.Proofs.Ytaomdinddccpeaa
