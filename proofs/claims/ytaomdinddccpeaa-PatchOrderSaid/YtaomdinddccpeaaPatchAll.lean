/-
PatchAll: Apply, Frame and Of tell what the reference tells, and leave the bytes that it leaves.
-/
import Derived.Test.YtaomdinddccpeaaPat10
import Derived.Test.YtaomdinddccpeaaFrame
import Derived.Test.YtaomdinddccpeaaPatFrame
import Derived.Test.YtaomdinddccpeaaRows
namespace Go.Proofs.Ytaomdinddccpeaa
set_option linter.unusedVariables false
set_option linter.unusedSimpArgs false
open Go Go.RowKit

theorem own_apart {w w' : World} {e e' : TypeId} {s s' b n c m d : Nat} {C D : Option Addr} {xs ys : List Value} (hC : w.ownsRow b e s (.slice C n c) n xs) (hD : w'.ownsRow w.heap.size e' s' (.slice D m d) m ys) :
    (Value.slice D m d).ownBlock = none ∨ (Value.slice D m d).ownBlock ≠ C.map Addr.block := by
  rw [ownBlock_slice]
  rcases hD' : D with _ | ad
  · exact .inl rfl
  · refine .inr fun h => ?_
    have h1 := own_from hD ad.block (by rw [hD']; rfl)
    have h2 := (hC.lt ad.block (by rw [ownBlock_slice]; exact h.symm)).2
    omega
theorem own_apart2 {w w' : World} {e e' : TypeId} {s s' b n c m d : Nat} {C D : Option Addr} {xs ys : List Value} (hC : w.ownsRow b e s (.slice C n c) n xs) (hD : w'.ownsRow w.heap.size e' s' (.slice D m d) m ys) :
    (Value.slice C n c).ownBlock = none ∨ (Value.slice C n c).ownBlock ≠ D.map Addr.block := by
  rw [ownBlock_slice]
  rcases hC' : C with _ | ad
  · exact .inl rfl
  · refine .inr fun h => ?_
    have h1 := own_from hD ad.block h.symm
    have h2 := (hC.lt ad.block (by rw [ownBlock_slice, hC']; rfl)).2
    omega
set_option maxRecDepth 20000 in
set_option maxHeartbeats 8000000 in
theorem patchAll_core (A : Option Addr) (n c : Nat) (l : List UInt8) (sq tm ss f : Nat) (k : Int) (fr : Nat) (w : World) (hB : Bts w A n c l) (hn : n ≤ 140737488351232) (hsq : sq < 65536) (htm : tm < 4294967296) (hss : ss < 4294967296) (hf : f < 65536) (hfr : fr < 65536) :
    Calls Try.prog 3 #[.slice A n c, .agg #[.int .u16 sq, .int .u32 tm, .int .u32 ss, .int .u16 f], .int .i64 k, .int .u16 fr] w fun e w' => e = .returned (.bool true) ∧ Below w.heap.size w w' := by
  have HB := Lib.hid hB
  clear hB
  go_enter Try.func3, Try.ntmps3
  go_wp2_with (first
    | (go_at_call 14; ((with_reducible refine (shown6_any _).mono ?_); rintro e w1 ⟨rfl, hb1⟩; have hx1 := blk_below (blk_alloc w (.cells #[.int .u16 sq, .int .u32 tm, .int .u32 ss, .int .u16 f] 26)) hb1; have hw1 := ((Below.refl w.heap.size w).alloc (Nat.le_refl _) (.cells #[.int .u16 sq, .int .u32 tm, .int .u32 ss, .int .u16 f] 26)).trans (hb1.mono (by simp))))
    | (go_at_call 15; (fail_if_success have := hw2); ((with_reducible refine (copied_any A n c l _ (HB.out.below hw1) hn).mono ?_); rintro e w2 ⟨C, c2, rfl, ho2, hb2⟩; have hx2 := blk_below hx1 hb2; have hw2 := hw1.trans (hb2.mono hw1.size)))
    | (go_at_call 15; ((with_reducible refine (copied_any A n c l _ (HB.out.below hw2) hn).mono ?_); rintro e w3 ⟨D, c3, rfl, ho3, hb3⟩; have hx3 := blk_below hx2 hb3; have hw3 := hw2.trans (hb3.mono hw2.size); have ho23 := ho2.kept (own_below hb3) (own_none _); obtain ⟨x0, x1, x2, x3⟩ := four_set hx3))
    | (go_at_call 16; ((with_reducible refine (apply_any w.heap.size C n c2 l sq tm ss f hsq htm hss hf _ (own_mono ho23 hw1.size)).mono ?_); rintro e w4 ⟨rfl, ho4, hg4⟩; have hx4 := blk_over ho23 hx3 (by decide) hg4; have hw4 := hw3.grown hg4 hw3.size (own_from (own_mono ho23 hw1.size)); have ho34 := ho3.kept hg4 (own_apart ho2 ho3); obtain ⟨X0, X1, X2, X3⟩ := four_set hx4))
    | (go_at_call 17; ((with_reducible refine (frameP_any w.heap.size D n c3 l k fr hfr _ (own_mono ho34 hw2.size)).mono ?_); rintro e w5 ⟨rfl, ho5, hg5⟩; have hx5 := blk_over ho34 hx4 (by decide) hg5; have hw5 := hw4.grown hg5 hw4.size (own_from (own_mono ho34 hw2.size)); have ho45 := ho4.kept hg5 (own_apart2 ho2 ho3); obtain ⟨Y0, Y1, Y2, Y3⟩ := four_set hx5))
    | (go_at_call 18; ((with_reducible refine (rapply_any A n c l sq tm ss f hsq htm hss hf _ (HB.out.below hw5) hn).mono ?_); rintro e w6 ⟨E, c6, rfl, ho6, hb6⟩; have hw6 := hw5.trans (hb6.mono hw5.size)))
    | (go_at_call 19; ((with_reducible refine (rframeOf_any A n c l k fr hfr _ (HB.out.below hw6) hn).mono ?_); rintro e w7 ⟨F, c7, rfl, ho7, hb7⟩; have hw7 := hw6.trans (hb7.mono hw6.size)))
    | (go_at_call 20; ((with_reducible refine (ofP_any A n c l _ (HB.out.below hw7)).mono ?_); rintro e w8 ⟨rfl, hb8⟩; have hw8 := hw7.trans (hb8.mono hw7.size); have hy8 := blk_alloc w8 (.cells #[.int .u16 (oS l), .int .u32 (oT l), .int .u32 (oR l), .int .u16 (oF l)] 26); have hw9 := hw8.alloc hw8.size (.cells #[.int .u16 (oS l), .int .u32 (oT l), .int .u32 (oR l), .int .u16 (oF l)] 26)))
    | (go_at_call 21; ((with_reducible refine (rofP_any A n c l _ (HB.out.below hw9)).mono ?_); rintro e w10 ⟨rfl, hb10⟩; have hw10 := hw9.trans (hb10.mono hw9.size); have hw11 := hw10.alloc hw10.size (.cells #[.int .u16 (oS l), .int .u32 (oT l), .int .u32 (oR l), .int .u16 (oF l)] 26); have bA := (Below.refl w10.heap.size w10).alloc (Nat.le_refl _) (.cells #[.int .u16 (oS l), .int .u32 (oT l), .int .u32 (oR l), .int .u16 (oF l)] 26); have bN8 := hb8.trans (((Below.refl w8.heap.size w8).alloc (Nat.le_refl _) (.cells #[.int .u16 (oS l), .int .u32 (oT l), .int .u32 (oR l), .int .u16 (oF l)] 26)).trans (hb10.mono (by simp)) |>.mono hb8.size); have b7A := bN8.trans (bA.mono bN8.size); have v1 := cv_own (((ho45.kept (own_below (hb6.trans (hb7.mono hb6.size))) (own_none _)).kept (own_below b7A) (own_none _))); have v2 := cv_own ((ho6.kept (own_below hb7) (own_none _)).kept (own_below b7A) (own_none _)); have v3 := cv_own ((ho5.kept (own_below (hb6.trans (hb7.mono hb6.size))) (own_none _)).kept (own_below b7A) (own_none _)); have v4 := cv_own (ho7.kept (own_below b7A) (own_none _)); have hy9 := blk_below (blk_below hy8 hb10) bA; have hy10 := blk_alloc w10 (.cells #[.int .u16 (oS l), .int .u32 (oT l), .int .u32 (oR l), .int .u16 (oF l)] 26); obtain ⟨z0, z1, z2, z3⟩ := four_set hy9; obtain ⟨u0, u1, u2, u3⟩ := four_set hy10)))
  go_ret
  exact ⟨by simp, hw11⟩
namespace patchAll
theorem patchAll_walk (A : Option Addr) (n c : Nat) (l : List UInt8) (s t r f : Int) (k fr : Int) (w : World) (hl : l.length = n) (hc : n ≤ c) (hm : c ≤ maxLen) (hn : n ≤ 140737488351232) (hA : A = none → n = 0 ∧ c = 0) (hr : Rd w A (bys l))
    (hp : (0 ≤ s ∧ s ≤ 65535) ∧ (0 ≤ t ∧ t ≤ 4294967295) ∧ (0 ≤ r ∧ r ≤ 4294967295) ∧ (0 ≤ f ∧ f ≤ 65535)) (hk : -9223372036854775808 ≤ k ∧ k ≤ 9223372036854775807) (hf : 0 ≤ fr ∧ fr ≤ 65535) :
    Calls Try.prog 3 #[.slice A n c, .agg #[.int .u16 s, .int .u32 t, .int .u32 r, .int .u16 f], .int .i64 k, .int .u16 fr] w fun e w' => e = .returned (.bool true) ∧ Below w.heap.size w w' := by
  obtain ⟨s, rfl⟩ : ∃ m : Nat, s = (m : Int) := ⟨s.toNat, by omega⟩
  obtain ⟨t, rfl⟩ : ∃ m : Nat, t = (m : Int) := ⟨t.toNat, by omega⟩
  obtain ⟨r, rfl⟩ : ∃ m : Nat, r = (m : Int) := ⟨r.toNat, by omega⟩
  obtain ⟨f, rfl⟩ : ∃ m : Nat, f = (m : Int) := ⟨f.toNat, by omega⟩
  obtain ⟨fr, rfl⟩ : ∃ m : Nat, fr = (m : Int) := ⟨fr.toNat, by omega⟩
  exact patchAll_core A n c l s t r f k fr w ⟨hl, hc, hm, hr⟩ hn (by omega) (by omega) (by omega) (by omega) (by omega)
end patchAll
namespace patchAll
open Go.ChangeShapes Go.WideShapes Go.ChangeAt Go.RowKit
open Go.ChangeMaps (open_string shut_string)
set_option linter.unusedVariables false

theorem own : ownKnob Try.prog.godebug = none := by kernel_rfl
theorem laidOut : laidOutB Try.prog = true := by kernel_rfl

set_option maxRecDepth 100000 in
theorem lifted (os : Os) (started : os.Started) (H : Type) (enc : TypeId × Value → H) :
    ReturnsInHanded {} Try.checked os 3 .any (Rows.patchAllSpec.pre6 enc Try.prog Try.f3 Rows.patchAllRow.domain false) (Rows.patchAllSpec.post enc Try.prog Try.f3 false true false false) := by
  refine returnsInHanded_of_change_sized (C := Try.checked) own started (by kernel_rfl) Try.func3
    (ChangeSpec.witness6 (enc := enc) (C := Try.checked) false ⟨#[], #[.slice none 0 0, .agg #[.int .u16 0, .int .u32 0, .int .u32 0, .int .u16 0], .int .i64 0, .int .u16 0], []⟩ 8 (by kernel_rfl) (by kernel_rfl) (by kernel_rfl) (by kernel_rfl)) ?_
  intro W base args ds gs before hval0 hW hcnd hsz0 _
  have hsz : (DataW.weightsEach Try.prog (Try.f3.params.toList ++ Rows.patchAllSpec.plain.varTypes Try.prog) (ds ++ gs)).all (· ≤ reachBytes) = true := hsz0
  have hval : ∀ (j : Nat) t v, Try.f3.params[j]? = some t → args[j]? = some v → Value.okWide Try.prog W .any base t v := hval0
  have hW' := hW
  obtain ⟨p, q, hA0, hV, rfl, hfz, hnd⟩ := hW
  have hA : DataW.TrodAll enc Try.prog W 0 (fun _ => true) true Try.f3.params.toList args.toList ds p := hA0
  rw [Try.params3] at hA hval hsz
  obtain ⟨v0, vs0, d0, ds0, p0, q0, hargs, rfl, rfl, h0, r0⟩ := trodAll_cons hA
  obtain ⟨v1, vs1, d1, ds1, p1, q1, rfl, rfl, rfl, h1, r1⟩ := trodAll_cons r0
  obtain ⟨v2, vs2, d2, ds2, p2, q2, rfl, rfl, rfl, h2, r2⟩ := trodAll_cons r1
  obtain ⟨v3, vs3, d3, ds3, p3, q3, rfl, rfl, rfl, h3, r3⟩ := trodAll_cons r2
  obtain ⟨rfl, rfl, rfl⟩ := trodAll_nil r3
  obtain rfl : args = #[v0, v1, v2, v3] := by cases args; simp_all
  obtain ⟨rfl, rfl⟩ := trodVars_none hV
  obtain ⟨a0, len0, cap0, rfl⟩ := okWide_slice Try.underlying22 (hval 0 22 v0 rfl rfl)
  have k0 := h0
  have lt0 : ∀ x ∈ p0, x.block < W.heap.size := by obtain ⟨m, hm⟩ := k0; exact DataW.trod_lt m _ _ _ hm
  obtain ⟨l0, n0, nc0, cm0, nl0, rd0, hl0⟩ : ∃ l : List UInt8, l.length = len0 ∧ len0 ≤ cap0 ∧ cap0 ≤ maxLen ∧ (a0 = none → len0 = 0 ∧ cap0 = 0) ∧ Rd W a0 (bys l) ∧ (len0 = 0 ∨ ∃ es sp, d0 = .slice es sp ∧ es.length = len0) := by
    obtain ⟨fuel, hf⟩ := h0
    exact open_byte_slice Try.underlying22 Try.underlying5 (by kernel_rfl) hf
  have hb0 : len0 * 1 ≤ 140737488351232 := reach_slice hsz (j := 0) rfl rfl Try.underlying22 (by kernel_rfl) hl0
  rw [Nat.mul_one] at hb0
  obtain ⟨s1, t1, m1, f1, rfl, rfl, rfl, wS1, wT1, wR1, wF1⟩ := open_patch (hval 1 26 v1 rfl rfl) h1
  obtain ⟨x2, rfl, rfl, rfl, w2⟩ := open_int Try.underlying3 (hval 2 3 v2 rfl rfl) h2
  obtain ⟨x3, rfl, rfl, rfl, w3⟩ := open_int Try.underlying23 (hval 3 23 v3 rfl rfl) h3
  clear hA0 hval0 hsz0
  refine (patchAll_walk a0 len0 cap0 l0 s1 t1 m1 f1 x2 x3 W n0 nc0 cm0 hb0 nl0 rd0 ⟨bounds_u16 wS1, bounds_u32 wT1, bounds_u32 wR1, bounds_u16 wF1⟩ (bounds_i64 w2) (bounds_u16 w3)).mono fun e W' ⟨he, bel⟩ => ?_
  subst he
  exact ⟨_, rfl, _, _, _, [], _, [], hW', trodAll_mk1 (shut_bool Try.underlying4 _), (trodAll_cons_mk (Below.trod laidOut (by kernel_rfl) (of_decide_eq_true (by kernel_rfl)) k0 bel lt0) (trodAll_cons_mk (shut_patch wS1 wT1 wR1 wF1) (trodAll_cons_mk (shut_int Try.underlying3 w2) (trodAll_cons_mk (shut_int Try.underlying23 w3) trodAll_mk0)))), rfl, bel.frame _, fun h => by cases h⟩

/-- The statement. -/
theorem proved : Rows.PatchAllSaid :=
  OpenClaim.holds_of_wide 3 Try.f3 rfl rfl rfl rfl rfl rfl rfl ⟨rfl, rfl, rfl, rfl, rfl⟩ rfl rfl rfl rfl rfl (by kernel_rfl) Try.func3 (by kernel_rfl)
    (of_decide_eq_true (by kernel_rfl)) (by unfold Func.isWrapper; rw [if_neg (of_decide_eq_false (by kernel_rfl))]; exact ⟨rfl, rfl⟩)
    (fun os started H enc _ => lifted os started H enc)
#print axioms proved
end patchAll
end Go.Proofs.Ytaomdinddccpeaa
