/-
RtpGets: any bytes as a packet, where its payload stands, or what is wrong first: as the document says. For all bytes.
-/
import Derived.Test.YtnkclbaeamcplaaRget2
import Derived.Test.YtnkclbaeamcplaaRtpOffset
namespace Go.Proofs.Ytnkclbaeamcplaa
set_option linter.unusedVariables false
set_option linter.unusedSimpArgs false
open Go Go.RowKit

/-- Get of package sluicegateref4: what the bytes are. -/
theorem rget_all (A : Option Addr) (n c : Nat) (l : List UInt8) (w : World) (h : Bts w A n c l) :
    Calls Try.prog 32 #[.slice A n c] w fun e w' => RGpost l w e w' := by
  by_cases h5 : 512 < l.length
  · exact rget_5 A n c l w h h5
  by_cases h12 : l.length < 12
  · exact rget_2 A n c l w h h12
  by_cases hv : byteN l 0 / 64 = 2
  · cases hf : fbB (byteN l 1)
    · exact rget_main A n c l w h (by omega) (by omega) hv hf
    · exact rget_4 A n c l w h (by omega) (by omega) hv hf
  · exact rget_1 A n c l w h (by omega) (by omega) hv
theorem rget_row (l : List UInt8) (q : Pkt) (F T Z : Int) (hq : getP l = q) (hF : F = (lookF l : Nat)) (hT : T = (lookT l : Nat)) (hZ : Z = (lookE l : Nat)) (A : Option Addr) (n c : Nat) (w : World) (h : Bts w A n c l) :
    Calls Try.prog 32 #[.slice A n c] w fun e w' => ∃ C cn cc E en ec L ln lc, e = .returned (.tuple #[.agg #[.bool q.mr, .int .i64 q.ty, .int .u16 q.sq, .int .u32 q.tm, .int .u32 q.ss, .slice C cn cc, .bool q.hx, .int .u16 q.pf, .slice E en ec, .slice L ln lc, .int .i64 q.pad], .int .i64 F, .int .i64 T, .int .i64 Z]) ∧
      Hid (PRow w' q C cn cc E en ec L ln lc) ∧ Below w.heap.size w w' := by
  subst hq hF hT hZ
  exact rget_all A n c l w h
set_option maxRecDepth 20000 in
set_option maxHeartbeats 4000000 in
theorem rtpGets_walk (B : Option Addr) (n c : Nat) (l : List UInt8) (w : World) (b1 : l.length = n) (b2 : n ≤ c) (b3 : c ≤ maxLen) (b4 : n ≤ 140737488351232) (b5 : B = none → n = 0 ∧ c = 0) (b6 : Rd w B (bys l)) :
    Calls Try.prog 12 #[.slice B n c] w fun e w' => e = .returned (.bool true) ∧ Below w.heap.size w w' := by
  have HB : Hid (Bts w B n c l) := ⟨b1, b2, b3, b6⟩
  clear b1 b6 b5 b4 b3
  obtain ⟨q, hq⟩ : ∃ q, getP l = q := ⟨_, rfl⟩
  have HQ := Lib.hid hq
  obtain ⟨z, hz⟩ : ∃ z : Nat, lookE l = z := ⟨_, rfl⟩
  have HZ : Hid ((z : Int) = (lookE l : Nat)) := by show _ = _; rw [hz]
  obtain ⟨f, hf⟩ : ∃ f : Nat, lookF l = f := ⟨_, rfl⟩
  have HF : Hid ((f : Int) = (lookF l : Nat)) := by show _ = _; rw [hf]
  obtain ⟨t, ht⟩ : ∃ t : Nat, lookT l = t := ⟨_, rfl⟩
  have HT : Hid ((t : Int) = (lookT l : Nat)) := by show _ = _; rw [ht]
  clear hq hz hf ht
  go_enter Try.func12, Try.ntmps12
  go_wp2_with (first
    | (go_at_call 23; (with_reducible refine (shown5_any _).mono ?_); rintro e w1 ⟨rfl, hb1⟩)
    | (go_at_call 30; (with_reducible refine (pget_row l q (z : Int) HQ.out HZ.out B n c _ (HB.out.below hb1)).mono ?_); rintro e w2 ⟨C3, cn3, cc3, E3, en3, ec3, L3, ln3, lc3, rfl, HP3, hb2⟩; have hb3 := hb1.trans (hb2.mono hb1.size); have hb4 := fun o => hb3.alloc hb3.size o; have HPx := Lib.hid (fun o => HP3.out.below ((Below.refl w2.heap.size w2).alloc (Nat.le_refl _) o)); have hit := fun o => blk_alloc w2 o)
    | (go_at_call 32; (with_reducible refine (rget_row l q (f : Int) (t : Int) (z : Int) HQ.out HF.out HT.out HZ.out B n c _ (HB.out.below (hb4 _))).mono ?_); rintro e w3 ⟨C4, cn4, cc4, E4, en4, ec4, L4, ln4, lc4, rfl, HP4, hb5⟩; have hb6 := (hb4 _).trans (hb5.mono (hb4 _).size); have hb7 := fun o => hb6.alloc hb6.size o; have HPy := Lib.hid (fun o => ((HPx.out _).below hb5).below ((Below.refl w3.heap.size w3).alloc (Nat.le_refl _) o)); have HPz := Lib.hid (fun o => HP4.out.below ((Below.refl w3.heap.size w3).alloc (Nat.le_refl _) o)); have hit2 := blk_below (hit _) hb5; have hit3 := fun o => blk_below hit2 ((Below.refl w3.heap.size w3).alloc (Nat.le_refl _) o); have hit4 := fun o => blk_alloc w3 o)
    | (go_at_call 33; (with_reducible refine (offset_v B n c l (f : Int) (t : Int) (z : Int) _ (HB.out.below (hb7 _)) HF.out HT.out HZ.out).mono ?_); rintro e w5 ⟨rfl, hb8⟩; have hb9 := (hb7 _).trans (hb8.mono (hb7 _).size); have HPy2 := Lib.hid ((HPy.out _).below hb8); have HPz2 := Lib.hid ((HPz.out _).below hb8); have hit5 := blk_below (hit3 _) hb8; have hit6 := blk_below (hit4 _) hb8; obtain ⟨y0, y1, y2, y3, y4, y5, y6, y7, y8, y9, y10⟩ := eleven_cells hit5; obtain ⟨z0, z1, z2, z3, z4, z5, z6, z7, z8, z9, z10⟩ := eleven_cells hit6)
    | (go_at_call 31; (with_reducible refine (samePkt_row q q rfl C3 cn3 cc3 E3 en3 ec3 L3 ln3 lc3 C4 cn4 cc4 E4 en4 ec4 L4 ln4 lc4 _ HPy2.out HPz2.out).mono ?_); rintro e w6 ⟨rfl, hb10⟩))
  go_ret
  exact ⟨rfl, hb9.trans (hb10.mono hb9.size)⟩
namespace rtpGets
open Go.ChangeShapes Go.WideShapes Go.ChangeAt Go.RowKit
open Go.ChangeMaps (open_string shut_string)
set_option linter.unusedVariables false

theorem own : ownKnob Try.prog.godebug = none := by kernel_rfl
theorem laidOut : laidOutB Try.prog = true := by kernel_rfl

set_option maxRecDepth 100000 in
theorem lifted (os : Os) (started : os.Started) (H : Type) (enc : TypeId × Value → H) :
    ReturnsInHanded {} Try.checked os 12 .any (Rows.rtpGetsSpec.pre6 enc Try.prog Try.f12 Rows.rtpGetsRow.domain false) (Rows.rtpGetsSpec.post enc Try.prog Try.f12 false true false false) := by
  refine returnsInHanded_of_change_sized (C := Try.checked) own started (by kernel_rfl) Try.func12
    (ChangeSpec.witness6 (enc := enc) (C := Try.checked) false ⟨#[], #[.slice none 0 0], []⟩ 8 (by kernel_rfl) (by kernel_rfl) (by kernel_rfl) (by kernel_rfl)) ?_
  intro W base args ds gs before hval0 hW hcnd hsz0 _
  have hsz : (DataW.weightsEach Try.prog (Try.f12.params.toList ++ Rows.rtpGetsSpec.plain.varTypes Try.prog) (ds ++ gs)).all (· ≤ reachBytes) = true := hsz0
  have hval : ∀ (j : Nat) t v, Try.f12.params[j]? = some t → args[j]? = some v → Value.okWide Try.prog W .any base t v := hval0
  have hW' := hW
  obtain ⟨p, q, hA0, hV, rfl, hfz, hnd⟩ := hW
  have hA : DataW.TrodAll enc Try.prog W 0 (fun _ => true) true Try.f12.params.toList args.toList ds p := hA0
  rw [Try.params12] at hA hval hsz
  obtain ⟨v0, vs0, d0, ds0, p0, q0, hargs, rfl, rfl, h0, r0⟩ := trodAll_cons hA
  obtain ⟨rfl, rfl, rfl⟩ := trodAll_nil r0
  obtain rfl : args = #[v0] := by cases args; simp_all
  obtain ⟨rfl, rfl⟩ := trodVars_none hV
  obtain ⟨a0, len0, cap0, rfl⟩ := okWide_slice Try.underlying30 (hval 0 30 v0 rfl rfl)
  have k0 := h0
  have lt0 : ∀ x ∈ p0, x.block < W.heap.size := by obtain ⟨m, hm⟩ := k0; exact DataW.trod_lt m _ _ _ hm
  obtain ⟨l0, n0, nc0, cm0, nl0, rd0, hl0⟩ : ∃ l : List UInt8, l.length = len0 ∧ len0 ≤ cap0 ∧ cap0 ≤ maxLen ∧ (a0 = none → len0 = 0 ∧ cap0 = 0) ∧ Rd W a0 (bys l) ∧ (len0 = 0 ∨ ∃ es sp, d0 = .slice es sp ∧ es.length = len0) := by
    obtain ⟨fuel, hf⟩ := h0
    exact open_byte_slice Try.underlying30 Try.underlying5 (by kernel_rfl) hf
  have hb0 : len0 * 1 ≤ 140737488351232 := reach_slice hsz (j := 0) rfl rfl Try.underlying30 (by kernel_rfl) hl0
  rw [Nat.mul_one] at hb0
  clear hA0 hval0 hsz0
  refine (rtpGets_walk a0 len0 cap0 l0 W n0 nc0 cm0 hb0 nl0 rd0).mono fun e W' ⟨he, bel⟩ => ?_
  subst he
  exact ⟨_, rfl, _, _, _, [], _, [], hW', trodAll_mk1 (shut_bool Try.underlying4 _), (trodAll_cons_mk (Below.trod laidOut (by kernel_rfl) (of_decide_eq_true (by kernel_rfl)) k0 bel lt0) trodAll_mk0), rfl, bel.frame _, fun h => by cases h⟩

/-- The statement. -/
theorem proved : Rows.RtpGetsSaid :=
  OpenClaim.holds_of_wide 12 Try.f12 rfl rfl rfl rfl rfl rfl rfl ⟨rfl, rfl, rfl, rfl, rfl⟩ rfl rfl rfl rfl rfl (by kernel_rfl) Try.func12 (by kernel_rfl)
    (of_decide_eq_true (by kernel_rfl)) (by unfold Func.isWrapper; rw [if_neg (of_decide_eq_false (by kernel_rfl))]; exact ⟨rfl, rfl⟩)
    (fun os started H enc _ => lifted os started H enc)
#print axioms proved
end rtpGets
end Go.Proofs.Ytnkclbaeamcplaa
