/-
ArenaLeast: it is always the free slot with the least number that is taken, and none only if there is none. For every number and every list of numbers, of which the first sixty are looked at.
-/
import Derived.Test.YtfmojphbjhedgaaLaw11
import Derived.Test.YtfmojphbjhedgaaHandFrame
import Derived.Test.YtfmojphbjhedgaaRows
import Derived.Laws.Bits128
namespace Go.Proofs.Ytfmojphbjhedgaa
set_option linter.unusedVariables false
set_option linter.unusedSimpArgs false
open Go.RowKit

/-- The least free slot, or -1. -/
def leastS (S : List Slo) : Int := match freeIx S with | some j => j | none => -1
theorem leastS_ge (S : List Slo) : -1 ≤ leastS S := by unfold leastS; split <;> omega
theorem freeIx_lt {S : List Slo} {j : Nat} (h : freeIx S = some j) : j < S.length := (List.findIdx?_eq_some_iff_getElem.1 h).1
theorem leastS_succ (S : List Slo) (k : Nat) (hk : k < S.length) : leastS (S.take (k + 1)) = if S[k].2 = 0 ∧ leastS (S.take k) < 0 then (k : Int) else leastS (S.take k) := by
  have e : freeIx (S.take (k + 1)) = (freeIx (S.take k)).or (if S[k].2 = 0 then some k else none) := by
    unfold freeIx
    rw [List.take_succ_eq_append_getElem hk, List.findIdx?_append]
    congr 1
    by_cases h : S[k].2 = 0 <;> simp [h, List.findIdx?_cons]
    omega
  unfold leastS
  rw [e]
  cases h : freeIx (S.take k) with
  | none =>
    by_cases h2 : S[k].2 = 0 <;> simp [h2]
  | some j => simp; omega
theorem takeS_le1 {S : List Slo} (h : ∀ s ∈ S, s.2 ≤ 1) : ∀ s ∈ takeS S, s.2 ≤ 1 := by
  intro s hs
  unfold takeS at hs
  split at hs
  · rcases List.mem_or_eq_of_mem_set hs with hs | rfl
    · exact h s hs
    · exact Nat.le_refl _
  · exact h s hs
theorem takeS_length (S : List Slo) : (takeS S).length = S.length := by unfold takeS; split <;> simp
theorem dropS_le1 {S : List Slo} (h : ∀ s ∈ S, s.2 ≤ 1) (i g : Int) : ∀ s ∈ dropS S i g, s.2 ≤ 1 := by
  intro s hs
  unfold dropS at hs
  split at hs
  · split at hs
    · rcases List.mem_or_eq_of_mem_set hs with hs | rfl
      · exact h s hs
      · exact Nat.zero_le _
    · rename_i h1 h2
      obtain ⟨k, hk, rfl, h3, h4⟩ := liveS_yes h1
      have := h _ (List.getElem_mem hk)
      simp [List.getElem?_eq_getElem hk] at h2
      omega
  · exact h s hs
theorem i64_and65535 (n : Int) : bits .and .i64 n 65535 = n % 65536 := by
  have h127 : (BitVec.ofInt 64 65535).toNat = 2 ^ 16 - 1 := by decide
  have key : (BitVec.ofInt 64 n &&& BitVec.ofInt 64 65535).toNat = (n % ((2 ^ 64 : Nat) : Int)).toNat % 2 ^ 16 := by
    rw [BitVec.toNat_and, BitVec.toNat_ofInt, h127, Nat.and_two_pow_sub_one_eq_mod]
  show IntKind.i64.wrap ((BitVec.ofInt 64 n &&& BitVec.ofInt 64 65535).toNat : Nat) = n % 65536
  rw [key, IntKind.wrap_i64]
  omega

theorem rdi_at {w : World} {A : Option Addr} {k : IntKind} {zs : List Int} (h : Rd w A (ivs k zs)) {j : Nat} (hj : j < zs.length) : ∃ ad, A = some ad ∧ w.cell? (ad.add j) = some (.int k (zs.getD j 0)) :=
  h j _ (by simp [ivs, List.getElem?_eq_getElem hj])
theorem rdi_cell {w : World} {ad : Addr} {k : IntKind} {zs : List Int} (h : Rd w (some ad) (ivs k zs)) {j : Nat} (hj : j < zs.length) : w.cell? (ad.add j) = some (.int k (zs.getD j 0)) := by
  obtain ⟨ad', he, hc⟩ := rdi_at h hj
  injection he with he
  subst he
  exact hc
set_option maxRecDepth 20000 in
set_option maxHeartbeats 1000000 in
theorem arenaLeast_walk (N : Int) (X : Option Addr) (m d : Nat) (zs : List Int) (w : World) (h0 : -9223372036854775808 ≤ N ∧ N ≤ 9223372036854775807)
    (hm : zs.length = m) (hmd : m ≤ d) (hdm : d ≤ maxLen) (hb1 : m * 8 ≤ 140737488351232) (hY : X = none → m = 0 ∧ d = 0) (hs : Rd w X (ivs .i64 zs)) (hzs : ∀ x ∈ zs, (Lit.int .i64 x).wf = true) :
    Calls Try.prog 5 #[.int .i64 N, .slice X m d] w fun e w' => e = .returned (.bool true) ∧ Below w.heap.size w w' := by
  have Hm := Lib.hid hm
  have Hs := Lib.hid hs
  obtain ⟨n, hn⟩ : ∃ n, n = sizeS N := ⟨_, rfl⟩
  obtain ⟨_, hn1, hn2⟩ := sizeS_is N
  rw [← hn] at hn1 hn2
  have HN := Lib.hid hn
  have hn0 : ((n : Int) == 0) = false := by simp; omega
  clear hm hs hY hzs hmd hdm hb1 hn
  go_enter Try.func5, Try.ntmps5
  go_wp2_with (first
    | (go_at_call 7; (with_reducible refine (shown11_any _).mono ?_); rintro e w1 ⟨rfl, hb1⟩)
    | (go_at_call 8; (with_reducible refine (new_any N _ h0).mono ?_); rintro e w2 ⟨p, rfl, ⟨q, c, hA⟩, hb2⟩; rw [← HN.out] at hA))
  have hB2 := hb1.trans (hb2.mono hb1.size)
  have hq := hA.qlt.1
  have hs1 := hb1.size
  go_loopw [6] (fun i wr => ∃ (k : Nat) (S : List Slo), i = .int .i64 k ∧ k ≤ m ∧ k ≤ 60 ∧ AA wr w1.heap.size p q n c S ∧ Hid (∀ s ∈ S, s.2 ≤ 1) ∧ Below w.heap.size w wr) (fun i _ => m - (intOf i).toNat)
  case atStart => exact ⟨0, _, rfl, Nat.zero_le _, Nat.zero_le _, hA, (by intro s hs; rw [List.eq_of_mem_replicate hs]; decide : ∀ s ∈ List.replicate n ((1, 0) : Slo), s.2 ≤ 1), hB2⟩
  case round =>
    clear hA hB2
    obtain ⟨k, S, rfl, hkm, hk60, hA, H1, hbr⟩ := hrel
    by_cases hlt : k < m ∧ k < 60
    · obtain ⟨hl1, hl2⟩ := hlt
      obtain ⟨ad, rfl, _⟩ := rdi_at (Hs.out.below hbr) (j := k) (by rw [Hm.out]; exact hl1)
      go_wp2_with (go_at_call 22; (with_reducible refine (slots_any hA).mono ?_); rintro e w3 ⟨g3, c3, rfl, ho3, hb3⟩)
      have hb3s := hb3.size
      have hlenS := hA.len
      go_loopw [7, 31] (fun t i wv => ∃ j : Nat, i = .int .i64 j ∧ t = .int .i64 (leastS (S.take j)) ∧ j ≤ n ∧ Below w3.heap.size w3 wv) (fun _ i _ => n - (intOf i).toNat)
      case atStart => exact ⟨0, rfl, by simp [leastS, freeIx], Nat.zero_le _, Below.refl _ _⟩
      case round =>
        obtain ⟨j, rfl, rfl, hjn, hbv⟩ := hrel
        by_cases hlt : j < n
        · have hj : j < S.length := by omega
          have hor := ho3.kept (own_below hbv) (own_none _)
          have g1 := hor.cellAt (j * 2) (by omega)
          have g2 := hor.cellAt (j * 2 + 1) (by omega)
          rw [rowS_gen S j hj] at g1
          rw [rowS_ref S j hj] at g2
          have hls := leastS_succ S j hj
          have hge := leastS_ge (S.take j)
          by_cases hz : S[j].2 = 0
          · have hz' : ((S[j].2 : Int) == 0) = true := by simp; omega
            by_cases hL : leastS (S.take j) < 0
            · rw [if_pos ⟨hz, hL⟩] at hls
              have HLS := Lib.hid hls
              clear hls
              go_wp2
              refine ⟨⟨j + 1, rfl, by rw [HLS.out], by omega, hbv.alloc hbv.size _⟩, by simp [intOf]; omega⟩
            · rw [if_neg (by omega)] at hls
              have HLS := Lib.hid hls
              clear hls
              go_wp2
              refine ⟨⟨j + 1, rfl, by rw [HLS.out], by omega, hbv.alloc hbv.size _⟩, by simp [intOf]; omega⟩
          · have hz' : ((S[j].2 : Int) == 0) = false := by simp; omega
            rw [if_neg (by omega)] at hls
            have HLS := Lib.hid hls
            clear hls
            go_wp2
            refine ⟨⟨j + 1, rfl, by rw [HLS.out], by omega, hbv.alloc hbv.size _⟩, by simp [intOf]; omega⟩
        · have hj : S.take j = S := List.take_of_length_le (by omega)
          rw [hj]
          clear hj
          have hAv := (hA.below hb3).below hbv
          have hBv := (hbr.trans (hb3.mono hbr.size)).trans (hbv.mono (Nat.le_trans hbr.size hb3s))
          have ht := take_any hAv
          have hle := takeS_le1 H1.out
          have hlt5 := takeS_length S
          obtain ⟨z, hz⟩ : ∃ z, z = zs.getD k 0 := ⟨_, rfl⟩
          have HZ := Lib.hid hz
          clear hz
          have h65 := i64_and65535 z
          obtain ⟨K, hK⟩ := Int.eq_ofNat_of_zero_le (show 0 ≤ z % 65536 % (n : Int) from Int.emod_nonneg _ (by omega))
          have hKn : K < n := by
            have := Int.emod_lt_of_pos (z % 65536) (show (0 : Int) < n by omega)
            omega
          have hls : (leastS S = -1 ∧ takeSlot S = 0 ∧ takeErr S = 6) ∨ ∃ f : Nat, leastS S = f ∧ takeSlot S = f ∧ takeErr S = 0 := by
            rcases hf : freeIx S with _ | f
            · left
              obtain ⟨t1, t2, t3, t4⟩ := takeS_none hf
              exact ⟨by simp [leastS, hf], t2, t4⟩
            · right
              obtain ⟨t1, t2, t3, t4⟩ := takeS_at (freeIx_lt hf) hf
              exact ⟨f, by simp [leastS, hf], t2, t4⟩
          generalize takeS S = S' at ht hle hlt5
          generalize takeGen S = G at ht
          have hKS : K < S'.length := by omega
          have Hle := Lib.hid hle
          clear hle
          have hbig : ∀ s ∈ S', s.2 < 9223372036854775807 := fun s hs => by have := Hle.out s hs; omega
          have Hbig := Lib.hid hbig
          clear hbig
          rcases hls with ⟨e1, e2, e3⟩ | ⟨f, e1, e2, e3⟩
          all_goals
            rw [e2, e3] at ht
            rw [e1]
            clear e1 e2 e3
            by_cases hz5 : S'[K].2 = 0
            · go_wp2_with (first
              | (go_at_call 11; (with_reducible refine ht.mono ?_); rintro e w4 ⟨rfl, hA4, hg4⟩; have hB4 := below_more hBv hg4 (Nat.le_trans hs1 hq); have hA4' := fun o => hA4.below ((Below.refl w4.heap.size w4).alloc (Nat.le_refl _) o); have hB4' := fun o => hB4.alloc hB4.size o)
              | (go_at_call 22; (with_reducible refine (slots_any (hA4' _)).mono ?_); rintro e w5 ⟨g5, c5, rfl, ho5, hb5⟩; have hB5 := (hB4' _).trans (hb5.mono (hB4' _).size); have cz := rdi_cell (Hs.out.below hB5) (j := k) (by rw [Hm.out]; exact hl1); rw [← HZ.out] at cz; have y2 := ho5.cellAt (K * 2 + 1) (by omega); rw [rowS_ref S' K hKS, hz5] at y2; have hA5 := (hA4' _).below hb5))
              refine ⟨⟨k + 1, S', rfl, by omega, by omega, hA5, Hle, hB5⟩, by simp [intOf]; omega⟩
            · have hz6 : decide ((0 : Int) < (S'[K].2 : Int)) = true := by simp; omega
              have hlv := liveS_of hKS (show 0 < S'[K].2 by omega)
              have HLV := Lib.hid (staleS_yes hlv)
              go_wp2_with (first
              | (go_at_call 11; (with_reducible refine ht.mono ?_); rintro e w4 ⟨rfl, hA4, hg4⟩; have hB4 := below_more hBv hg4 (Nat.le_trans hs1 hq); have hA4' := fun o => hA4.below ((Below.refl w4.heap.size w4).alloc (Nat.le_refl _) o); have hB4' := fun o => hB4.alloc hB4.size o)
              | (go_at_call 22; (with_reducible refine (slots_any (hA4' _)).mono ?_); rintro e w5 ⟨g5, c5, rfl, ho5, hb5⟩; have hB5 := (hB4' _).trans (hb5.mono (hB4' _).size); have cz := rdi_cell (Hs.out.below hB5) (j := k) (by rw [Hm.out]; exact hl1); rw [← HZ.out] at cz; have y2 := ho5.cellAt (K * 2 + 1) (by omega); rw [rowS_ref S' K hKS] at y2; have y1 := ho5.cellAt (K * 2) (by omega); rw [rowS_gen S' K hKS] at y1; have hA5 := (hA4' _).below hb5)
              | (go_at_call 15; (with_reducible refine (drop_any hA5 _ _ Hbig.out).mono ?_); rintro e w6 ⟨rfl, hA6, hg6⟩; rw [HLV.out]; have hB6 := below_more hB5 hg6 (Nat.le_trans hs1 hq)))
              refine ⟨⟨k + 1, dropS S' K S'[K].1, rfl, by omega, by omega, hA6, dropS_le1 Hle.out _ _, hB6⟩, by simp [intOf]; omega⟩
    · go_wp2
      all_goals
        go_ret
        exact ⟨rfl, hbr⟩
namespace arenaLeast
open Go.ChangeShapes Go.WideShapes Go.ChangeAt Go.RowKit
open Go.ChangeMaps (open_string shut_string)
set_option linter.unusedVariables false

theorem own : ownKnob Try.prog.godebug = none := by kernel_rfl
theorem laidOut : laidOutB Try.prog = true := by kernel_rfl

set_option maxRecDepth 100000 in
theorem lifted (os : Os) (started : os.Started) (H : Type) (enc : TypeId × Value → H) :
    ReturnsInHanded {} Try.checked os 5 .any (Rows.arenaLeastSpec.pre6 enc Try.prog Try.f5 Rows.arenaLeastRow.domain false) (Rows.arenaLeastSpec.post enc Try.prog Try.f5 false true false false) := by
  refine returnsInHanded_of_change_sized (C := Try.checked) own started (by kernel_rfl) Try.func5
    (ChangeSpec.witness6 (enc := enc) (C := Try.checked) false ⟨#[], #[.int .i64 0, .slice none 0 0], []⟩ 8 (by kernel_rfl) (by kernel_rfl) (by kernel_rfl) (by kernel_rfl)) ?_
  intro W base args ds gs before hval0 hW hcnd hsz0 _
  have hsz : (DataW.weightsEach Try.prog (Try.f5.params.toList ++ Rows.arenaLeastSpec.plain.varTypes Try.prog) (ds ++ gs)).all (· ≤ reachBytes) = true := hsz0
  have hval : ∀ (j : Nat) t v, Try.f5.params[j]? = some t → args[j]? = some v → Value.okWide Try.prog W .any base t v := hval0
  have hW' := hW
  obtain ⟨p, q, hA0, hV, rfl, hfz, hnd⟩ := hW
  have hA : DataW.TrodAll enc Try.prog W 0 (fun _ => true) true Try.f5.params.toList args.toList ds p := hA0
  rw [Try.params5] at hA hval hsz
  obtain ⟨v0, vs0, d0, ds0, p0, q0, hargs, rfl, rfl, h0, r0⟩ := trodAll_cons hA
  obtain ⟨v1, vs1, d1, ds1, p1, q1, rfl, rfl, rfl, h1, r1⟩ := trodAll_cons r0
  obtain ⟨rfl, rfl, rfl⟩ := trodAll_nil r1
  obtain rfl : args = #[v0, v1] := by cases args; simp_all
  obtain ⟨rfl, rfl⟩ := trodVars_none hV
  obtain ⟨x0, rfl, rfl, rfl, w0⟩ := open_int Try.underlying3 (hval 0 3 v0 rfl rfl) h0
  obtain ⟨a1, len1, cap1, rfl⟩ := okWide_slice Try.underlying48 (hval 1 48 v1 rfl rfl)
  have k1 := h1
  have lt1 : ∀ x ∈ p1, x.block < W.heap.size := by obtain ⟨m, hm⟩ := k1; exact DataW.trod_lt m _ _ _ hm
  obtain ⟨l1, n1, nc1, cm1, nl1, rd1, wf1, hl1⟩ : ∃ l : List Int, l.length = len1 ∧ len1 ≤ cap1 ∧ cap1 ≤ maxLen ∧ (a1 = none → len1 = 0 ∧ cap1 = 0) ∧ Rd W a1 (ivs .i64 l) ∧ (∀ n ∈ l, (Lit.int .i64 n).wf = true) ∧ (len1 = 0 ∨ ∃ es sp, d1 = .slice es sp ∧ es.length = len1) := by
    obtain ⟨fuel, hf⟩ := h1
    exact open_int_slice Try.underlying48 Try.underlying3 (by kernel_rfl) hf
  have hb1 : len1 * 8 ≤ 140737488351232 := reach_slice hsz (j := 1) rfl rfl Try.underlying48 (by kernel_rfl) hl1
  clear hA0 hval0 hsz0
  refine (arenaLeast_walk x0 a1 len1 cap1 l1 W (bounds_i64 w0) n1 nc1 cm1 hb1 nl1 rd1 wf1).mono fun e W' ⟨he, bel⟩ => ?_
  subst he
  exact ⟨_, rfl, _, _, _, [], _, [], hW', trodAll_mk1 (shut_bool Try.underlying4 _), (trodAll_cons_mk (shut_int Try.underlying3 w0) (trodAll_cons_mk (Below.trod laidOut (by kernel_rfl) (of_decide_eq_true (by kernel_rfl)) k1 bel lt1) trodAll_mk0)), rfl, bel.frame _, fun h => by cases h⟩

/-- The statement. -/
theorem proved : Rows.ArenaLeastSaid :=
  OpenClaim.holds_of_wide 5 Try.f5 rfl rfl rfl rfl rfl rfl rfl ⟨rfl, rfl, rfl, rfl, rfl⟩ rfl rfl rfl rfl rfl (by kernel_rfl) Try.func5 (by kernel_rfl)
    (of_decide_eq_true (by kernel_rfl)) (by unfold Func.isWrapper; rw [if_neg (of_decide_eq_false (by kernel_rfl))]; exact ⟨rfl, rfl⟩)
    (fun os started H enc _ => lifted os started H enc)
#print axioms proved
end arenaLeast
end Go.Proofs.Ytfmojphbjhedgaa
