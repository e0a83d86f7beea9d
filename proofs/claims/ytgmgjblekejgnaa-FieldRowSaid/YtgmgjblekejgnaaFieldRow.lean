/-
FieldRow: numbers that are appended one after the other (up to 50) are read back where they stand. For all numbers and sizes.
-/
import Derived.Test.YtgmgjblekejgnaaFieldOrder
import Derived.Test.YtgmgjblekejgnaaReg
namespace Go.Proofs.Ytgmgjblekejgnaa
set_option linter.unusedVariables false
set_option linter.unusedSimpArgs false
open Go.RowKit

/-- The bytes of the first k numbers. -/
def rowL (zs ss : List Int) : Nat → List UInt8
  | 0 => []
  | k + 1 => appL (rowL zs ss k) (ss.getD k 0) (zs.getD k 0).toNat
theorem rowL_len (zs ss : List Int) (k : Nat) : (rowL zs ss k).length ≤ 8 * k := by
  induction k with
  | zero => simp [rowL]
  | succ k ih => have := appL_len (rowL zs ss k) (ss.getD k 0) (zs.getD k 0).toNat; simp only [rowL]; omega
theorem appL_pre (l : List UInt8) (s : Int) (n : Nat) : ∃ m, appL l s n = l ++ m := by
  unfold appL
  split
  · exact ⟨_, rfl⟩
  · exact ⟨[], by simp⟩
theorem rowL_pre (zs ss : List Int) (k j : Nat) : ∃ m, rowL zs ss (k + j) = rowL zs ss k ++ m := by
  induction j with
  | zero => exact ⟨[], by simp⟩
  | succ j ih =>
    obtain ⟨m, hm⟩ := ih
    obtain ⟨m2, hm2⟩ := appL_pre (rowL zs ss (k + j)) (ss.getD (k + j) 0) (zs.getD (k + j) 0).toNat
    refine ⟨m ++ m2, ?_⟩
    rw [← Nat.add_assoc, rowL, hm2, hm, List.append_assoc]
/-- What stands at the k-th number's place. -/
theorem rowL_get (zs ss : List Int) (k K : Nat) (hk : k < K) (hf : fitsB (ss.getD k 0) (zs.getD k 0).toNat = true) :
    withinB (rowL zs ss K).length (rowL zs ss k).length (ss.getD k 0) = true ∧ getN (rowL zs ss K) (rowL zs ss k).length (ss.getD k 0) = (zs.getD k 0).toNat := by
  obtain ⟨m, hm⟩ := rowL_pre zs ss (k + 1) (K - (k + 1))
  rw [show k + 1 + (K - (k + 1)) = K by omega] at hm
  have e : rowL zs ss (k + 1) = rowL zs ss k ++ enc (ss.getD k 0).toNat (zs.getD k 0).toNat := by simp only [rowL, appL, hf, if_true]
  rw [e, List.append_assoc] at hm
  have hs := fitsB_iff.1 hf
  have hw : withinB (rowL zs ss K).length (rowL zs ss k).length (ss.getD k 0) = true := by
    rw [hm, withinB_iff]
    simp only [List.length_append, enc_length]
    omega
  refine ⟨hw, ?_⟩
  unfold getN
  rw [hw, if_pos rfl, hm, Int.toNat_natCast]
  unfold part
  rw [List.drop_left]
  have := List.take_left (l₁ := enc (ss.getD k 0).toNat (zs.getD k 0).toNat) (l₂ := m)
  rw [enc_length] at this
  rw [this, beN_enc _ _ hs.2.2]
theorem rowL_step (zs ss : List Int) (k : Nat) : ((rowL zs ss (k + 1)).length : Int) = (rowL zs ss k).length + (if fitsB (ss.getD k 0) (zs.getD k 0).toNat then ss.getD k 0 else 0) := by
  simp only [rowL, appL]
  split
  · rename_i h
    have hs := fitsB_iff.1 h
    rw [List.length_append, enc_length]; omega
  · simp

theorem RdI.at_ {w : World} {A : Option Addr} {kd : IntKind} {zs : List Int} (h : Rd w A (ivs kd zs)) {k : Nat} (hk : k < zs.length) : ∃ ad, A = some ad ∧ w.cell? (ad.add k) = some (.int kd (zs.getD k 0)) := by
  obtain ⟨ad, hA, hc⟩ := h k (.int kd (zs.getD k 0)) (by simp [ivs, List.getD, hk])
  exact ⟨ad, hA, hc⟩
theorem own_nil {w : World} {base : Nat} {e : TypeId} {size : Nat} {A : Option Addr} {n c : Nat} {xs : List Value} (h : w.ownsRow base e size (.slice A n c) n xs) : A = none → n = 0 ∧ c = 0 := by
  rintro rfl
  rcases h.2 with ⟨h, _⟩ | ⟨g, cap, cur, h, _⟩
  · injection h with _ h1 h2; exact ⟨h1, h2⟩
  · injection h with h; cases h

set_option maxHeartbeats 1000000 in
theorem fieldRow_walk (X : Option Addr) (n c : Nat) (zs : List Int) (Y : Option Addr) (m d : Nat) (ss : List Int) (w : World) (hn : zs.length = n) (hnc : n ≤ c) (hcm : c ≤ maxLen) (hb0 : n * 8 ≤ 140737488351232) (hX : X = none → n = 0 ∧ c = 0) (hr : Rd w X (ivs .u64 zs)) (hz : ∀ x ∈ zs, (Lit.int .u64 x).wf = true)
    (hm : ss.length = m) (hmd : m ≤ d) (hdm : d ≤ maxLen) (hb1 : m * 8 ≤ 140737488351232) (hY : Y = none → m = 0 ∧ d = 0) (hs : Rd w Y (ivs .i64 ss)) (hzs : ∀ x ∈ ss, (Lit.int .i64 x).wf = true) :
    Calls Try.prog 7 #[.slice X n c, .slice Y m d] w fun e w' => e = .returned (.bool true) ∧ Below w.heap.size w w' := by
  have HZ : ∀ k, 0 ≤ zs.getD k 0 ∧ zs.getD k 0 ≤ 18446744073709551615 := by
    intro k
    by_cases hk : k < zs.length
    · rw [List.getD, List.getElem?_eq_getElem hk]; exact bounds_u64 (hz _ (List.getElem_mem hk))
    · rw [List.getD, List.getElem?_eq_none (by omega)]; simp
  have HS : ∀ k, -9223372036854775808 ≤ ss.getD k 0 ∧ ss.getD k 0 ≤ 9223372036854775807 := by
    intro k
    by_cases hk : k < ss.length
    · rw [List.getD, List.getElem?_eq_getElem hk]; exact bounds_i64 (hzs _ (List.getElem_mem hk))
    · rw [List.getD, List.getElem?_eq_none (by omega)]; simp
  have HZ' := Lib.hid HZ
  have HS' := Lib.hid HS
  have Hn := Lib.hid hn
  have Hm := Lib.hid hm
  have Hr := Lib.hid hr
  have Hs := Lib.hid hs
  clear HZ HS hn hm hX hY hz hzs hr hs
  go_enter Try.func7, Try.ntmps7
  go_wp2_with (go_at_call 12; (with_reducible refine (shown_any _).mono ?_); rintro e w1 ⟨rfl, hb1⟩)
  go_loopw [5, 6] (fun b i wr => ∃ (k q : Nat) (A : Option Addr) (cc : Nat), k ≤ n ∧ k ≤ m ∧ k ≤ 50 ∧ i = .int .i64 k ∧ b = .slice A q cc ∧ q ≤ 8 * k ∧ q ≤ cc ∧ cc ≤ maxLen ∧ Hid ((rowL zs ss k).length = q) ∧ Hid (Rd wr A (bys (rowL zs ss k))) ∧ Hid (A = none → q = 0 ∧ cc = 0) ∧ Below w.heap.size w wr) (fun _ i _ => 50 - (intOf i).toNat)
  case atStart => exact ⟨0, 0, none, 0, by omega, by omega, by omega, rfl, rfl, by omega, by omega, by omega, rfl, Rd.nil _ _, fun _ => ⟨rfl, rfl⟩, hb1⟩
  case round =>
    obtain ⟨k, q, A, cc, hk1, hk2, hk3, rfl, rfl, hq1, hq2, hq3, HQ, HR, HA, hbl⟩ := hrel
    by_cases hlt : k < n ∧ k < m ∧ k < 50
    · obtain ⟨hl1, hl2, hl3⟩ := hlt
      obtain ⟨ad, rfl, hcell⟩ := RdI.at_ (Hr.out.below hbl) (k := k) (by rw [Hn.out]; exact hl1)
      obtain ⟨bd, rfl, hcell2⟩ := RdI.at_ (Hs.out.below hbl) (k := k) (by rw [Hm.out]; exact hl2)
      obtain ⟨hz1, hz2⟩ := HZ'.out k
      obtain ⟨hs1, hs2⟩ := HS'.out k
      generalize hzk : zs.getD k 0 = zk at *
      generalize hsk : ss.getD k 0 = sk at *
      have HZK := Lib.hid hzk
      have HSK := Lib.hid hsk
      clear hzk hsk
      go_wp2_with fail
      refine region_plan (calmB_sound _) (.leaf [0, 1, 2, 3, 4, 5, 6, 7, 8, 9, 10]) (by kernel_rfl) (by kernel_rfl) (by kernel_rfl) ?_
      refine wpPlan_leaf fun K1 hK1 => ?_
      simp only [List.filterMap_cons, List.filterMap_nil, List.getElem?_toArray, List.getElem?_cons_succ, List.getElem?_cons_zero]
      go_wp2_with (go_at_call 17; (with_reducible refine (append_any A q cc (rowL zs ss k) sk zk wr.drew HQ.out (by omega) HA.out HR.out.drew hs2 hz1 hz2).mono ?_); rintro e w3 ⟨A3, q3, c3, rfl, HM3, hown3, hb3⟩)
      go_roundw
      case rel =>
        have e3 : rowL zs ss (k + 1) = appL (rowL zs ss k) sk zk.toNat := by simp only [rowL, HZK.out, HSK.out]
        have hl3 := rowL_len zs ss (k + 1)
        rw [← e3] at HM3 hown3
        obtain ⟨o1, o2⟩ := own_cap hown3
        have hq := HM3.out
        refine ⟨k + 1, q3, A3, c3, by omega, by omega, by omega, by go_num, rfl, by omega, o1, o2, hq.symm, Rd.own hown3, own_nil hown3, hbl.trans ((below_undrew hb3).mono hbl.size)⟩
      case measure => simp [intOf]; omega
    · go_wp2_with fail
      all_goals
        go_loop [7, 8] (fun at_ i => ∃ (j p : Nat), j ≤ k ∧ i = .int .i64 j ∧ at_ = .int .i64 p ∧ p ≤ 400 ∧ Hid ((rowL zs ss j).length = p)) (fun _ i => k - (intOf i).toNat)
        case atStart => exact ⟨0, 0, by omega, rfl, rfl, by omega, rfl⟩
        case round =>
          obtain ⟨j, p, hj, rfl, rfl, hp, HP⟩ := hrel
          by_cases hjk : j < k
          · obtain ⟨ad, rfl, hcell⟩ := RdI.at_ (Hr.out.below hbl) (k := j) (by rw [Hn.out]; omega)
            obtain ⟨bd, rfl, hcell2⟩ := RdI.at_ (Hs.out.below hbl) (k := j) (by rw [Hm.out]; omega)
            obtain ⟨hz1, hz2⟩ := HZ'.out j
            obtain ⟨hs1, hs2⟩ := HS'.out j
            have hst := rowL_step zs ss j
            have hln := rowL_len zs ss (j + 1)
            have hget := rowL_get zs ss j k hjk
            generalize hzk : zs.getD j 0 = zk at *
            generalize hsk : ss.getD j 0 = sk at *
            cases hf : fitsB sk zk.toNat
            · rw [hf] at hst
              simp only [Bool.false_eq_true, if_false, Int.add_zero] at hst
              have HF := Lib.hid hf
              have HST := Lib.hid hst
              clear hf hst hget hzk hsk hln
              go_wp2_with (go_at_call 19; (with_reducible refine (lfits_any zk sk _ hz1 hz2).mono ?_); rintro e w' ⟨rfl, rfl⟩; rw [HF.out])
              go_round
              case rel =>
                have := HP.out
                have h2 := HST.out
                exact ⟨j + 1, p, by omega, by go_num, rfl, hp, (by omega : (rowL zs ss (j + 1)).length = p)⟩
              case measure => simp [intOf]; omega
            · obtain ⟨hw, hg⟩ := hget hf
              rw [hf] at hst
              simp only [if_true] at hst
              have hsz := fitsB_iff.1 hf
              have hs8 := hsz.2.1
              have HW : Hid (withinB q p sk = true) := by
                have h1 := HQ.out
                have h2 := HP.out
                rw [h1, h2] at hw; exact hw
              have HG : Hid (((getN (rowL zs ss k) p sk : Nat) : Int) = zk) := by
                have h2 := HP.out
                show _ = _
                rw [h2] at hg; rw [hg]; omega
              have HF := Lib.hid hf
              have HST := Lib.hid hst
              have hsp := hsz.1
              clear hf hst hget hzk hsk hln hw hg hsz
              go_wp2_with (first
                | (go_at_call 19; (with_reducible refine (lfits_any zk sk _ hz1 hz2).mono ?_); rintro e w' ⟨rfl, rfl⟩; rw [HF.out])
                | (go_at_call 13; (with_reducible refine (get_any A q cc (rowL zs ss k) p sk _ HQ.out hq2 hq3 HR.out (by omega) hs2).mono ?_); rintro e w' ⟨rfl, rfl⟩; rw [HG.out, HW.out]))
              go_round
              case rel =>
                have := HP.out
                have h2 := HST.out
                have h3 := rowL_len zs ss (j + 1)
                refine ⟨j + 1, (rowL zs ss (j + 1)).length, by omega, by go_num, ?_, by omega, rfl⟩
                rw [h2, this]
              case measure => simp [intOf]; omega
          · obtain rfl : j = k := by omega
            obtain rfl : p = q := HP.out.symm.trans HQ.out
            go_wp2
            go_ret
            exact ⟨by simp, hbl⟩
namespace fieldRow
open Go.ChangeShapes Go.WideShapes Go.ChangeAt Go.RowKit
open Go.ChangeMaps (open_string shut_string)
set_option linter.unusedVariables false

theorem own : ownKnob Try.prog.godebug = none := by kernel_rfl
theorem laidOut : laidOutB Try.prog = true := by kernel_rfl

set_option maxRecDepth 100000 in
theorem lifted (os : Os) (started : os.Started) (H : Type) (enc : TypeId × Value → H) :
    ReturnsInHanded {} Try.checked os 7 .any (Rows.fieldRowSpec.pre6 enc Try.prog Try.f7 Rows.fieldRowRow.domain false) (Rows.fieldRowSpec.post enc Try.prog Try.f7 false true false false) := by
  refine returnsInHanded_of_change_sized (C := Try.checked) own started (by kernel_rfl) Try.func7
    (ChangeSpec.witness6 (enc := enc) (C := Try.checked) false ⟨#[], #[.slice none 0 0, .slice none 0 0], []⟩ 8 (by kernel_rfl) (by kernel_rfl) (by kernel_rfl) (by kernel_rfl)) ?_
  intro W base args ds gs before hval0 hW hcnd hsz0 _
  have hsz : (DataW.weightsEach Try.prog (Try.f7.params.toList ++ Rows.fieldRowSpec.plain.varTypes Try.prog) (ds ++ gs)).all (· ≤ reachBytes) = true := hsz0
  have hval : ∀ (j : Nat) t v, Try.f7.params[j]? = some t → args[j]? = some v → Value.okWide Try.prog W .any base t v := hval0
  have hW' := hW
  obtain ⟨p, q, hA0, hV, rfl, hfz, hnd⟩ := hW
  have hA : DataW.TrodAll enc Try.prog W 0 (fun _ => true) true Try.f7.params.toList args.toList ds p := hA0
  rw [Try.params7] at hA hval hsz
  obtain ⟨v0, vs0, d0, ds0, p0, q0, hargs, rfl, rfl, h0, r0⟩ := trodAll_cons hA
  obtain ⟨v1, vs1, d1, ds1, p1, q1, rfl, rfl, rfl, h1, r1⟩ := trodAll_cons r0
  obtain ⟨rfl, rfl, rfl⟩ := trodAll_nil r1
  obtain rfl : args = #[v0, v1] := by cases args; simp_all
  obtain ⟨rfl, rfl⟩ := trodVars_none hV
  obtain ⟨a0, len0, cap0, rfl⟩ := okWide_slice Try.underlying35 (hval 0 35 v0 rfl rfl)
  have k0 := h0
  have lt0 : ∀ x ∈ p0, x.block < W.heap.size := by obtain ⟨m, hm⟩ := k0; exact DataW.trod_lt m _ _ _ hm
  obtain ⟨l0, n0, nc0, cm0, nl0, rd0, wf0, hl0⟩ : ∃ l : List Int, l.length = len0 ∧ len0 ≤ cap0 ∧ cap0 ≤ maxLen ∧ (a0 = none → len0 = 0 ∧ cap0 = 0) ∧ Rd W a0 (ivs .u64 l) ∧ (∀ n ∈ l, (Lit.int .u64 n).wf = true) ∧ (len0 = 0 ∨ ∃ es sp, d0 = .slice es sp ∧ es.length = len0) := by
    obtain ⟨fuel, hf⟩ := h0
    exact open_int_slice Try.underlying35 Try.underlying23 (by kernel_rfl) hf
  have hb0 : len0 * 8 ≤ 140737488351232 := reach_slice hsz (j := 0) rfl rfl Try.underlying35 (by kernel_rfl) hl0
  obtain ⟨a1, len1, cap1, rfl⟩ := okWide_slice Try.underlying36 (hval 1 36 v1 rfl rfl)
  have k1 := h1
  have lt1 : ∀ x ∈ p1, x.block < W.heap.size := by obtain ⟨m, hm⟩ := k1; exact DataW.trod_lt m _ _ _ hm
  obtain ⟨l1, n1, nc1, cm1, nl1, rd1, wf1, hl1⟩ : ∃ l : List Int, l.length = len1 ∧ len1 ≤ cap1 ∧ cap1 ≤ maxLen ∧ (a1 = none → len1 = 0 ∧ cap1 = 0) ∧ Rd W a1 (ivs .i64 l) ∧ (∀ n ∈ l, (Lit.int .i64 n).wf = true) ∧ (len1 = 0 ∨ ∃ es sp, d1 = .slice es sp ∧ es.length = len1) := by
    obtain ⟨fuel, hf⟩ := h1
    exact open_int_slice Try.underlying36 Try.underlying3 (by kernel_rfl) hf
  have hb1 : len1 * 8 ≤ 140737488351232 := reach_slice hsz (j := 1) rfl rfl Try.underlying36 (by kernel_rfl) hl1
  clear hA0 hval0 hsz0
  refine (fieldRow_walk a0 len0 cap0 l0 a1 len1 cap1 l1 W n0 nc0 cm0 hb0 nl0 rd0 wf0 n1 nc1 cm1 hb1 nl1 rd1 wf1).mono fun e W' ⟨he, bel⟩ => ?_
  subst he
  exact ⟨_, rfl, _, _, _, [], _, [], hW', trodAll_mk1 (shut_bool Try.underlying4 _), (trodAll_cons_mk (Below.trod laidOut (by kernel_rfl) (of_decide_eq_true (by kernel_rfl)) k0 bel lt0) (trodAll_cons_mk (Below.trod laidOut (by kernel_rfl) (of_decide_eq_true (by kernel_rfl)) k1 bel lt1) trodAll_mk0)), rfl, bel.frame _, fun h => by cases h⟩

/-- The statement. -/
theorem proved : Rows.FieldRowSaid :=
  OpenClaim.holds_of_wide 7 Try.f7 rfl rfl rfl rfl rfl rfl rfl ⟨rfl, rfl, rfl, rfl, rfl⟩ rfl rfl rfl rfl rfl (by kernel_rfl) Try.func7 (by kernel_rfl)
    (of_decide_eq_true (by kernel_rfl)) (by unfold Func.isWrapper; rw [if_neg (of_decide_eq_false (by kernel_rfl))]; exact ⟨rfl, rfl⟩)
    (fun os started H enc _ => lifted os started H enc)
#print axioms proved
end fieldRow
end Go.Proofs.Ytgmgjblekejgnaa
