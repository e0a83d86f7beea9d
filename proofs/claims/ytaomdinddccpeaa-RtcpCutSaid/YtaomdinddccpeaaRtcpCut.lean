/-
RtcpCut: a beginning of items' bytes is the first items, or too short. For all items.
-/
import Derived.Test.YtaomdinddccpeaaRcV
import Derived.Test.YtaomdinddccpeaaItsFrame
import Derived.Test.YtaomdinddccpeaaRows
namespace Go.Proofs.Ytaomdinddccpeaa
set_option linter.unusedVariables false
set_option linter.unusedSimpArgs false
open Go Go.RowKit

theorem rowI_take (l : List Sl) (k : Nat) : rowI (l.take k) = (rowI l).take (k * 10) := by
  induction l generalizing k with
  | nil => simp [rowI]
  | cons b l ih =>
    rcases k with _ | k
    · simp [rowI]
    · have e1 : rowI (b :: l.take k) = slV b ++ rowI (l.take k) := by simp [rowI]
      have e2 : rowI (b :: l) = slV b ++ rowI l := by simp [rowI]
      rw [List.take_succ_cons, e1, e2, ih k, show (k + 1) * 10 = (slV b).length + k * 10 by simp [slV]; omega, List.take_append, List.take_of_length_le (l := slV b) (by omega), Nat.add_sub_cancel_left]
theorem Its.take {w : World} {A : Option Addr} {n c : Nat} {xs : List Sl} (h : Its w A n c xs) {k : Nat} (hk : k ≤ n) : Its w A k c (xs.take k) :=
  ⟨by rw [List.length_take, h.len]; omega, by have := h.nc; omega, h.cm, by rw [rowI_take]; exact h.rd.take _, fun x hx => h.rows x (List.mem_of_mem_take hx)⟩
theorem s_lt (l : List Itm) {j k : Nat} (hj : j < k) (hk : k ≤ l.length) : (itsL (l.take j)).length < (itsL (l.take k)).length := by
  have e : l.take k = l.take j ++ (l.take k).drop j := by
    have := (List.take_append_drop j (l.take k)).symm
    rwa [List.take_take, Nat.min_eq_left (by omega)] at this
  have hp : 4 ≤ (itsL ((l.take k).drop j)).length := by
    refine itsL_pos ?_
    intro hn
    have := congrArg List.length hn
    rw [List.length_drop, List.length_take, List.length_nil] at this
    omega
  rw [e, itsL_append, List.length_append]
  omega
theorem allG_tk {l : List Itm} (h : allG l = true) (k : Nat) : allG (l.take k) = true := by
  unfold allG at *
  rw [List.all_eq_true] at *
  exact fun i hi => h i (List.mem_of_mem_take hi)
theorem sizG_tk {l : List Itm} (h : allG l = true) (k : Nat) : sizG (l.take k) = (itsL (l.take k)).length := by unfold sizG; rw [if_pos (allG_tk h k)]
/-- A beginning that ends between two items, or at the end. -/
theorem cut_at {l : List Itm} (h : putsE l = 0) (ok : ∀ i ∈ l, i.Ok) {k n : Nat} (hk : k ≤ l.length) (h0 : 0 < k) (hn : (itsL (l.take k)).length = n) : getsE ((putsL l).take n) = 0 ∧ getsL ((putsL l).take n) = l.take k := by
  obtain ⟨q1, q2, q3, q4, q5, q6⟩ := puts_ok h
  have e : (putsL l).take n = itsL (l.take k) := by
    have : itsL l = itsL (l.take k) ++ itsL (l.drop k) := by rw [← itsL_append, List.take_append_drop]
    rw [q5, this, ← hn, List.take_left]
  have hlen : (itsL (l.take k)).length ≤ 512 := by have := itsL_take_le l k; omega
  have hg := gets_put (l.take k) (allG_tk q1 k) (fun i hi => ok i (List.mem_of_mem_take hi)) (by
    intro hn0
    have := congrArg List.length hn0
    rw [List.length_take, List.length_nil] at this
    omega) 8 (by rw [List.length_take]; omega)
  rw [e]
  unfold getsE getsL
  rw [if_neg (by omega), if_neg (by omega), hg]
  exact ⟨rfl, rfl⟩
theorem cut_off {l : List Itm} (h : putsE l = 0) (ok : ∀ i ∈ l, i.Ok) {n : Nat} (hn : n ≤ (putsL l).length) (hk : ∀ k, k ≤ l.length → 0 < k → (itsL (l.take k)).length ≠ n) : getsE ((putsL l).take n) = 2 ∧ getsL ((putsL l).take n) = [] := by
  obtain ⟨q1, q2, q3, q4, q5, q6⟩ := puts_ok h
  rw [q5] at hn ⊢
  have hg := gets_cut l q1 ok 8 q3 (by omega) n hn hk
  unfold getsE getsL
  rw [if_neg (by rw [List.length_take]; omega), if_neg (by rw [List.length_take]; omega), hg]
  exact ⟨rfl, rfl⟩
namespace rtcpCut
theorem bts_take {w : World} {X : Option Addr} {n c : Nat} {l : List UInt8} (h : Bts w X n c l) {k : Nat} (hk : k ≤ n) : Bts w X k c (l.take k) :=
  ⟨by rw [List.length_take, h.len]; omega, by have := h.nc; omega, h.cm, by rw [← bys_take]; exact h.rd.take k⟩
set_option maxRecDepth 20000 in
set_option maxHeartbeats 8000000 in
theorem cut_yes (A : Option Addr) (n c : Nat) (xs : List Sl) (w : World) (h : Its w A n c xs) (hn : n ≤ 140737488351232) (nn k0 : Nat) (hp : putsE (itm xs) = 0) (h0 : 0 < k0) (hk0 : k0 ≤ n) (hs : (itsL ((itm xs).take k0)).length = nn) (hnl : nn ≤ (putsL (itm xs)).length) :
    Calls Try.prog 13 #[.slice A n c, .int .i64 nn] w fun e w' => e = .returned (.bool true) ∧ Below w.heap.size w w' := by
  have HI := Lib.hid h
  have HOK := Lib.hid (itm_ok h)
  have HL := Lib.hid h.len
  have HIL : Hid ((itm xs).length = n) := by show _ = _; rw [itm_len]; exact h.len
  have m1 := h.nc
  have m2 := h.cm
  unfold maxLen at m2
  obtain ⟨g1, g2⟩ := cut_at hp HOK.out (by rw [HIL.out]; exact hk0) h0 hs
  obtain ⟨q1, q2, q3, q4, q5, q6⟩ := puts_ok hp
  obtain ⟨b, hb⟩ : ∃ b, putsL (itm xs) = b := ⟨_, rfl⟩
  obtain ⟨m, hm⟩ : ∃ m, b.length = m := ⟨_, rfl⟩
  have HF : Hid (k0 = n → nn = m) := by
    intro e
    rw [← hs, ← hm, ← hb, q5, e, List.take_of_length_le (by rw [HIL.out]; exact Nat.le_refl _)]
  have HAL := Lib.hid q1
  have HP : Hid ((0 : Int) = (putsE (itm xs) : Nat) ∧ putsL (itm xs) = b ∧ b.length = m) := ⟨by rw [hp]; rfl, hb, hm⟩
  rw [hb] at g1 g2 hnl
  rw [hm] at hnl
  have hm5 : m ≤ 512 := by rw [← hm, ← hb, q5]; exact q4
  have HG : Hid ((0 : Int) = (getsE (b.take nn) : Nat) ∧ getsL (b.take nn) = (itm xs).take k0 ∧ ((itm xs).take k0).length = k0) := ⟨by rw [g1]; rfl, g2, by rw [List.length_take, HIL.out]; omega⟩
  have HSS := Lib.hid hs
  have hnm : nn ≤ m := hnl
  have hI1 : (0 : Int) ≤ (nn : Int) := by omega
  have hI2 : (nn : Int) ≤ (m : Int) := by omega
  have hI3 : ¬ m < nn := by omega
  clear h hp hs hnl g1 g2 q1 q2 q3 q4 q5 q6 hb hm
  go_enter Try.func13, Try.ntmps13
  go_wp2_with (first
    | (go_at_call 29; ((with_reducible refine (shown9_any _).mono ?_); rintro e w1 ⟨rfl, hb1⟩))
    | (go_at_call 30; ((with_reducible refine (rcput_v A n c xs _ (HI.out.below hb1) hn b 0 m HP.out.1 HP.out.2.1 HP.out.2.2).mono ?_); rintro e w2 ⟨B, c2, rfl, ho2, hb2⟩; have hw2 := hb1.trans (hb2.mono hb1.size); have hcap := own_cap ho2; have hcm2 := hcap.2; have hcn2 := hcap.1; unfold maxLen at hcm2; clear hcap))
    | (go_at_call 36; ((with_reducible refine (rcget_v B nn c2 (b.take nn) _ (bts_take (own_btsR ho2) hnm) ((itm xs).take k0) 0 k0 HG.out.1 HG.out.2.1 HG.out.2.2).mono ?_); rintro e w3 ⟨A3, c3, zs, rfl, hi3, ho3, hb3⟩; have hw3 := Lib.hid (hw2.trans (hb3.mono hw2.size)); have HZ := Lib.hid ho3.out)))
  go_loopw [38] (fun ix wr => ∃ k : Nat, ix = .int .i64 k ∧ k ≤ k0 ∧ Hid (Below w3.heap.size w3 wr)) (fun ix _ => n - (intOf ix).toNat)
  case atStart => exact ⟨0, rfl, Nat.zero_le _, Below.refl _ _⟩
  case round =>
    obtain ⟨k, rfl, hkn, HBR⟩ := hrel
    have HWR := Lib.hid (hw3.out.trans (HBR.out.mono hw3.out.size))
    by_cases hlt : k < n
    · by_cases hkk : k = 0
      · subst hkk
        go_wp2
        exact ⟨⟨1, rfl, by omega, HBR.out⟩, by simp [intOf]; omega⟩
      have hkp : (0 : Int) < (k : Int) := by omega
      have hkc : k ≤ c := by omega
      have hkcI : (k : Int) ≤ (c : Int) := by omega
      have HT := Lib.hid ((HI.out.below HWR.out).take (k := k) (by omega))
      obtain ⟨sk, hsk⟩ : ∃ s, (itsL ((itm xs).take k)).length = s := ⟨_, rfl⟩
      have HS : Hid ((sk : Int) = (sizG (itm (xs.take k)) : Nat)) := by show _ = _; rw [← itm_take', sizG_tk HAL.out, hsk]
      by_cases hke : k = k0
      · subst hke
        have hse : sk = nn := by rw [← hsk]; exact HSS.out
        subst hse
        have HE : Hid (itm zs = itm (xs.take k)) := by show _ = _; rw [hi3.out, itm_take']
        clear hsk hkk
        go_wp2_with (first
          | (go_at_call 34; ((with_reducible refine (rcsizes_v A k c (xs.take k) _ HT.out (by omega) (sk : Int) HS.out).mono ?_); rintro e w4 ⟨rfl, hb4⟩; have HW4 := Lib.hid (HWR.out.trans (hb4.mono HWR.out.size)); have HZ4 := Lib.hid ((HZ.out.below HBR.out).below hb4).its; have HT4 := Lib.hid (HT.out.below hb4)))
          | (go_at_call 38; ((with_reducible refine (sameIts_any A3 k c3 zs A k c (xs.take k) _ HZ4.out HT4.out HE.out).mono ?_); rintro e w5 ⟨rfl, hb5⟩)))
        go_ret
        exact ⟨rfl, HW4.out.trans (hb5.mono HW4.out.size)⟩
      · have hne : sk ≠ nn := by
          have := s_lt (itm xs) (j := k) (k := k0) (by omega) (by rw [HIL.out]; exact hk0)
          rw [hsk, HSS.out] at this
          omega
        have hne1 : (sk == nn) = false := by simp; omega
        have hne2 : ((sk : Int) == (nn : Int)) = false := by simp; omega
        clear hsk hne
        go_wp2_with (go_at_call 34; ((with_reducible refine (rcsizes_v A k c (xs.take k) _ HT.out (by omega) (sk : Int) HS.out).mono ?_); rintro e w4 ⟨rfl, hb4⟩))
        exact ⟨⟨k + 1, rfl, by omega, HBR.out.trans (hb4.mono HBR.out.size)⟩, by simp [intOf]; omega⟩
    · have hkk : k = n := by omega
      have hk0n : k0 = n := by omega
      have hnnm := HF.out hk0n
      subst hnnm
      subst hk0n
      have HE : Hid (itm zs = itm xs) := by show _ = _; rw [hi3.out, List.take_of_length_le (by rw [HIL.out]; exact Nat.le_refl _)]
      have HZ4 := Lib.hid (HZ.out.below HBR.out).its
      clear hkk
      go_wp2_with (go_at_call 38; ((with_reducible refine (sameIts_any A3 k0 c3 zs A k0 c xs _ HZ4.out (HI.out.below HWR.out) HE.out).mono ?_); rintro e w5 ⟨rfl, hb5⟩))
      go_ret
      exact ⟨rfl, HWR.out.trans (hb5.mono HWR.out.size)⟩
set_option maxRecDepth 20000 in
set_option maxHeartbeats 8000000 in
theorem cut_no (A : Option Addr) (n c : Nat) (xs : List Sl) (w : World) (h : Its w A n c xs) (hn : n ≤ 140737488351232) (nn : Nat) (hp : putsE (itm xs) = 0) (hk : ∀ k, k ≤ (itm xs).length → 0 < k → (itsL ((itm xs).take k)).length ≠ nn) (hnl : nn ≤ (putsL (itm xs)).length) :
    Calls Try.prog 13 #[.slice A n c, .int .i64 nn] w fun e w' => e = .returned (.bool true) ∧ Below w.heap.size w w' := by
  have HI := Lib.hid h
  have HOK := Lib.hid (itm_ok h)
  have HL := Lib.hid h.len
  have HIL : Hid ((itm xs).length = n) := by show _ = _; rw [itm_len]; exact h.len
  have m1 := h.nc
  have m2 := h.cm
  unfold maxLen at m2
  obtain ⟨g1, g2⟩ := cut_off hp HOK.out hnl hk
  obtain ⟨q1, q2, q3, q4, q5, q6⟩ := puts_ok hp
  obtain ⟨b, hb⟩ : ∃ b, putsL (itm xs) = b := ⟨_, rfl⟩
  obtain ⟨m, hm⟩ : ∃ m, b.length = m := ⟨_, rfl⟩
  have HKA := Lib.hid hk
  have hnnm : nn ≠ m := by
    have h1 : 0 < (itm xs).length := by
      rcases hq : itm xs with _ | ⟨i, l⟩
      · exact absurd hq q2
      · simp
    have h2 := hk _ (Nat.le_refl _) h1
    rw [List.take_of_length_le (Nat.le_refl _), ← q5, hb, hm] at h2
    exact fun e => h2 e.symm
  have hnm1 : (nn == m) = false := by simp; omega
  have hnm2 : ((nn : Int) == (m : Int)) = false := by simp; omega
  have HAL := Lib.hid q1
  have HP : Hid ((0 : Int) = (putsE (itm xs) : Nat) ∧ putsL (itm xs) = b ∧ b.length = m) := ⟨by rw [hp]; rfl, hb, hm⟩
  rw [hb] at g1 g2 hnl
  rw [hm] at hnl
  have hm5 : m ≤ 512 := by rw [← hm, ← hb, q5]; exact q4
  have HG : Hid ((2 : Int) = (getsE (b.take nn) : Nat) ∧ getsL (b.take nn) = [] ∧ ([] : List Itm).length = 0) := ⟨by rw [g1]; rfl, g2, rfl⟩
  have hnm : nn ≤ m := hnl
  have hI1 : (0 : Int) ≤ (nn : Int) := by omega
  have hI2 : (nn : Int) ≤ (m : Int) := by omega
  have hI3 : ¬ m < nn := by omega
  clear h hp hnl g1 g2 q1 q2 q3 q4 q5 q6 hb hm hk hnnm
  go_enter Try.func13, Try.ntmps13
  go_wp2_with (first
    | (go_at_call 29; ((with_reducible refine (shown9_any _).mono ?_); rintro e w1 ⟨rfl, hb1⟩))
    | (go_at_call 30; ((with_reducible refine (rcput_v A n c xs _ (HI.out.below hb1) hn b 0 m HP.out.1 HP.out.2.1 HP.out.2.2).mono ?_); rintro e w2 ⟨B, c2, rfl, ho2, hb2⟩; have hw2 := hb1.trans (hb2.mono hb1.size); have hcap := own_cap ho2; have hcm2 := hcap.2; have hcn2 := hcap.1; unfold maxLen at hcm2; clear hcap))
    | (go_at_call 36; ((with_reducible refine (rcget_v B nn c2 (b.take nn) _ (bts_take (own_btsR ho2) hnm) [] 2 0 HG.out.1 HG.out.2.1 HG.out.2.2).mono ?_); rintro e w3 ⟨A3, c3, zs, rfl, hi3, ho3, hb3⟩; have hw3 := Lib.hid (hw2.trans (hb3.mono hw2.size)); have HZ := Lib.hid ho3.out)))
  go_loopw [38] (fun ix wr => ∃ k : Nat, ix = .int .i64 k ∧ k ≤ n ∧ Hid (Below w3.heap.size w3 wr)) (fun ix _ => n - (intOf ix).toNat)
  case atStart => exact ⟨0, rfl, Nat.zero_le _, Below.refl _ _⟩
  case round =>
    obtain ⟨k, rfl, hkn, HBR⟩ := hrel
    have HWR := Lib.hid (hw3.out.trans (HBR.out.mono hw3.out.size))
    by_cases hlt : k < n
    · by_cases hkk : k = 0
      · subst hkk
        go_wp2
        exact ⟨⟨1, rfl, by omega, HBR.out⟩, by simp [intOf]; omega⟩
      have hkp : (0 : Int) < (k : Int) := by omega
      have hkc : k ≤ c := by omega
      have hkcI : (k : Int) ≤ (c : Int) := by omega
      have HT := Lib.hid ((HI.out.below HWR.out).take (k := k) (by omega))
      obtain ⟨sk, hsk⟩ : ∃ s, (itsL ((itm xs).take k)).length = s := ⟨_, rfl⟩
      have HS : Hid ((sk : Int) = (sizG (itm (xs.take k)) : Nat)) := by show _ = _; rw [← itm_take', sizG_tk HAL.out, hsk]
      have hne : sk ≠ nn := by
        rw [← hsk]
        exact HKA.out k (by rw [HIL.out]; omega) (by omega)
      have hne1 : (sk == nn) = false := by simp; omega
      have hne2 : ((sk : Int) == (nn : Int)) = false := by simp; omega
      clear hsk hne
      go_wp2_with (go_at_call 34; ((with_reducible refine (rcsizes_v A k c (xs.take k) _ HT.out (by omega) (sk : Int) HS.out).mono ?_); rintro e w4 ⟨rfl, hb4⟩))
      exact ⟨⟨k + 1, rfl, by omega, HBR.out.trans (hb4.mono HBR.out.size)⟩, by simp [intOf]; omega⟩
    · have hkk : k = n := by omega
      clear hkk
      go_wp2
      go_ret
      exact ⟨rfl, HWR.out⟩
set_option maxRecDepth 20000 in
set_option maxHeartbeats 8000000 in
theorem rtcpCut_walk (A : Option Addr) (n c : Nat) (xs : List Sl) (N : Int) (w : World) (h : Its w A n c xs) (hn0 : n * 120 ≤ 140737488351232) (hN : -9223372036854775808 ≤ N ∧ N ≤ 9223372036854775807) :
    Calls Try.prog 13 #[.slice A n c, .int .i64 N] w fun e w' => e = .returned (.bool true) ∧ Below w.heap.size w w' := by
  have hn : n ≤ 140737488351232 := by omega
  by_cases hp : putsE (itm xs) = 0
  case neg =>
    have HI := Lib.hid h
    obtain ⟨Z, h2⟩ : ∃ x : Int, x = (putsE (itm xs) : Nat) := ⟨_, rfl⟩
    have hZ0 : (Z != 0) = true := by simp; omega
    have HP : Hid (Z = (putsE (itm xs) : Nat) ∧ putsL (itm xs) = [] ∧ ([] : List UInt8).length = 0) := ⟨h2, putsL_no hp, rfl⟩
    clear h hp h2 hn0
    go_enter Try.func13, Try.ntmps13
    go_wp2_with (first
      | (go_at_call 29; ((with_reducible refine (shown9_any _).mono ?_); rintro e w1 ⟨rfl, hb1⟩))
      | (go_at_call 30; ((with_reducible refine (rcput_v A n c xs _ (HI.out.below hb1) hn [] Z 0 HP.out.1 HP.out.2.1 HP.out.2.2).mono ?_); rintro e w2 ⟨B, c2, rfl, ho2, hb2⟩; have hw2 := hb1.trans (hb2.mono hb1.size); have hcap := own_cap ho2; have hcm2 := hcap.2; have hcn2 := hcap.1; unfold maxLen at hcm2; clear hcap)))
    go_ret
    exact ⟨rfl, hw2⟩
  by_cases hr : 0 ≤ N ∧ N ≤ (putsL (itm xs)).length
  · obtain ⟨nn, rfl⟩ : ∃ nn : Nat, N = (nn : Int) := ⟨N.toNat, by omega⟩
    by_cases hk : ∃ k0, 0 < k0 ∧ k0 ≤ n ∧ (itsL ((itm xs).take k0)).length = nn
    · obtain ⟨k0, h1, h2, h3⟩ := hk
      exact cut_yes A n c xs w h hn nn k0 hp h1 h2 h3 (by omega)
    · refine cut_no A n c xs w h hn nn hp ?_ (by omega)
      intro k hk1 hk2 hk3
      exact hk ⟨k, hk2, by rw [itm_len, h.len] at hk1; exact hk1, hk3⟩
  · have HI := Lib.hid h
    obtain ⟨b, hb⟩ : ∃ b, putsL (itm xs) = b := ⟨_, rfl⟩
    obtain ⟨m, hm⟩ : ∃ m, b.length = m := ⟨_, rfl⟩
    have HP : Hid ((0 : Int) = (putsE (itm xs) : Nat) ∧ putsL (itm xs) = b ∧ b.length = m) := ⟨by rw [hp]; rfl, hb, hm⟩
    rw [hb, hm] at hr
    clear h hp hb hm hn0
    by_cases hneg : N < 0
    · have u1 : decide (N < 0) = true := by simp; omega
      clear hr
      go_enter Try.func13, Try.ntmps13
      go_wp2_with (first
        | (go_at_call 29; ((with_reducible refine (shown9_any _).mono ?_); rintro e w1 ⟨rfl, hb1⟩))
        | (go_at_call 30; ((with_reducible refine (rcput_v A n c xs _ (HI.out.below hb1) hn b 0 m HP.out.1 HP.out.2.1 HP.out.2.2).mono ?_); rintro e w2 ⟨B, c2, rfl, ho2, hb2⟩; have hw2 := hb1.trans (hb2.mono hb1.size); have hcap := own_cap ho2; have hcm2 := hcap.2; have hcn2 := hcap.1; unfold maxLen at hcm2; clear hcap)))
      go_ret
      exact ⟨rfl, hw2⟩
    · have u1 : decide (N < 0) = false := by simp; omega
      have u2 : decide ((m : Int) < N) = true := by simp; omega
      clear hr hneg
      go_enter Try.func13, Try.ntmps13
      go_wp2_with (first
        | (go_at_call 29; ((with_reducible refine (shown9_any _).mono ?_); rintro e w1 ⟨rfl, hb1⟩))
        | (go_at_call 30; ((with_reducible refine (rcput_v A n c xs _ (HI.out.below hb1) hn b 0 m HP.out.1 HP.out.2.1 HP.out.2.2).mono ?_); rintro e w2 ⟨B, c2, rfl, ho2, hb2⟩; have hw2 := hb1.trans (hb2.mono hb1.size); have hcap := own_cap ho2; have hcm2 := hcap.2; have hcn2 := hcap.1; unfold maxLen at hcm2; clear hcap)))
      go_ret
      exact ⟨rfl, hw2⟩
end rtcpCut
namespace rtcpCut
open Go.ChangeShapes Go.WideShapes Go.ChangeAt Go.RowKit
open Go.ChangeMaps (open_string shut_string)
set_option linter.unusedVariables false

theorem own : ownKnob Try.prog.godebug = none := by kernel_rfl
theorem laidOut : laidOutB Try.prog = true := by kernel_rfl

set_option maxRecDepth 100000 in
theorem lifted (os : Os) (started : os.Started) (H : Type) (enc : TypeId × Value → H) :
    ReturnsInHanded {} Try.checked os 13 .any (Rows.rtcpCutSpec.pre6 enc Try.prog Try.f13 Rows.rtcpCutRow.domain false) (Rows.rtcpCutSpec.post enc Try.prog Try.f13 false true false false) := by
  refine returnsInHanded_of_change_sized (C := Try.checked) own started (by kernel_rfl) Try.func13
    (ChangeSpec.witness6 (enc := enc) (C := Try.checked) false ⟨#[], #[.slice none 0 0, .int .i64 0], []⟩ 8 (by kernel_rfl) (by kernel_rfl) (by kernel_rfl) (by kernel_rfl)) ?_
  intro W base args ds gs before hval0 hW hcnd hsz0 _
  have hsz : (DataW.weightsEach Try.prog (Try.f13.params.toList ++ Rows.rtcpCutSpec.plain.varTypes Try.prog) (ds ++ gs)).all (· ≤ reachBytes) = true := hsz0
  have hval : ∀ (j : Nat) t v, Try.f13.params[j]? = some t → args[j]? = some v → Value.okWide Try.prog W .any base t v := hval0
  have hW' := hW
  obtain ⟨p, q, hA0, hV, rfl, hfz, hnd⟩ := hW
  have hA : DataW.TrodAll enc Try.prog W 0 (fun _ => true) true Try.f13.params.toList args.toList ds p := hA0
  rw [Try.params13] at hA hval hsz
  obtain ⟨v0, vs0, d0, ds0, p0, q0, hargs, rfl, rfl, h0, r0⟩ := trodAll_cons hA
  obtain ⟨v1, vs1, d1, ds1, p1, q1, rfl, rfl, rfl, h1, r1⟩ := trodAll_cons r0
  obtain ⟨rfl, rfl, rfl⟩ := trodAll_nil r1
  obtain rfl : args = #[v0, v1] := by cases args; simp_all
  obtain ⟨rfl, rfl⟩ := trodVars_none hV
  obtain ⟨a0, len0, cap0, rfl⟩ := okWide_slice Try.underlying58 (hval 0 58 v0 rfl rfl)
  have k0 := h0
  have lt0 : ∀ x ∈ p0, x.block < W.heap.size := by obtain ⟨m, hm⟩ := k0; exact DataW.trod_lt m _ _ _ hm
  obtain ⟨xs0, it0⟩ : ∃ xs, Its W a0 len0 cap0 xs := by obtain ⟨fuel, hf⟩ := h0; exact open_items hf
  have hl0 : len0 = 0 ∨ ∃ es sp, d0 = .slice es sp ∧ es.length = len0 := by obtain ⟨fuel, hf⟩ := h0; exact slice_len Try.underlying58 hf
  have hb0 : len0 * 120 ≤ 140737488351232 := reach_slice hsz (j := 0) rfl rfl Try.underlying58 (by kernel_rfl) hl0
  obtain ⟨x1, rfl, rfl, rfl, w1⟩ := open_int Try.underlying3 (hval 1 3 v1 rfl rfl) h1
  clear hA0 hval0 hsz0
  refine (rtcpCut_walk a0 len0 cap0 xs0 x1 W it0 hb0 (bounds_i64 w1)).mono fun e W' ⟨he, bel⟩ => ?_
  subst he
  exact ⟨_, rfl, _, _, _, [], _, [], hW', trodAll_mk1 (shut_bool Try.underlying4 _), (trodAll_cons_mk (Below.trod laidOut (by kernel_rfl) (of_decide_eq_true (by kernel_rfl)) k0 bel lt0) (trodAll_cons_mk (shut_int Try.underlying3 w1) trodAll_mk0)), rfl, bel.frame _, fun h => by cases h⟩

/-- The statement. -/
theorem proved : Rows.RtcpCutSaid :=
  OpenClaim.holds_of_wide 13 Try.f13 rfl rfl rfl rfl rfl rfl rfl ⟨rfl, rfl, rfl, rfl, rfl⟩ rfl rfl rfl rfl rfl (by kernel_rfl) Try.func13 (by kernel_rfl)
    (of_decide_eq_true (by kernel_rfl)) (by unfold Func.isWrapper; rw [if_neg (of_decide_eq_false (by kernel_rfl))]; exact ⟨rfl, rfl⟩)
    (fun os started H enc _ => lifted os started H enc)
#print axioms proved
end rtcpCut
end Go.Proofs.Ytaomdinddccpeaa
