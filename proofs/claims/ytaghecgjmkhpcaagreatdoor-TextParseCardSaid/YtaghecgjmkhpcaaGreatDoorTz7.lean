/-
The reference's split and number (package sluicegateref30).
-/
import Derived.Test.YtaghecgjmkhpcaaGreatDoorTz6
namespace Go.Proofs.YtaghecgjmkhpcaaGreatDoor
set_option linter.unusedVariables false
set_option linter.unusedSimpArgs false
open Go Go.RowKit

theorem ext_list (s : ByteArray) (l : List UInt8) (hs : ⟨l.toArray⟩ = s) (a b : Nat) : s.extract a b = ⟨((l.drop a).take (b - a)).toArray⟩ := by
  subst hs
  apply ByteArray.ext
  simp [ByteArray.data_extract, List.extract_toArray, List.extract_eq_take_drop]
theorem split_hit {c : UInt8} {l : List UInt8} {fr j : Nat} (hfj : fr ≤ j) (hj : j < l.length) (hc : l[j] = c) (hno : ∀ x ∈ (l.drop fr).take (j - fr), x ≠ c) : splitL c (l.drop fr) = (l.drop fr).take (j - fr) :: splitL c (l.drop (j + 1)) := by
  have e : l.drop fr = (l.drop fr).take (j - fr) ++ c :: l.drop (j + 1) := by
    have h1 := List.take_append_drop (j - fr) (l.drop fr)
    rw [List.drop_drop, show fr + (j - fr) = j by omega, List.drop_eq_getElem_cons hj, hc] at h1
    exact h1.symm
  conv => lhs; rw [e]
  exact splitL_app c _ _ hno
theorem no_snoc {c : UInt8} {l : List UInt8} {fr j : Nat} (hfj : fr ≤ j) (hj : j < l.length) (hc : l[j] ≠ c) (hno : ∀ x ∈ (l.drop fr).take (j - fr), x ≠ c) : ∀ x ∈ (l.drop fr).take (j + 1 - fr), x ≠ c := by
  intro x hx
  rw [show j + 1 - fr = (j - fr) + 1 by omega, List.take_succ_eq_append_getElem (by rw [List.length_drop]; omega)] at hx
  rcases List.mem_append.1 hx with hx | hx
  · exact hno x hx
  · rw [List.mem_singleton.1 hx, List.getElem_drop]
    have : fr + (j - fr) = j := by omega
    simp only [this]
    exact hc
set_option maxRecDepth 20000 in
set_option maxHeartbeats 2000000 in
theorem rsplit_any (l : List UInt8) (c : UInt8) (w : World) (hl : l.length ≤ 1000000) :
    Calls Tryz.prog 28 #[.string ⟨l.toArray⟩, .int .u8 (c.toNat : Int)] w fun e w' => ∃ (A : Option Addr) (n d : Nat), e = .returned (.slice A n d) ∧ Ws w w' A n d (splitL c l) := by
  obtain ⟨s, hs⟩ : ∃ s : ByteArray, ⟨l.toArray⟩ = s := ⟨_, rfl⟩
  have hsz : s.size = l.length := by subst hs; rfl
  have HS := Lib.hid hs
  have HZ := Lib.hid hsz
  have hss : s.size ≤ 1000000 := by omega
  rw [hs]
  clear hs hsz
  go_enter Tryz.func28, Tryz.ntmps28
  go_wp2
  go_loopw [5, 6, 7] (fun v5 v6 ix wr => ∃ (j fr m d : Nat) (A : Option Addr) (ws : List (List UInt8)), ix = .int .i64 j ∧ v6 = .int .i64 fr ∧ v5 = .slice A m d ∧ fr ≤ j ∧ j ≤ s.size ∧ m ≤ j ∧ Hid (Ws w wr A m d ws) ∧ Hid (∀ x ∈ (l.drop fr).take (j - fr), x ≠ c) ∧ Hid (splitL c l = ws ++ splitL c (l.drop fr))) (fun _ _ ix _ => s.size - (intOf ix).toNat)
  case atStart => exact ⟨0, 0, 0, 0, none, [], rfl, rfl, rfl, Nat.le_refl _, Nat.zero_le _, Nat.le_refl _, Lib.hid ⟨World.ownsRow_nil _ _ _ _, Below.refl _ _⟩, Lib.hid (by simp), Lib.hid (by simp)⟩
  case round =>
    obtain ⟨j, fr, m, d, A, ws, rfl, rfl, rfl, hfj, hjs, hmj, HW, HN, HQ⟩ := hrel
    by_cases hlt : j < s.size
    · have hjl : j < l.length := by have := HZ.out; omega
      have hsj : s[j] = l[j] := by have := HS.out; subst this; rfl
      obtain ⟨a, ha⟩ : ∃ a, l[j] = a := ⟨_, rfl⟩
      rw [ha] at hsj
      by_cases hac : a = c
      · subst hac
        have HA := Lib.hid ha
        have HH := Lib.hid (split_hit hfj hjl ha HN.out)
        obtain ⟨wdx, hwd⟩ : ∃ x, (l.drop fr).take (j - fr) = x := ⟨_, rfl⟩
        have he := ext_list s l HS.out fr j
        rw [hwd] at he HH
        have HE := Lib.hid he
        clear ha hwd he
        go_wp2_with (at_builtin; (rw [HE.out]); (refine wpList_app slStr rfl _ _ rfl w.heap.size A m d (strs ws) rfl (HW.out.alloc _).own (some ⟨wr.heap.size, 0, none⟩) 1 1 (strs [wdx]) rfl rfl (lit_str _ _) (strs_one _) (by omega) (HW.out.alloc _).b.size ?_); intro A7 c7 w7 ho7 hg7 hA7; have HW7 := Lib.hid ((HW.out.alloc _).app ho7 hg7); clear ho7 hg7 hA7)
        exact ⟨⟨j + 1, j + 1, m + 1, c7, A7, ws ++ [wdx], rfl, rfl, rfl, Nat.le_refl _, by omega, by omega, HW7, Lib.hid (by simp), Lib.hid (by rw [HQ.out, HH.out]; simp)⟩, by simp [intOf]; omega⟩
      · have h1 : ¬ a.toNat = c.toNat := fun h => hac (UInt8.toNat_inj.1 h)
        have h2 : decide (a.toNat = c.toNat) = false := decide_eq_false h1
        have HN2 := Lib.hid (no_snoc hfj hjl (by rw [ha]; exact hac) HN.out)
        clear ha
        go_wp2
        exact ⟨⟨j + 1, fr, m, d, A, ws, rfl, rfl, rfl, by omega, by omega, by omega, HW, HN2, HQ⟩, by simp [intOf]; omega⟩
    · have hje : j = s.size := by omega
      have HL : Hid (splitL c l = ws ++ [l.drop fr]) := Lib.hid (by
        rw [HQ.out, splitL_word c (l.drop fr)]
        intro x hx
        refine HN.out x ?_
        rwa [List.take_of_length_le (by rw [List.length_drop]; have := HZ.out; omega)])
      have he := ext_list s l HS.out fr s.size
      rw [List.take_of_length_le (by rw [List.length_drop]; have := HZ.out; omega)] at he
      obtain ⟨wdx, hwd⟩ : ∃ x, l.drop fr = x := ⟨_, rfl⟩
      rw [hwd] at he HL
      have HE := Lib.hid he
      clear hwd he
      go_wp2_with (at_builtin; (rw [HE.out]); (refine wpList_app slStr rfl _ _ rfl w.heap.size A m d (strs ws) rfl (HW.out.alloc _).own (some ⟨wr.heap.size, 0, none⟩) 1 1 (strs [wdx]) rfl rfl (lit_str _ _) (strs_one _) (by omega) (HW.out.alloc _).b.size ?_); intro A7 c7 w7 ho7 hg7 hA7; have HW7 := Lib.hid ((HW.out.alloc _).app ho7 hg7); clear ho7 hg7 hA7)
      go_ret
      exact ⟨A7, m + 1, c7, rfl, by rw [HL.out]; exact HW7.out⟩
theorem numL_step (l : List UInt8) (j : Nat) (h : j < l.length) : (l.take (j + 1)).foldl (fun n x => 10 * n + (x.toNat - 48)) 0 = 10 * (l.take j).foldl (fun n x => 10 * n + (x.toNat - 48)) 0 + (l[j].toNat - 48) := by
  rw [List.take_succ_eq_append_getElem h, List.foldl_append]
  rfl
theorem dig_bad (l : List UInt8) (j : Nat) (h : j < l.length) (hd : digB l[j] = false) : l.all digB = false := by
  rw [List.all_eq_false]
  exact ⟨l[j], List.getElem_mem h, by rw [hd]; decide⟩
set_option maxRecDepth 20000 in
theorem rnumber_any (l : List UInt8) (w : World) (hl : l.length ≤ 1000000) :
    Calls Tryz.prog 51 #[.string ⟨l.toArray⟩] w fun e w' => e = .returned (.int .i64 (numL l)) ∧ w = w' := by
  obtain ⟨s, hs⟩ : ∃ s : ByteArray, ⟨l.toArray⟩ = s := ⟨_, rfl⟩
  have hsz : s.size = l.length := by subst hs; rfl
  obtain ⟨R, hR⟩ : ∃ R, numL l = R := ⟨_, rfl⟩
  have HS := Lib.hid hs
  have HZ := Lib.hid hsz
  have HR := Lib.hid hR
  rw [hs, hR]
  have hss : s.size ≤ 1000000 := by omega
  clear hs
  by_cases c1 : s.size < 1
  · have : R = -1 := by rw [← hR, numL, if_pos (.inl (by omega))]
    subst this
    clear hsz hR HR
    go_enter Tryz.func51, Tryz.ntmps51
    go_wp2
    go_ret
    exact ⟨rfl, rfl⟩
  by_cases c2 : 3 < s.size
  · have : R = -1 := by rw [← hR, numL, if_pos (.inr (.inl (by omega)))]
    subst this
    clear hsz hR HR
    go_enter Tryz.func51, Tryz.ntmps51
    go_wp2
    go_ret
    exact ⟨rfl, rfl⟩
  clear hsz hR
  go_enter Tryz.func51, Tryz.ntmps51
  go_wp2
  go_loopw [3, 4] (fun v3 ix wr => ∃ (j n : Nat), ix = .int .i64 j ∧ v3 = .int .i64 n ∧ j ≤ s.size ∧ n ≤ 1000 * j ∧ Hid (∀ x ∈ l.take j, digB x = true) ∧ Hid ((l.take j).foldl (fun n x => 10 * n + (x.toNat - 48)) 0 = n) ∧ Hid (j = 0 → n = 0) ∧ Hid (j = 1 → n ≤ 9) ∧ Hid (j = 2 → n ≤ 99) ∧ wr = w) (fun _ ix _ => s.size - (intOf ix).toNat)
  case atStart => exact ⟨0, 0, rfl, rfl, Nat.zero_le _, Nat.le_refl _, Lib.hid (by simp), Lib.hid rfl, Lib.hid (fun _ => rfl), Lib.hid (by omega), Lib.hid (by omega), rfl⟩
  case round =>
    obtain ⟨j, n, rfl, rfl, hjs, hn, HD, HF, H0, H1, H2, rfl⟩ := hrel
    have hz := HZ.out
    by_cases hlt : j < s.size
    · have hjl : j < l.length := by omega
      have hsj : s[j] = l[j] := by have := HS.out; subst this; rfl
      have hst := numL_step l j hjl
      have hbad := dig_bad l j hjl
      have hdt : ∀ x ∈ l.take (j + 1), x ∈ l.take j ∨ x = l[j] := fun x hx => by
        rw [List.take_succ_eq_append_getElem hjl] at hx
        rcases List.mem_append.1 hx with h | h
        · exact .inl h
        · exact .inr (List.mem_singleton.1 h)
      obtain ⟨a, ha⟩ : ∃ a, l[j] = a := ⟨_, rfl⟩
      rw [ha] at hsj hst hbad hdt
      rw [HF.out] at hst
      have hna : n ≤ 99 := by
        have h0 := H0.out
        have h1 := H1.out
        have h2 := H2.out
        have : j = 0 ∨ j = 1 ∨ j = 2 := by omega
        rcases this with h | h | h
        · have := h0 h; omega
        · have := h1 h; omega
        · exact h2 h
      have hau := UInt8.toNat_lt a
      by_cases c3 : a.toNat < 48
      · have hr : R = -1 := by
          rw [← HR.out, numL, if_pos (.inr (.inr (hbad (by unfold digB; simp; omega))))]
        subst hr
        clear hst hbad hdt ha hz
        go_wp2
        go_ret
        exact ⟨rfl, rfl⟩
      by_cases c4 : 57 < a.toNat
      · have hr : R = -1 := by
          rw [← HR.out, numL, if_pos (.inr (.inr (hbad (by unfold digB; simp; omega))))]
        subst hr
        clear hst hbad hdt ha hz
        go_wp2
        go_ret
        exact ⟨rfl, rfl⟩
      have HX := Lib.hid (show (∀ x ∈ l.take (j + 1), digB x = true) from fun x hx => by
        rcases hdt x hx with h | rfl
        · exact HD.out x h
        · unfold digB; simp; omega)
      obtain ⟨b, hb⟩ : ∃ b, a.toNat = 48 + b := ⟨a.toNat - 48, by omega⟩
      have hst2 : (l.take (j + 1)).foldl (fun n x => 10 * n + (x.toNat - 48)) 0 = 10 * n + b := by rw [hst]; omega
      have HST := Lib.hid hst2
      have hb9 : b ≤ 9 := by omega
      have HNN := Lib.hid (And.intro H0.out (And.intro H1.out H2.out))
      clear hst hst2 hbad hdt ha hz
      go_wp2
      refine ⟨⟨j + 1, 10 * n + b, rfl, congrArg (Value.int .i64) (by omega), by omega, by omega, HX, HST, Lib.hid (by omega), Lib.hid (fun h => ?_), Lib.hid (fun h => ?_), trivial⟩, by simp [intOf]; omega⟩
      · have := HNN.out.1 (by omega)
        omega
      · have := HNN.out.2.1 (by omega)
        omega
    · obtain rfl : j = s.size := by omega
      have hr : R = n := by
        rw [← HR.out, numL, if_neg, ← HF.out, List.take_of_length_le (by omega)]
        rintro (h | h | h)
        · omega
        · omega
        · rw [List.all_eq_false] at h
          obtain ⟨x, hx, h2⟩ := h
          exact h2 (HD.out x (by rw [List.take_of_length_le (by omega)]; exact hx))
      subst hr
      clear hz
      go_wp2
      go_ret
      exact ⟨rfl, rfl⟩
end Go.Proofs.YtaghecgjmkhpcaaGreatDoor
