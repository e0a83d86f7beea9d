/-
within, Get, Bytes of package sluicegateref1 (after XRef1: without Most, which this program does not reach).
-/
import Derived.Test.YtaghecgjmkhpcaaGreatDoorField2
import Derived.Test.YtaghecgjmkhpcaaGreatDoorApp
import Derived.Laws.IdiomStrings
import Derived.BigQuiet
import Derived.Deep.QuietTactic
import Derived.Deep.RegionWith
namespace Go.Proofs.YtaghecgjmkhpcaaGreatDoor
set_option linter.unusedVariables false
set_option linter.unusedSimpArgs false
open Go.RowKit

set_option maxHeartbeats 400000 in
theorem rwithin_any (A : Option Addr) (n c : Nat) (a s : Int) (w : World) (hn : n ≤ maxLen) (h1 : a ≤ 9223372036854775807) (h2 : s ≤ 9223372036854775807) :
    Calls Tryz.prog 68 #[.slice A n c, .int .i64 a, .int .i64 s] w fun e w' => e = .returned (.bool (withinB n a s)) ∧ w = w' := by
  unfold maxLen at hn
  by_cases h : 1 ≤ s ∧ s ≤ 8 ∧ 0 ≤ a ∧ a ≤ n
  · obtain ⟨h3, h4, h5, h6⟩ := h
    go_enter Tryz.func68, Tryz.ntmps68
    go_wp2
    go_ret
    refine ⟨ret_bool ?_, rfl⟩
    rw [Bool.eq_iff_iff, withinB_iff]
    simp; omega
  · go_enter Tryz.func68, Tryz.ntmps68
    go_wp2
    all_goals
      go_ret
      refine ⟨ret_bool ?_, rfl⟩
      simp [withinB]; omega

theorem or_step' (x y : Nat) (hx : x < 72057594037927936) (hy : y < 256) : IntKind.u64.wrap ((x : Int) * 256 + IntKind.u64.wrap (y : Int)) = ((x * 256 + y : Nat) : Int) := by
  rw [IntKind.wrap_u64, IntKind.wrap_u64]; omega

set_option maxHeartbeats 400000 in
theorem rget_yes' (A : Option Addr) (c : Nat) (l : List UInt8) (a s : Nat) (w : World) (hl : l.length ≤ c) (hc : c ≤ maxLen) (hr : Rd w A (bys l)) (hw : withinB l.length a s = true) :
    Calls Tryz.prog 53 #[.slice A l.length c, .int .i64 a, .int .i64 s] w fun e w' => e = .returned (.tuple #[.int .u64 (beN (part l a s) : Nat), .bool true]) ∧ w = w' := by
  have hm := hc
  unfold maxLen at hm
  obtain ⟨b1, b2, b3, b4⟩ := withinB_iff.1 hw
  go_enter Tryz.func53, Tryz.ntmps53
  go_wp2_with (go_at_call 68; refine (rwithin_any _ _ _ _ _ _ (by unfold maxLen; omega) (by omega) (by omega)).mono ?_; rintro e w' ⟨rfl, rfl⟩)
  go_loop [8, 23] (fun n i => ∃ k x : Nat, k ≤ s ∧ i = .int .i64 k ∧ n = .int .u64 x ∧ Hid (x = beN ((part l a s).take k))) (fun _ i => s - (intOf i).toNat)
  case atStart => exact ⟨0, 0, Nat.zero_le _, rfl, rfl, rfl⟩
  case round =>
    obtain ⟨k, x, hk, rfl, rfl, HX⟩ := hrel
    by_cases hlt : k < s
    · obtain ⟨ad, rfl, hcell⟩ := RdB.at_ hr (k := a + k) (by omega)
      rw [← add_add] at hcell
      have hx : x < 72057594037927936 := by rw [HX.out]; exact beN_take_lt l a s k (by omega)
      go_wp2
      go_round
      case rel =>
        refine ⟨k + 1, x * 256 + (l[a + k]'(by omega)).toNat, by omega, by go_num, ?_, ?_⟩
        · rw [or_step' _ _ hx (UInt8.toNat_lt _)]
        · show _ = _
          rw [part_step l a s k hlt (by omega), HX.out]
      case measure => simp [intOf]; omega
    · go_wp2
      go_ret2
      obtain rfl : k = s := by omega
      rw [HX.out, List.take_of_length_le (by rw [part_length (by omega)]; exact Nat.le_refl _)]
      exact ⟨rfl, rfl⟩
set_option maxHeartbeats 400000 in
theorem rget_no (A : Option Addr) (n c : Nat) (a s : Int) (w : World) (hn : n ≤ maxLen) (h1 : a ≤ 9223372036854775807) (h2 : s ≤ 9223372036854775807) (hw : withinB n a s = false) :
    Calls Tryz.prog 53 #[.slice A n c, .int .i64 a, .int .i64 s] w fun e w' => e = .returned (.tuple #[.int .u64 0, .bool false]) ∧ w = w' := by
  go_enter Tryz.func53, Tryz.ntmps53
  go_wp2_with (go_at_call 68; refine (rwithin_any _ _ _ _ _ _ hn h1 h2).mono ?_; rintro e w' ⟨rfl, rfl⟩)
  go_ret2
  exact ⟨rfl, rfl⟩
theorem rget_any (A : Option Addr) (n c : Nat) (l : List UInt8) (a s : Int) (w : World) (hn : l.length = n) (hl : n ≤ c) (hc : c ≤ maxLen) (hr : Rd w A (bys l)) (h1 : a ≤ 9223372036854775807) (h2 : s ≤ 9223372036854775807) :
    Calls Tryz.prog 53 #[.slice A n c, .int .i64 a, .int .i64 s] w fun e w' => e = .returned (.tuple #[.int .u64 (getN l a s : Nat), .bool (withinB n a s)]) ∧ w = w' := by
  subst hn
  cases hw : withinB l.length a s
  · refine (rget_no A l.length c a s w (by omega) h1 h2 hw).mono ?_
    rintro e w' ⟨rfl, rfl⟩
    exact ⟨by simp [getN, hw], rfl⟩
  · have hb := withinB_iff.1 hw
    obtain ⟨a', rfl⟩ := Int.eq_ofNat_of_zero_le hb.2.2.1
    obtain ⟨s', rfl⟩ := Int.eq_ofNat_of_zero_le (show 0 ≤ s by omega)
    refine (rget_yes' A c l a' s' w hl hc hr hw).mono ?_
    rintro e w' ⟨rfl, rfl⟩
    exact ⟨by simp [getN, hw], rfl⟩

theorem splice'_full (m : List UInt8) (l : List UInt8) (h : m.length = l.length) : splice' l 0 m = m := by
  unfold splice'
  rw [List.take_zero, List.nil_append, List.drop_of_length_le (by omega), List.append_nil]
set_option maxHeartbeats 400000 in
theorem rbytes_any (s num : Nat) (w : World) (hs : s ≤ 8) (hn : num ≤ 18446744073709551615) :
    Calls Tryz.prog 46 #[.int .i64 s, .int .u64 num] w fun e w' => ∃ A c, e = .returned (.slice A s c) ∧
      w'.ownsRow w.heap.size 5 1 (.slice A s c) s (bys (enc s num)) ∧ Below w.heap.size w w' := by
  have hmk := fun kl kc wx => run_mk (P := Tryz.prog) slU8 rfl s (by omega) kl kc wx
  have hmade := own_made (.int .u8 0) w s 5 (by unfold maxLen; omega) w.heap.size (Nat.le_refl _)
  rw [bys_zeros] at hmade
  go_enter Tryz.func46, Tryz.ntmps46
  go_wp2
  go_loopw [1, 6] (fun n i wr => ∃ (j x : Nat) (q : Int), j ≤ s ∧ Hid (q + j + 1 = s) ∧ i = .int .i64 q ∧ n = .int .u64 x ∧ x ≤ 18446744073709551615 ∧ Hid (x = num / 256 ^ j) ∧
      wr.ownsRow w.heap.size 5 1 (.slice (some ⟨w.heap.size, 0, none⟩) s s) s (bys (splice' (List.replicate s 0) (s - j) (enc j num))) ∧ Below w.heap.size w wr) (fun _ i _ => ((intOf i) + 1).toNat)
  case atStart => exact ⟨0, num, (s : Int) - 1, by omega, (by omega : (s : Int) - 1 + (0 : Nat) + 1 = s), rfl, rfl, hn, (by simp : num = num / 256 ^ 0), by simpa [enc, splice'_nil] using hmade, (Below.refl _ _).alloc (Nat.le_refl _) _⟩
  case round =>
    clear hmade hmk
    obtain ⟨j, x, q, hj, HQ, rfl, rfl, hx, HX, how, hbl⟩ := hrel
    have hQ1 : q + j + 1 ≤ s := Int.le_of_eq HQ.out
    have hQ2 : s ≤ q + j + 1 := Int.le_of_eq HQ.out.symm
    by_cases hlt : j < s
    · obtain ⟨k, rfl⟩ := Int.eq_ofNat_of_zero_le (show 0 ≤ q by omega)
      have hlen : k < (bys (splice' (List.replicate s 0) (s - j) (enc j num))).length := by
        rw [bys_length, splice'_length (by rw [enc_length]; simp; omega)]; simp; omega
      have hcell := how.cellAt k (by omega)
      rw [List.getElem?_eq_getElem hlen] at hcell
      have hfr := how.frozenAt k
      go_wp2
      go_roundw
      case rel =>
        have e1 : ((x : Int) % 256) = ((UInt8.ofNat (num / 256 ^ j)).toNat : Int) := by rw [← u8_of, HX.out]
        have hst := how.stored k (.int .u8 (x % 256))
        rw [e1] at hst
        rw [e1]
        refine ⟨j + 1, x / 256, (k : Int) - 1, by omega, ?_, rfl, by go_num, by omega, ?_, ?_, hbl.grown hst.2 hbl.size (fun b hb => by injection hb with hb; omega)⟩
        · have := HQ.out
          show (k : Int) - 1 + ((j + 1 : Nat) : Int) + 1 = s
          omega
        · show x / 256 = num / 256 ^ (j + 1)
          rw [HX.out, Nat.div_div_eq_div_mul, Nat.pow_succ]
        · have h1 := hst.1
          rw [bys_set] at h1
          rw [enc_cons, show s - (j + 1) = k by omega]
          rw [show s - j = k + 1 by omega] at h1
          rwa [splice'_set _ _ _ _ (by rw [enc_length, List.length_replicate]; omega)] at h1
      case measure => simp [intOf] <;> omega
    · obtain rfl : j = s := by omega
      go_wp2
      go_ret
      refine ⟨_, _, rfl, ?_, hbl⟩
      rw [Nat.sub_self, splice'_full _ _ (by rw [enc_length, List.length_replicate])] at how
      exact how
end Go.Proofs.YtaghecgjmkhpcaaGreatDoor
