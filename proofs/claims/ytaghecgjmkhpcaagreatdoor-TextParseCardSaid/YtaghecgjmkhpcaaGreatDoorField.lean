/-
What the functions of package field do, said of cells.
-/
import Derived.Test.YtaghecgjmkhpcaaGreatDoorRows
import Derived.Test.YtaghecgjmkhpcaaGreatDoorMem
import Derived.Test.YtaghecgjmkhpcaaGreatDoorNum
import Derived.WalkKit
import Derived.WalkSpells
import Derived.WalkLawsBesides
import Derived.Laws.BitsAllLaws
import Derived.IntWalk
namespace Go.Proofs.YtaghecgjmkhpcaaGreatDoor
set_option linter.unusedVariables false
set_option linter.unusedSimpArgs false
open Go.RowKit

theorem ret_bool {a b : Bool} (h : a = b) : Ending.returned (.bool a) = .returned (.bool b) := by rw [h]
theorem ret_int {k : IntKind} {a b : Int} (h : a = b) : Ending.returned (.int k a) = .returned (.int k b) := by rw [h]

set_option maxHeartbeats 400000 in
theorem within_any (A : Option Addr) (n c : Nat) (a s : Int) (w : World) (hn : n ≤ maxLen) (h1 : a ≤ 9223372036854775807) (h2 : s ≤ 9223372036854775807) :
    Calls Tryz.prog 70 #[.slice A n c, .int .i64 a, .int .i64 s] w fun e w' => e = .returned (.bool (withinB n a s)) ∧ w = w' := by
  unfold maxLen at hn
  by_cases h : 1 ≤ s ∧ s ≤ 8 ∧ 0 ≤ a
  · obtain ⟨h3, h4, h5⟩ := h
    go_enter Tryz.func70, Tryz.ntmps70
    go_wp2
    go_ret
    refine ⟨ret_bool ?_, rfl⟩
    rw [Bool.eq_iff_iff, withinB_iff]
    simp; omega
  · go_enter Tryz.func70, Tryz.ntmps70
    go_wp2
    all_goals
      go_ret
      refine ⟨ret_bool ?_, rfl⟩
      simp [withinB]; omega

theorem pow_8 (k : Nat) : (2 : Nat) ^ (8 * k) = 256 ^ k := by rw [Nat.pow_mul]
theorem fits_eq (s : Int) (n : Nat) (h1 : 1 ≤ s) (h2 : s ≤ 8) : ((n : Int) / 2 ^ (8 * s).toNat == 0) = fitsB s n := by
  obtain ⟨k, rfl⟩ := Int.eq_ofNat_of_zero_le (show 0 ≤ s by omega)
  rw [Bool.eq_iff_iff, fitsB_iff, beq_iff_eq]
  have e : (8 * (k : Int)).toNat = 8 * k := by omega
  have e2 : ((2 : Int) ^ (8 * k)) = ((256 ^ k : Nat) : Int) := by rw [← pow_8]; simp
  rw [e, e2, Int.toNat_natCast, ← Int.natCast_ediv]
  have hp : 0 < 256 ^ k := Nat.pow_pos (by omega)
  rw [show ((n / 256 ^ k : Nat) : Int) = 0 ↔ n / 256 ^ k = 0 by omega, Nat.div_eq_zero_iff]
  omega

set_option maxHeartbeats 400000 in
theorem fits_any (s n : Int) (w : World) (h0 : 0 ≤ n) (h1 : n ≤ 18446744073709551615) :
    Calls Tryz.prog 59 #[.int .i64 s, .int .u64 n] w fun e w' => e = .returned (.bool (fitsB s n.toNat)) ∧ w = w' := by
  by_cases h : 1 ≤ s ∧ s ≤ 8
  · obtain ⟨hs1, hs2⟩ := h
    go_enter Tryz.func59, Tryz.ntmps59
    go_wp2
    go_ret
    refine ⟨ret_bool ?_, rfl⟩
    rw [← fits_eq s n.toNat hs1 hs2, Int.toNat_of_nonneg h0]
  · go_enter Tryz.func59, Tryz.ntmps59
    go_wp2
    all_goals
      go_ret
      refine ⟨ret_bool ?_, rfl⟩
      simp [fitsB]; omega

theorem or_step (x y : Nat) (hx : x < 72057594037927936) (hy : y < 256) :
    bits BinOp.or IntKind.u64 (IntKind.u64.wrap ((x : Int) * 256)) (IntKind.u64.wrap (y : Int)) = ((x * 256 + y : Nat) : Int) := by
  have e1 : IntKind.u64.wrap ((x : Int) * 256) = ((x * 256 : Nat) : Int) := by
    rw [IntKind.wrap_u64]; omega
  have e2 : IntKind.u64.wrap (y : Int) = (y : Int) := by
    rw [IntKind.wrap_u64]; omega
  rw [e1, e2, u64_or_nat _ _ (by omega) (by omega), nat_join 8 (x * 256) y (by omega) (by omega)]
theorem part_step (l : List UInt8) (a s k : Nat) (hk : k < s) (h : a + s ≤ l.length) : beN ((part l a s).take (k + 1)) = beN ((part l a s).take k) * 256 + (l[a + k]'(by omega)).toNat := by
  have hp : k < (part l a s).length := by rw [part_length h]; exact hk
  have e : (part l a s).take (k + 1) = (part l a s).take k ++ [l[a + k]'(by omega)] := by
    rw [List.take_succ_eq_append_getElem hp]
    congr 2
    simp [part]
  rw [e, beN_snoc]
theorem beN_take_lt (l : List UInt8) (a s k : Nat) (hk : k < 8) : beN ((part l a s).take k) < 72057594037927936 := by
  have h := beN_lt ((part l a s).take k)
  have h2 : ((part l a s).take k).length ≤ 7 := by simp; omega
  have : (256 : Nat) ^ ((part l a s).take k).length ≤ 256 ^ 7 := Nat.pow_le_pow_right (by omega) h2
  omega

set_option maxHeartbeats 400000 in
theorem get_yes' (A : Option Addr) (c : Nat) (l : List UInt8) (a s : Nat) (w : World) (hl : l.length ≤ c) (hc : c ≤ maxLen) (hr : Rd w A (bys l)) (hw : withinB l.length a s = true) :
    Calls Tryz.prog 77 #[.slice A l.length c, .int .i64 a, .int .i64 s] w fun e w' => e = .returned (.tuple #[.int .u64 (beN (part l a s) : Nat), .bool true]) ∧ w = w' := by
  have hm := hc
  unfold maxLen at hm
  obtain ⟨b1, b2, b3, b4⟩ := withinB_iff.1 hw
  go_enter Tryz.func77, Tryz.ntmps77
  go_wp2_with (go_at_call 70; refine (within_any _ _ _ _ _ _ (by unfold maxLen; omega) (by omega) (by omega)).mono ?_; rintro e w' ⟨rfl, rfl⟩)
  go_loop [8, 23] (fun n i => ∃ k : Nat, k ≤ s ∧ i = .int .i64 k ∧ n = .int .u64 (beN ((part l a s).take k) : Nat)) (fun _ i => s - (intOf i).toNat)
  case atStart => exact ⟨0, Nat.zero_le _, rfl, rfl⟩
  case round =>
    obtain ⟨k, hk, rfl, rfl⟩ := hrel
    by_cases hlt : k < s
    · obtain ⟨ad, rfl, hcell⟩ := RdB.at_ hr (k := a + k) (by omega)
      rw [← add_add] at hcell
      go_wp2
      go_round
      case rel =>
        refine ⟨k + 1, by omega, by go_num, ?_⟩
        rw [part_step l a s k hlt (by omega), or_step _ _ (beN_take_lt l a s k (by omega)) (UInt8.toNat_lt _)]
      case measure => simp [intOf]; omega
    · go_wp2
      go_ret2
      obtain rfl : k = s := by omega
      rw [List.take_of_length_le (by rw [part_length (by omega)]; exact Nat.le_refl _)]
      exact ⟨rfl, rfl⟩
set_option maxHeartbeats 400000 in
theorem get_no (A : Option Addr) (n c : Nat) (a s : Int) (w : World) (hn : n ≤ maxLen) (h1 : a ≤ 9223372036854775807) (h2 : s ≤ 9223372036854775807) (hw : withinB n a s = false) :
    Calls Tryz.prog 77 #[.slice A n c, .int .i64 a, .int .i64 s] w fun e w' => e = .returned (.tuple #[.int .u64 0, .bool false]) ∧ w = w' := by
  go_enter Tryz.func77, Tryz.ntmps77
  go_wp2_with (go_at_call 70; refine (within_any _ _ _ _ _ _ hn h1 h2).mono ?_; rintro e w' ⟨rfl, rfl⟩)
  go_ret2
  exact ⟨rfl, rfl⟩
/-- Get: the number that stands there, and whether one does. -/
theorem get_any (A : Option Addr) (n c : Nat) (l : List UInt8) (a s : Int) (w : World) (hn : l.length = n) (hl : n ≤ c) (hc : c ≤ maxLen) (hr : Rd w A (bys l)) (h1 : a ≤ 9223372036854775807) (h2 : s ≤ 9223372036854775807) :
    Calls Tryz.prog 77 #[.slice A n c, .int .i64 a, .int .i64 s] w fun e w' => e = .returned (.tuple #[.int .u64 (getN l a s : Nat), .bool (withinB n a s)]) ∧ w = w' := by
  subst hn
  cases hw : withinB l.length a s
  · refine (get_no A l.length c a s w (by omega) h1 h2 hw).mono ?_
    rintro e w' ⟨rfl, rfl⟩
    exact ⟨by simp [getN, hw], rfl⟩
  · have hb := withinB_iff.1 hw
    obtain ⟨a', rfl⟩ := Int.eq_ofNat_of_zero_le hb.2.2.1
    obtain ⟨s', rfl⟩ := Int.eq_ofNat_of_zero_le (show 0 ≤ s by omega)
    refine (get_yes' A c l a' s' w hl hc hr hw).mono ?_
    rintro e w' ⟨rfl, rfl⟩
    exact ⟨by simp [getN, hw], rfl⟩
theorem bys_set (l : List UInt8) (k : Nat) (x : UInt8) : (bys l).set k (.int .u8 x.toNat) = bys (l.set k x) := by
  unfold bys
  rw [List.map_set]
  rfl
theorem u8_of (n k : Nat) : (((n / 256 ^ k : Nat) : Int) % 256) = ((UInt8.ofNat (n / 256 ^ k)).toNat : Int) := by
  rw [UInt8.toNat_ofNat']; omega
theorem grown_trans {a b c : World} {row : Option Nat} (h : a.grownBy b row) (k : b.grownBy c row) : a.grownBy c row :=
  World.grownBy.trans h k

set_option maxHeartbeats 400000 in
theorem put_yes' (base g c : Nat) (l : List UInt8) (a s num : Nat) (w : World) (hl : l.length ≤ c) (hc : c ≤ maxLen)
    (ho : w.ownsRow base 5 1 (.slice (some ⟨g, 0, none⟩) l.length c) l.length (bys l)) (hn : num ≤ 18446744073709551615) (hw : withinB l.length a s = true) (hf : fitsB s num = true) :
    Calls Tryz.prog 60 #[.slice (some ⟨g, 0, none⟩) l.length c, .int .i64 a, .int .i64 s, .int .u64 num] w fun e w' => e = .returned (.bool true) ∧
      w'.ownsRow base 5 1 (.slice (some ⟨g, 0, none⟩) l.length c) l.length (bys (splice' l a (enc s num))) ∧ w.grownBy w' (some g) ∧ w'.heap.size = w.heap.size := by
  have hm := hc
  unfold maxLen at hm
  obtain ⟨b1, b2, b3, b4⟩ := withinB_iff.1 hw
  have Hf := Lib.hid hf
  go_enter Tryz.func60, Tryz.ntmps60
  go_wp2_with (first
    | (go_at_call 70; refine (within_any _ _ _ _ _ _ (by unfold maxLen; omega) (by omega) (by omega)).mono ?_; rintro e w' ⟨rfl, rfl⟩)
    | (go_at_call 59; refine (fits_any _ _ _ (by omega) (by omega)).mono ?_; rintro e w' ⟨rfl, rfl⟩))
  go_loopw [3, 9] (fun n i wr => ∃ (j x : Nat) (q : Int), j ≤ s ∧ Hid (q + j + 1 = a + s) ∧ i = .int .i64 q ∧ n = .int .u64 x ∧ x ≤ 18446744073709551615 ∧ Hid (x = num / 256 ^ j) ∧
      wr.ownsRow base 5 1 (.slice (some ⟨g, 0, none⟩) l.length c) l.length (bys (splice' l (a + (s - j)) (enc j num))) ∧ w.grownBy wr (some g) ∧ Hid (wr.heap.size = w.heap.size)) (fun _ i _ => ((intOf i) + 1 - a).toNat)
  case atStart => exact ⟨0, num, (a : Int) + s - 1, by omega, (by omega : (a : Int) + s - 1 + (0 : Nat) + 1 = a + s), rfl, rfl, hn, (by simp : num = num / 256 ^ 0), by simpa [enc, splice'_nil] using ho, World.grownBy.refl _ _, (rfl : w.heap.size = w.heap.size)⟩
  case round =>
    obtain ⟨j, x, q, hj, HQ, rfl, rfl, hx, HX, how, hgr, HZ⟩ := hrel
    have hQ1 : q + j + 1 ≤ a + s := Int.le_of_eq HQ.out
    have hQ2 : a + s ≤ q + j + 1 := Int.le_of_eq HQ.out.symm
    by_cases hlt : j < s
    · obtain ⟨k, rfl⟩ := Int.eq_ofNat_of_zero_le (show 0 ≤ q by omega)
      have hlen : k < (bys (splice' l (a + (s - j)) (enc j num))).length := by
        rw [bys_length, splice'_length (by rw [enc_length]; omega)]; omega
      have hcell := how.cellAt k (by omega)
      rw [List.getElem?_eq_getElem hlen] at hcell
      have hfr := how.frozenAt k
      go_wp2
      go_roundw
      case rel =>
        have e1 : ((x : Int) % 256) = ((UInt8.ofNat (num / 256 ^ j)).toNat : Int) := by rw [← u8_of, HX.out]
        have hst := how.stored k (.int .u8 (x % 256))
        rw [e1] at hst
        rw [e1]
        refine ⟨j + 1, x / 256, (k : Int) - 1, by omega, ?_, rfl, by go_num, by omega, ?_, ?_, grown_trans hgr hst.2, ?_⟩
        · have := HQ.out
          show (k : Int) - 1 + ((j + 1 : Nat) : Int) + 1 = a + s
          omega
        · show x / 256 = num / 256 ^ (j + 1)
          rw [HX.out, Nat.div_div_eq_div_mul, Nat.pow_succ]
        · have h1 := hst.1
          rw [bys_set] at h1
          rw [enc_cons, show a + (s - (j + 1)) = k by omega]
          rw [show a + (s - j) = k + 1 by omega] at h1
          rwa [splice'_set _ _ _ _ (by rw [enc_length]; omega)] at h1
        · show (wr.setCell _ _).heap.size = w.heap.size
          rw [← HZ.out]; simp [World.setCell]
      case measure => simp [intOf]; omega
    · go_wp2
      go_ret
      obtain rfl : j = s := by omega
      exact ⟨rfl, by simpa using how, hgr, HZ.out⟩
end Go.Proofs.YtaghecgjmkhpcaaGreatDoor
