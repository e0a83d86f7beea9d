/-
What the functions of package sluicegateref1 (numbers in bytes) do.
A byte slice as a string; a literal of bytes.
-/
import Derived.Test.YtknlkmencdlpcaaField2
import Derived.Test.YtknlkmencdlpcaaApp
import Derived.Laws.IdiomStrings
import Derived.BigQuiet
import Derived.Deep.QuietTactic
import Derived.Deep.RegionWith
namespace Go.Proofs.Ytknlkmencdlpcaa
set_option linter.unusedVariables false
set_option linter.unusedSimpArgs false
open Go.RowKit

set_option maxHeartbeats 400000 in
theorem rwithin_any (A : Option Addr) (n c : Nat) (a s : Int) (w : World) (hn : n ≤ maxLen) (h1 : a ≤ 9223372036854775807) (h2 : s ≤ 9223372036854775807) :
    Calls Try.prog 153 #[.slice A n c, .int .i64 a, .int .i64 s] w fun e w' => e = .returned (.bool (withinB n a s)) ∧ w = w' := by
  unfold maxLen at hn
  by_cases h : 1 ≤ s ∧ s ≤ 8 ∧ 0 ≤ a ∧ a ≤ n
  · obtain ⟨h3, h4, h5, h6⟩ := h
    go_enter Try.func153, Try.ntmps153
    go_wp2
    go_ret
    refine ⟨ret_bool ?_, rfl⟩
    rw [Bool.eq_iff_iff, withinB_iff]
    simp; omega
  · go_enter Try.func153, Try.ntmps153
    go_wp2
    all_goals
      go_ret
      refine ⟨ret_bool ?_, rfl⟩
      simp [withinB]; omega

theorem or_step' (x y : Nat) (hx : x < 72057594037927936) (hy : y < 256) : IntKind.u64.wrap ((x : Int) * 256 + IntKind.u64.wrap (y : Int)) = ((x * 256 + y : Nat) : Int) := by
  rw [IntKind.wrap_u64, IntKind.wrap_u64]; omega

set_option maxHeartbeats 400000 in
theorem rget_yes' (A : Option Addr) (c : Nat) (l : List UInt8) (a s : Nat) (w : World) (hl : l.length ≤ c) (hc : c ≤ maxLen) (hr : Rd w A (bys l)) (hw : withinB l.length a s = true) :
    Calls Try.prog 126 #[.slice A l.length c, .int .i64 a, .int .i64 s] w fun e w' => e = .returned (.tuple #[.int .u64 (beN (part l a s) : Nat), .bool true]) ∧ w = w' := by
  have hm := hc
  unfold maxLen at hm
  obtain ⟨b1, b2, b3, b4⟩ := withinB_iff.1 hw
  go_enter Try.func126, Try.ntmps126
  go_wp2_with (go_at_call 153; refine (rwithin_any _ _ _ _ _ _ (by unfold maxLen; omega) (by omega) (by omega)).mono ?_; rintro e w' ⟨rfl, rfl⟩)
  go_loop [8, 23] (fun n i => ∃ k x : Nat, k ≤ s ∧ i = .int .i64 k ∧ n = .int .u64 x ∧ Hid (x = beN ((part l a s).take k))) (fun _ i => s - (intOf i).toNat)
  case atStart => exact ⟨0, 0, Nat.zero_le _, rfl, rfl, rfl⟩
  case round =>
    obtain ⟨k, x, hk, rfl, rfl, HX⟩ := hrel
    by_cases hlt : k < s
    · obtain ⟨ad, rfl, hcell⟩ := RdB.at_ hr (k := a + k) (by omega)
      rw [← add_add] at hcell
      have hx : x < 72057594037927936 := by rw [HX.out]; exact beN_take_lt l a s k (by omega)
      go_wp2
      go_round
      case rel =>
        refine ⟨k + 1, x * 256 + (l[a + k]'(by omega)).toNat, by omega, by go_num, ?_, ?_⟩
        · rw [or_step' _ _ hx (UInt8.toNat_lt _)]
        · show _ = _
          rw [part_step l a s k hlt (by omega), HX.out]
      case measure => simp [intOf]; omega
    · go_wp2
      go_ret2
      obtain rfl : k = s := by omega
      rw [HX.out, List.take_of_length_le (by rw [part_length (by omega)]; exact Nat.le_refl _)]
      exact ⟨rfl, rfl⟩
set_option maxHeartbeats 400000 in
theorem rget_no (A : Option Addr) (n c : Nat) (a s : Int) (w : World) (hn : n ≤ maxLen) (h1 : a ≤ 9223372036854775807) (h2 : s ≤ 9223372036854775807) (hw : withinB n a s = false) :
    Calls Try.prog 126 #[.slice A n c, .int .i64 a, .int .i64 s] w fun e w' => e = .returned (.tuple #[.int .u64 0, .bool false]) ∧ w = w' := by
  go_enter Try.func126, Try.ntmps126
  go_wp2_with (go_at_call 153; refine (rwithin_any _ _ _ _ _ _ hn h1 h2).mono ?_; rintro e w' ⟨rfl, rfl⟩)
  go_ret2
  exact ⟨rfl, rfl⟩
theorem rget_any (A : Option Addr) (n c : Nat) (l : List UInt8) (a s : Int) (w : World) (hn : l.length = n) (hl : n ≤ c) (hc : c ≤ maxLen) (hr : Rd w A (bys l)) (h1 : a ≤ 9223372036854775807) (h2 : s ≤ 9223372036854775807) :
    Calls Try.prog 126 #[.slice A n c, .int .i64 a, .int .i64 s] w fun e w' => e = .returned (.tuple #[.int .u64 (getN l a s : Nat), .bool (withinB n a s)]) ∧ w = w' := by
  subst hn
  cases hw : withinB l.length a s
  · refine (rget_no A l.length c a s w (by omega) h1 h2 hw).mono ?_
    rintro e w' ⟨rfl, rfl⟩
    exact ⟨by simp [getN, hw], rfl⟩
  · have hb := withinB_iff.1 hw
    obtain ⟨a', rfl⟩ := Int.eq_ofNat_of_zero_le hb.2.2.1
    obtain ⟨s', rfl⟩ := Int.eq_ofNat_of_zero_le (show 0 ≤ s by omega)
    refine (rget_yes' A c l a' s' w hl hc hr hw).mono ?_
    rintro e w' ⟨rfl, rfl⟩
    exact ⟨by simp [getN, hw], rfl⟩

theorem pow_pos8 (k : Nat) : 1 ≤ 256 ^ k := Nat.pow_pos (by omega)
theorem pow_lt8 (k : Nat) (h : k < 8) : 256 ^ k ≤ 72057594037927936 := by
  have : (256 : Nat) ^ k ≤ 256 ^ 7 := Nat.pow_le_pow_right (by omega) (by omega)
  omega
set_option maxHeartbeats 400000 in
theorem most_any (s : Nat) (w : World) (hs : s ≤ 8) :
    Calls Try.prog 127 #[.int .i64 s] w fun e w' => e = .returned (.int .u64 ((256 ^ s - 1 : Nat) : Int)) ∧ w = w' := by
  go_enter Try.func127, Try.ntmps127
  go_wp2
  go_loop [3, 4] (fun n i => ∃ k x : Nat, k ≤ s ∧ i = .int .i64 k ∧ n = .int .u64 x ∧ Hid (x = 256 ^ k - 1)) (fun _ i => s - (intOf i).toNat)
  case atStart => exact ⟨0, 0, Nat.zero_le _, rfl, rfl, rfl⟩
  case round =>
    obtain ⟨k, x, hk, rfl, rfl, HX⟩ := hrel
    by_cases hlt : k < s
    · have hp := pow_lt8 k (by omega)
      have hp1 := pow_pos8 k
      have hx : x < 72057594037927936 := by rw [HX.out]; omega
      go_wp2
      go_round
      case rel =>
        refine ⟨k + 1, x * 256 + 255, by omega, by go_num, by go_num, ?_⟩
        show x * 256 + 255 = 256 ^ (k + 1) - 1
        rw [HX.out, Nat.pow_succ]; omega
      case measure => simp [intOf]; omega
    · obtain rfl : k = s := by omega
      go_wp2
      go_ret
      refine ⟨ret_int ?_, rfl⟩
      rw [HX.out]
theorem splice'_full (m : List UInt8) (l : List UInt8) (h : m.length = l.length) : splice' l 0 m = m := by
  unfold splice'
  rw [List.take_zero, List.nil_append, List.drop_of_length_le (by omega), List.append_nil]
set_option maxHeartbeats 400000 in
theorem rbytes_any (s num : Nat) (w : World) (hs : s ≤ 8) (hn : num ≤ 18446744073709551615) :
    Calls Try.prog 125 #[.int .i64 s, .int .u64 num] w fun e w' => ∃ A c, e = .returned (.slice A s c) ∧
      w'.ownsRow w.heap.size 5 1 (.slice A s c) s (bys (enc s num)) ∧ Below w.heap.size w w' := by
  have hmk := fun kl kc wx => run_mk (P := Try.prog) slU8 rfl s (by omega) kl kc wx
  have hmade := own_made (.int .u8 0) w s 5 (by unfold maxLen; omega) w.heap.size (Nat.le_refl _)
  rw [bys_zeros] at hmade
  go_enter Try.func125, Try.ntmps125
  go_wp2
  go_loopw [1, 6] (fun n i wr => ∃ (j x : Nat) (q : Int), j ≤ s ∧ Hid (q + j + 1 = s) ∧ i = .int .i64 q ∧ n = .int .u64 x ∧ x ≤ 18446744073709551615 ∧ Hid (x = num / 256 ^ j) ∧
      wr.ownsRow w.heap.size 5 1 (.slice (some ⟨w.heap.size, 0, none⟩) s s) s (bys (splice' (List.replicate s 0) (s - j) (enc j num))) ∧ Below w.heap.size w wr) (fun _ i _ => ((intOf i) + 1).toNat)
  case atStart => exact ⟨0, num, (s : Int) - 1, by omega, (by omega : (s : Int) - 1 + (0 : Nat) + 1 = s), rfl, rfl, hn, (by simp : num = num / 256 ^ 0), by simpa [enc, splice'_nil] using hmade, (Below.refl _ _).alloc (Nat.le_refl _) _⟩
  case round =>
    clear hmade hmk
    obtain ⟨j, x, q, hj, HQ, rfl, rfl, hx, HX, how, hbl⟩ := hrel
    have hQ1 : q + j + 1 ≤ s := Int.le_of_eq HQ.out
    have hQ2 : s ≤ q + j + 1 := Int.le_of_eq HQ.out.symm
    by_cases hlt : j < s
    · obtain ⟨k, rfl⟩ := Int.eq_ofNat_of_zero_le (show 0 ≤ q by omega)
      have hlen : k < (bys (splice' (List.replicate s 0) (s - j) (enc j num))).length := by
        rw [bys_length, splice'_length (by rw [enc_length]; simp; omega)]; simp; omega
      have hcell := how.cellAt k (by omega)
      rw [List.getElem?_eq_getElem hlen] at hcell
      have hfr := how.frozenAt k
      go_wp2
      go_roundw
      case rel =>
        have e1 : ((x : Int) % 256) = ((UInt8.ofNat (num / 256 ^ j)).toNat : Int) := by rw [← u8_of, HX.out]
        have hst := how.stored k (.int .u8 (x % 256))
        rw [e1] at hst
        rw [e1]
        refine ⟨j + 1, x / 256, (k : Int) - 1, by omega, ?_, rfl, by go_num, by omega, ?_, ?_, hbl.grown hst.2 hbl.size (fun b hb => by injection hb with hb; omega)⟩
        · have := HQ.out
          show (k : Int) - 1 + ((j + 1 : Nat) : Int) + 1 = s
          omega
        · show x / 256 = num / 256 ^ (j + 1)
          rw [HX.out, Nat.div_div_eq_div_mul, Nat.pow_succ]
        · have h1 := hst.1
          rw [bys_set] at h1
          rw [enc_cons, show s - (j + 1) = k by omega]
          rw [show s - j = k + 1 by omega] at h1
          rwa [splice'_set _ _ _ _ (by rw [enc_length, List.length_replicate]; omega)] at h1
      case measure => simp [intOf] <;> omega
    · obtain rfl : j = s := by omega
      go_wp2
      go_ret
      refine ⟨_, _, rfl, ?_, hbl⟩
      rw [Nat.sub_self, splice'_full _ _ (by rw [enc_length, List.length_replicate])] at how
      exact how
theorem gt_most (s num : Nat) (h1 : 1 ≤ s) (h2 : s ≤ 8) : decide ((((256 ^ s - 1 : Nat) : Nat) : Int) < (num : Int)) = !fitsB s num := by
  have := pow_pos8 s
  rw [Bool.eq_iff_iff, decide_eq_true_eq, Bool.not_eq_true', ← Bool.not_eq_true, fitsB_iff, Int.toNat_natCast]
  omega
set_option maxHeartbeats 400000 in
theorem rappend_any (X : Option Addr) (n c : Nat) (l : List UInt8) (s num : Int) (w : World) (hn : l.length = n) (hb : n + 8 ≤ 140737488355328) (hX : X = none → n = 0 ∧ c = 0) (hr : Rd w X (bys l))
    (h2 : s ≤ 9223372036854775807) (h3 : 0 ≤ num) (h4 : num ≤ 18446744073709551615) :
    Calls Try.prog 87 #[.slice X n c, .int .i64 s, .int .u64 num] w fun e w' => ∃ A m c', e = .returned (.slice A m c') ∧
      Hid (m = (appL l s num.toNat).length) ∧ w'.ownsRow w.heap.size 5 1 (.slice A m c') m (bys (appL l s num.toNat)) ∧ Below w.heap.size w w' := by
  have Hn := Lib.hid hn
  by_cases h8 : 1 ≤ s ∧ s ≤ 8
  · obtain ⟨s1, s2⟩ := h8
    obtain ⟨s, rfl⟩ := Int.eq_ofNat_of_zero_le (show 0 ≤ s by omega)
    obtain ⟨num, rfl⟩ := Int.eq_ofNat_of_zero_le h3
    simp only [Int.toNat_natCast]
    have hgt := gt_most s num (by omega) (by omega)
    cases hf : fitsB s num
    · rw [hf] at hgt
      have hle : (((256 ^ s - 1 : Nat) : Nat) : Int) < (num : Int) := by simpa using hgt
      have Hl : Hid (n = (appL l s num).length) := by simp [appL, hf, Hid, hn]
      have He : Hid (appL l s num = l) := by simp [appL, hf, Hid]
      clear hn hgt hf hX
      go_enter Try.func87, Try.ntmps87
      go_wp2_with (first
        | (at_builtin; refine wpList_app slU8 rfl _ _ rfl w.heap.size none 0 0 [] rfl (World.ownsRow_nil _ _ _ _) X n c (bys l) rfl (by rw [bys_length, Nat.mul_one]; exact Hn.out) hr (bys_one l) (by omega) (Nat.le_refl _) ?_; intro A' c' w1 hown hg hA)
        | (go_at_call 127; refine (most_any _ _ (by omega)).mono ?_; rintro e w' ⟨rfl, rfl⟩))
      go_ret
      simp only [Nat.zero_add, List.nil_append] at hown
      exact ⟨A', n, c', by simp, Hl, by rw [He.out]; exact hown, (Below.refl _ _).grown hg (Nat.le_refl _) (by simp)⟩
    · rw [hf] at hgt
      have hle : ¬ (((256 ^ s - 1 : Nat) : Nat) : Int) < (num : Int) := by simpa using hgt
      have Hl : Hid (n + s = (appL l s num).length) := by simp [appL, hf, Hid, hn, enc_length]
      have He : Hid (appL l s num = l ++ enc s num) := by simp [appL, hf, Hid]
      clear hn hgt hf hX
      go_enter Try.func87, Try.ntmps87
      go_wp2_with (first
        | (at_builtin; refine wpList_app slU8 rfl (.const (.slice none 0 0)) _ rfl w.heap.size none 0 0 [] rfl (World.ownsRow_nil _ _ _ _) X n c (bys l) rfl (by rw [bys_length, Nat.mul_one]; exact Hn.out) hr (bys_one l) (by omega) (Nat.le_refl _) ?_; intro A' c' w1 hown hg hA)
        | (go_at_call 127; refine (most_any _ _ (by omega)).mono ?_; rintro e w' ⟨rfl, rfl⟩)
        | (go_at_call 125; refine (rbytes_any s num _ (by omega) (by omega)).mono ?_; rintro e w2 ⟨B, cB, rfl, hownB, hblB⟩)
        | (at_builtin; refine wpList_app slU8 rfl _ _ rfl w.heap.size A' n c' (bys l) rfl (((by simpa using hown : w1.ownsRow _ _ _ _ _ _)).kept (own_below hblB) (own_none _)) B s cB (bys (enc s num)) rfl (by rw [bys_length, Nat.mul_one, enc_length]) (Rd.own hownB) (bys_one _) (by omega) (Nat.le_trans hg.size hblB.size) ?_; intro A3 c3 w3 hown3 hg3 hA3))
      go_ret
      have hb1 : Below w.heap.size w w1 := (Below.refl _ _).grown hg (Nat.le_refl _) (by simp)
      have hb2 : Below w.heap.size w w2 := hb1.trans (hblB.mono hb1.size)
      refine ⟨A3, n + s, c3, rfl, Hl, by rw [He.out, ← bys_append]; exact hown3, hb2.grown hg3 hb2.size (fun k hk => (hown.lt k (by rw [ownBlock_slice]; exact hk)).1)⟩
  · have hf : fitsB s num.toNat = false := by
      rw [← Bool.not_eq_true, fitsB_iff]; omega
    have Hl : Hid (n = (appL l s num.toNat).length) := by simp [appL, hf, Hid, hn]
    have He : Hid (appL l s num.toNat = l) := by simp [appL, hf, Hid]
    clear hn hf hX
    go_enter Try.func87, Try.ntmps87
    go_wp2_with (first
      | (at_builtin; refine wpList_app slU8 rfl _ _ rfl w.heap.size none 0 0 [] rfl (World.ownsRow_nil _ _ _ _) X n c (bys l) rfl (by rw [bys_length, Nat.mul_one]; exact Hn.out) hr (bys_one l) (by omega) (Nat.le_refl _) ?_; intro A' c' w1 hown hg hA))
    all_goals
      go_ret
      simp only [Nat.zero_add, List.nil_append] at hown
      exact ⟨A', n, c', by simp, Hl, by rw [He.out]; exact hown, (Below.refl _ _).grown hg (Nat.le_refl _) (by simp)⟩
end Go.Proofs.Ytknlkmencdlpcaa

namespace Go.Proofs.Ytknlkmencdlpcaa
set_option linter.unusedVariables false
set_option linter.unusedSimpArgs false
open Go.RowKit

/-- string(b). -/
theorem conv_str {P : Program} {src dst e : TypeId} (hs : P.underlying src = some (.slice e)) (he : P.underlying e = some (.int .u8)) (hd : P.underlying dst = some .string)
    (w : World) (A : Option Addr) (n c : Nat) (l : List UInt8) (hn : l.length = n) (hr : Rd w A (bys l)) : (convert src dst (.slice A n c)).run P w = .ok (.string ⟨l.toArray⟩) w := by
  subst hn
  rcases A with _ | ad
  · obtain rfl : l = [] := by
      rcases l with _ | ⟨x, l⟩
      · rfl
      · obtain ⟨ad, h, _⟩ := hr 0 _ rfl
        cases h
    rw [run_convert_bytes_string w src dst e none _ c hs he hd]
    rfl
  · refine run_convert_bytes_back w src dst e ad c l hs he hd fun j hj => ?_
    obtain ⟨ad', h, hc⟩ := RdB.at_ hr hj
    injection h with h; subst h
    exact hc
theorem conv_own {w : World} {base : Nat} {A : Option Addr} {n c : Nat} {l : List UInt8} (h : w.ownsRow base 5 1 (.slice A n c) n (bys l)) : (convert 22 9 (.slice A n c)).run Try.prog w = .ok (.string ⟨l.toArray⟩) w :=
  conv_str Try.underlying22 Try.underlying5 Try.underlying9 w A n c l (by have := h.1; rw [bys_length] at this; omega) (Rd.own h)
theorem lit_own (w : World) (l : List UInt8) (cs : Array Value) (hcs : cs = (bys l).toArray) (n : Nat) (hn : l.length = n) (hm : n ≤ maxLen) (base : Nat) (g : Nat) (hg : w.heap.size = g) (hb : base ≤ g) :
    (w.alloc (.cells cs 5)).ownsRow base 5 1 (.slice (some ⟨g, 0, none⟩) n n) n (bys l) := by
  subst hg
  have := World.ownsRow_lit (base := base) (e := 5) (size := 1) w cs n hb hm (by rw [hcs]; simp [bys_length, hn])
  rw [hcs] at this ⊢
  exact this
end Go.Proofs.Ytknlkmencdlpcaa
