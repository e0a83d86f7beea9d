/-
What Put, Append of package field and slices.Clone of bytes do, whatever they are given.
-/
import Derived.Test.YtaghecgjmkhpcaaGreatDoorField
import Derived.Test.YtaghecgjmkhpcaaGreatDoorApp
namespace Go.Proofs.YtaghecgjmkhpcaaGreatDoor
set_option linter.unusedVariables false
set_option linter.unusedSimpArgs false
open Go.RowKit

theorem slU8 : SliceT Tryz.prog 25 5 (.int .u8 0) 1 1 := sliceT_of Tryz.underlying25 (by kernel_rfl) rfl (by omega) (by omega)

set_option maxHeartbeats 400000 in
theorem put_no (A : Option Addr) (n c : Nat) (a s num : Int) (w : World) (hn : n ≤ maxLen) (h1 : a ≤ 9223372036854775807) (h2 : s ≤ 9223372036854775807) (h3 : 0 ≤ num) (h4 : num ≤ 18446744073709551615)
    (hw : withinB n a s = false ∨ fitsB s num.toNat = false) :
    Calls Tryz.prog 60 #[.slice A n c, .int .i64 a, .int .i64 s, .int .u64 num] w fun e w' => e = .returned (.bool false) ∧ w = w' := by
  cases hwi : withinB n a s
  · go_enter Tryz.func60, Tryz.ntmps60
    go_wp2_with (first
      | (go_at_call 70; refine (within_any _ _ _ _ _ _ hn h1 h2).mono ?_; rintro e w' ⟨rfl, rfl⟩)
      | (go_at_call 59; refine (fits_any _ _ _ h3 h4).mono ?_; rintro e w' ⟨rfl, rfl⟩))
    go_ret
    exact ⟨rfl, rfl⟩
  · have hf : fitsB s num.toNat = false := by rcases hw with h | h; (rw [h] at hwi; cases hwi); exact h
    clear hw
    go_enter Tryz.func60, Tryz.ntmps60
    go_wp2_with (first
      | (go_at_call 70; refine (within_any _ _ _ _ _ _ hn h1 h2).mono ?_; rintro e w' ⟨rfl, rfl⟩)
      | (go_at_call 59; refine (fits_any _ _ _ h3 h4).mono ?_; rintro e w' ⟨rfl, rfl⟩))
    go_ret
    exact ⟨rfl, rfl⟩

/-- Put: a number written in its place, in a row of the caller's own. -/
theorem put_any (base : Nat) (A : Option Addr) (n c : Nat) (l : List UInt8) (a s num : Int) (w : World) (hn : l.length = n) (hl : n ≤ c) (hc : c ≤ maxLen)
    (ho : w.ownsRow base 5 1 (.slice A n c) n (bys l)) (h1 : a ≤ 9223372036854775807) (h2 : s ≤ 9223372036854775807) (h3 : 0 ≤ num) (h4 : num ≤ 18446744073709551615) :
    Calls Tryz.prog 60 #[.slice A n c, .int .i64 a, .int .i64 s, .int .u64 num] w fun e w' => e = .returned (.bool (putB l a s num.toNat)) ∧
      w'.ownsRow base 5 1 (.slice A n c) n (bys (putL l a s num.toNat)) ∧ w.grownBy w' (A.map Addr.block) ∧ w'.heap.size = w.heap.size := by
  subst hn
  obtain ⟨num, rfl⟩ := Int.eq_ofNat_of_zero_le h3
  simp only [Int.toNat_natCast]
  cases hb : putB l a s num
  · have hb' := hb
    simp only [putB, Bool.and_eq_false_iff] at hb'
    refine (put_no A l.length c a s num w (by omega) h1 h2 h3 h4 (by simpa using hb')).mono ?_
    rintro e w' ⟨rfl, rfl⟩
    exact ⟨rfl, by simpa [putL, hb] using ho, World.grownBy.refl _ _, rfl⟩
  · have hb' := hb
    simp only [putB, Bool.and_eq_true] at hb'
    have hw := withinB_iff.1 hb'.1
    obtain ⟨a, rfl⟩ := Int.eq_ofNat_of_zero_le hw.2.2.1
    obtain ⟨s, rfl⟩ := Int.eq_ofNat_of_zero_le (show 0 ≤ s by omega)
    obtain ⟨g, cap, hv, _⟩ := ho.form (by omega)
    injection hv with hA; subst hA
    refine (put_yes' base g c l a s num w hl hc ho (by omega) hb'.1 hb'.2).mono ?_
    rintro e w' ⟨rfl, h⟩
    exact ⟨rfl, by simpa [putL, hb] using h.1, h.2.1, h.2.2⟩

set_option maxHeartbeats 400000 in
/-- slices.Clone of bytes: a copy of its own. -/
theorem cloneB_any (X : Option Addr) (n c : Nat) (l : List UInt8) (w : World) (hn : l.length = n) (hb : n ≤ 140737488355328) (hX : X = none → n = 0 ∧ c = 0) (hr : Rd w X (bys l)) :
    Calls Tryz.prog 58 #[.slice X n c] w fun e w' => ∃ A c', e = .returned (.slice A n c') ∧
      w'.ownsRow w.heap.size 5 1 (.slice A n c') n (bys l) ∧ Below w.heap.size w w' := by
  rcases X with _ | ad
  · obtain ⟨rfl, rfl⟩ := hX rfl
    obtain rfl := List.eq_nil_of_length_eq_zero hn
    clear hX hn
    have hq := fun wx => Lib.run_eql_slice_nil (P := Tryz.prog) wx 25 5 none 0 0 0 0 Tryz.underlying25
    go_enter Tryz.func58, Tryz.ntmps58
    go_wp2
    go_ret
    exact ⟨none, 0, rfl, World.ownsRow_nil _ _ _ _, Below.refl _ _⟩
  · have hq := fun wx => Lib.run_eql_slice_nil (P := Tryz.prog) wx 25 5 (some ad) n c 0 0 Tryz.underlying25
    have hrd : Rd (w.alloc (.cells #[] 5)) (some ad) (bys l) := hr.below ((Below.refl _ _).alloc (Nat.le_refl _) _)
    have Hn := Lib.hid hn
    clear hX hn hr
    go_enter Tryz.func58, Tryz.ntmps58
    go_wp2_with (at_builtin; refine wpList_app slU8 rfl _ _ rfl w.heap.size (some ⟨w.heap.size, 0, none⟩) 0 0 [] rfl (World.ownsRow_made w #[] 0 (Nat.le_refl _) (Nat.zero_le _) rfl) (some ad) n c (bys l) rfl (by rw [bys_length, Nat.mul_one]; exact Hn.out) hrd (bys_one l) (by omega) (by simp) ?_; intro A' c' w' hown hg hA)
    go_ret
    simp only [Nat.zero_add, List.nil_append] at hown
    refine ⟨A', c', by simp, hown, ((Below.refl _ _).alloc (Nat.le_refl _) _).grown hg (by simp) ?_⟩
    intro k hk
    simp at hk
    omega
theorem own_cap {w : World} {base : Nat} {e : TypeId} {size : Nat} {A : Option Addr} {n c : Nat} {xs : List Value} (h : w.ownsRow base e size (.slice A n c) n xs) : n ≤ c ∧ c ≤ maxLen := by
  rcases h.2 with ⟨h, _⟩ | ⟨g, cap, cur, h, _, _, h1, h2, _⟩
  · injection h with _ h1 h2; subst h1; subst h2; exact ⟨Nat.le_refl _, Nat.zero_le _⟩
  · injection h with _ _ h3; subst h3; exact ⟨h1, h2⟩
theorem appL_len (l : List UInt8) (s : Int) (num : Nat) : (appL l s num).length ≤ l.length + 8 := by
  unfold appL
  split
  · rename_i h
    have := fitsB_iff.1 h
    rw [List.length_append, enc_length]; omega
  · omega
theorem app_put (l : List UInt8) (s num : Nat) (hf : fitsB s num = true) : putL (l ++ List.replicate s 0) l.length s num = l ++ enc s num := by
  have h := fitsB_iff.1 hf
  have hw : withinB (l ++ List.replicate s 0).length l.length s = true := by rw [withinB_iff, List.length_append, List.length_replicate]; omega
  unfold putL putB
  rw [hw, hf]
  simp only [Bool.and_self, if_true, Int.toNat_natCast]
  unfold splice'
  rw [List.take_left, enc_length, List.drop_of_length_le (by simp), List.append_nil]

set_option maxHeartbeats 400000 in
/-- Append: a copy, and the number's bytes behind it, if it fits. -/
theorem append_any (X : Option Addr) (n c : Nat) (l : List UInt8) (s num : Int) (w : World) (hn : l.length = n) (hb : n + 8 ≤ 140737488355328) (hX : X = none → n = 0 ∧ c = 0) (hr : Rd w X (bys l))
    (h2 : s ≤ 9223372036854775807) (h3 : 0 ≤ num) (h4 : num ≤ 18446744073709551615) :
    Calls Tryz.prog 41 #[.slice X n c, .int .i64 s, .int .u64 num] w fun e w' => ∃ A m c', e = .returned (.slice A m c') ∧
      Hid (m = (appL l s num.toNat).length) ∧ w'.ownsRow w.heap.size 5 1 (.slice A m c') m (bys (appL l s num.toNat)) ∧ Below w.heap.size w w' := by
  cases hf : fitsB s num.toNat
  · have Hl : Hid (n = (appL l s num.toNat).length) := by simp [appL, hf, Hid, hn]
    have He : Hid (appL l s num.toNat = l) := by simp [appL, hf, Hid]
    go_enter Tryz.func41, Tryz.ntmps41
    go_wp2_with (first
      | (go_at_call 58; refine (cloneB_any X n c l _ hn (by omega) hX hr).mono ?_; rintro e w1 ⟨A, c1, rfl, hown, hbl⟩)
      | (go_at_call 59; refine (fits_any _ _ _ h3 h4).mono ?_; rintro e w' ⟨rfl, rfl⟩))
    go_ret
    exact ⟨A, n, c1, by simp, Hl, by rw [He.out]; exact hown, hbl⟩
  · have hs := fitsB_iff.1 hf
    obtain ⟨s, rfl⟩ := Int.eq_ofNat_of_zero_le (show 0 ≤ s by omega)
    obtain ⟨num, rfl⟩ := Int.eq_ofNat_of_zero_le h3
    simp only [Int.toNat_natCast] at hf ⊢
    have Hl : Hid (n + s = (appL l s num).length) := by simp [appL, hf, Hid, enc_length, hn]
    have He : Hid (appL l s num = l ++ enc s num) := by simp [appL, hf, Hid]
    have Hp := Lib.hid (app_put l s num hf)
    have Hn := Lib.hid hn
    have Hb : Hid (bys l ++ List.replicate s (.int .u8 0) = bys (l ++ List.replicate s 0)) := by
      unfold Hid bys u8v
      simp
    have Hln : Hid ((l ++ List.replicate s (0 : UInt8)).length = n + s) := by unfold Hid; simp [hn]
    have hs1 : 1 ≤ s := by omega
    have hs2 : s ≤ 8 := by omega
    have HC := Lib.hid (cloneB_any X n c l w hn (by omega) hX hr)
    clear hn hX hr hs
    go_enter Tryz.func41, Tryz.ntmps41
    go_wp2_with (first
      | (go_at_call 58; refine HC.out.mono ?_; rintro e w1 ⟨A, c1, rfl, hown, hbl⟩)
      | (go_at_call 59; refine (fits_any _ _ _ h3 h4).mono ?_; rintro e w' ⟨rfl, rfl⟩)
      | (at_builtin; refine wpList_app_zeros slU8 Tryz.underlying3 rfl _ _ rfl w.heap.size A n c1 (bys l) rfl hown .i64 s rfl rfl rfl (by omega) (by omega) hbl.size ?_; intro A2 c2 w2 hown2 hg2 hA2; rw [Hb.out] at hown2)
      | (go_at_call 60; refine (put_any w.heap.size A2 (n + s) c2 (l ++ List.replicate s 0) _ _ _ w2 Hln.out (own_cap hown2).1 (own_cap hown2).2 hown2 (by omega) h2 h3 h4).mono ?_; rintro e w3 ⟨rfl, hown3, hg3, hz3⟩))
    go_ret
    rw [Int.toNat_natCast, ← Hn.out, Hp.out] at hown3
    refine ⟨A2, n + s, c2, by simp, Hl, by rw [He.out, ← Hn.out]; exact hown3, ?_⟩
    have hA1 : ∀ k, A.map Addr.block = some k → w.heap.size ≤ k := fun k hk => (hown.lt k (by rw [ownBlock_slice]; exact hk)).1
    have hb2 : Below w.heap.size w w2 := hbl.grown hg2 hbl.size hA1
    exact hb2.grown hg3 hb2.size (fun k hk => (hown2.lt k (by rw [ownBlock_slice]; exact hk)).1)
end Go.Proofs.YtaghecgjmkhpcaaGreatDoor
