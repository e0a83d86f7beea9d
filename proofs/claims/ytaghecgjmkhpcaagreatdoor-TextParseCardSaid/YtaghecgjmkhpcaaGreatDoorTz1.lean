/-
The reference's names: Rune, Runes, MayName of package sluicegateref1.
-/
import Derived.Test.YtaghecgjmkhpcaaGreatDoorTx7
import Derived.Test.YtaghecgjmkhpcaaGreatDoorShelf2
namespace Go.Proofs.YtaghecgjmkhpcaaGreatDoor
set_option linter.unusedVariables false
set_option linter.unusedSimpArgs false
open Go Go.RowKit

def runesGo : Nat → List UInt8 → Nat → Int
  | 0, _, n => n
  | f + 1, l, n => if l = [] then n else if (Lib.decodeL l).1 = 65533 ∧ (Lib.decodeL l).2 = 1 then -1 else runesGo f (l.drop (Lib.decodeL l).2) (n + 1)
def okGo : Nat → List UInt8 → Bool
  | 0, _ => true
  | f + 1, l => if l = [] then true else if badR (Lib.decodeL l).1 then false else okGo f (l.drop (Lib.decodeL l).2)
def in8 (n : Int) : Bool := decide (1 ≤ n) && decide (n ≤ 8)
theorem in8_nat (n : Nat) : decide (1 ≤ n ∧ n ≤ 8) = in8 n := by
  rw [Bool.eq_iff_iff]
  unfold in8
  simp
  omega
theorem lab_runes : ∀ (f : Nat) (l : List UInt8) (n : Nat), labGo f l n = (in8 (runesGo f l n) && okGo f l)
  | 0, l, n => by
    simp only [labGo, runesGo, okGo, Bool.and_true]
    exact in8_nat n
  | f + 1, l, n => by
    simp only [labGo, runesGo, okGo]
    by_cases hl : l = []
    · rw [if_pos hl, if_pos hl, if_pos hl, Bool.and_true]
      exact in8_nat n
    · rw [if_neg hl, if_neg hl, if_neg hl]
      by_cases hb : badR (Lib.decodeL l).1
      · rw [if_pos hb, if_pos hb, Bool.and_false]
      · rw [if_neg hb, if_neg hb, if_neg, lab_runes f _ (n + 1)]
        rintro ⟨e, _⟩
        rw [e] at hb
        exact hb rfl
theorem runes_le : ∀ (f : Nat) (l : List UInt8) (n : Nat), -1 ≤ runesGo f l n
  | 0, l, n => by simp only [runesGo]; omega
  | f + 1, l, n => by
    simp only [runesGo]
    split
    · omega
    · split
      · omega
      · exact runes_le f _ _
theorem dec_ext (s : ByteArray) (l : List UInt8) (hs : ⟨l.toArray⟩ = s) (pos : Nat) (hp : pos < l.length) : Lib.decodeGo (s.extract pos s.size) = Lib.decodeL (l.drop pos) := by
  subst hs
  have e : (⟨l.toArray⟩ : ByteArray).extract pos (⟨l.toArray⟩ : ByteArray).size = ⟨(l.drop pos).toArray⟩ := by
    apply ByteArray.ext
    simp [ByteArray.data_extract, List.extract_toArray, List.extract_eq_take_drop, ByteArray.size]
    exact List.take_of_length_le (by rw [List.length_drop]; omega)
  rw [e]
  have h0 : ¬ (⟨(l.drop pos).toArray⟩ : ByteArray).size = 0 := by
    show ¬ (l.drop pos).length = 0
    rw [List.length_drop]
    omega
  show (if (⟨(l.drop pos).toArray⟩ : ByteArray).size = 0 then (65533, 0) else Utf8.decode ⟨(l.drop pos).toArray⟩ 0) = _
  rw [if_neg h0, decode_drop (l.drop pos) 0, List.drop_zero]
set_option maxRecDepth 20000 in
theorem rune_any (r : Nat) (w : World) : Calls Tryz.prog 36 #[.int .i32 (r : Int)] w fun e w' => e = .returned (.bool (!badR r)) ∧ w = w' := by
  by_cases c1 : (33 : Int) ≤ r
  · by_cases c2 : (r : Int) < 127
    · have c4 : ((r : Int) == 65533) = false := by simp; omega
      go_enter Tryz.func36, Tryz.ntmps36
      go_wp2
      go_ret
      refine ⟨ret_bool ?_, rfl⟩
      rw [Bool.eq_iff_iff]; unfold badR; simp; omega
    · by_cases c3 : (159 : Int) < r
      · by_cases c4 : r = 65533
        · subst c4
          go_enter Tryz.func36, Tryz.ntmps36
          go_wp2
          go_ret
          exact ⟨rfl, rfl⟩
        · have c5 : ((r : Int) == 65533) = false := by simp; omega
          go_enter Tryz.func36, Tryz.ntmps36
          go_wp2
          go_ret
          refine ⟨ret_bool ?_, rfl⟩
          rw [Bool.eq_iff_iff]; unfold badR; simp; omega
      · go_enter Tryz.func36, Tryz.ntmps36
        go_wp2
        go_ret
        refine ⟨ret_bool ?_, rfl⟩
        rw [Bool.eq_iff_iff]; unfold badR; simp; omega
  · go_enter Tryz.func36, Tryz.ntmps36
    go_wp2
    go_ret
    refine ⟨ret_bool ?_, rfl⟩
    rw [Bool.eq_iff_iff]; unfold badR; simp; omega
set_option maxRecDepth 20000 in
theorem runes_any (nm : List UInt8) (w : World) (hl : nm.length ≤ 281474976710656) (hT : LaidT w) : Calls Tryz.prog 34 #[.string ⟨nm.toArray⟩] w fun e w' => e = .returned (.int .i64 (runesGo nm.length nm 0)) ∧ Below w.heap.size w w' := by
  obtain ⟨s, hs⟩ : ∃ s : ByteArray, ⟨nm.toArray⟩ = s := ⟨_, rfl⟩
  have hsz : s.size = nm.length := by subst hs; rfl
  obtain ⟨ANS, hANS⟩ : ∃ ANS, runesGo nm.length nm 0 = ANS := ⟨_, rfl⟩
  have HS := Lib.hid hs
  have HZ := Lib.hid hsz
  have HA := Lib.hid hANS
  have HT := Lib.hid hT
  rw [hs, hANS]
  clear hs hsz hANS hT
  go_enter Tryz.func34, Tryz.ntmps34
  go_wp2
  go_loopw [3, 4] (fun n ix wr => ∃ (pos b acc : Nat), ix = .int .i64 pos ∧ n = .int .i64 acc ∧ Hid (runesGo b (nm.drop pos) acc = ANS) ∧ Hid (nm.length ≤ pos + b) ∧ acc ≤ pos ∧ pos ≤ s.size ∧ Below w.heap.size w wr) (fun _ ix _ => s.size - (intOf ix).toNat)
  case atStart => exact ⟨0, nm.length, 0, rfl, rfl, HA.out, Lib.hid (by omega), Nat.le_refl _, Nat.zero_le _, Below.refl _ _⟩
  case round =>
    obtain ⟨pos, b, acc, rfl, rfl, HC, HB, ha, hps, hbr⟩ := hrel
    have hz := HZ.out
    have hss : s.size ≤ 281474976710656 := by omega
    by_cases hp : pos < s.size
    · have hd := dec_ext s nm HS.out pos (by omega)
      have hwd := Lib.decodeL_width (nm.drop pos)
      have hle := Lib.decodeL_le (nm.drop pos) (by
        intro h
        have := congrArg List.length h
        rw [List.length_drop] at this
        simp at this
        omega)
      rw [List.length_drop] at hle
      have hc := HC.out
      have hb := HB.out
      obtain ⟨b, rfl⟩ : ∃ b', b = b' + 1 := ⟨b - 1, by omega⟩
      unfold runesGo at hc
      rw [if_neg (by
        intro h
        have := congrArg List.length h
        rw [List.length_drop] at this
        simp at this
        omega)] at hc
      obtain ⟨r, k, hrk⟩ : ∃ r k, Lib.decodeL (nm.drop pos) = (r, k) := ⟨_, _, rfl⟩
      rw [hrk] at hd hwd hc hle
      dsimp only at hwd hc hle
      rw [List.drop_drop] at hc
      have hpk : pos + k ≤ s.size := by omega
      have hb2 : nm.length ≤ pos + k + b := by omega
      have HD := Lib.hid hd
      have HB2 := Lib.hid hb2
      clear hd hrk hle HC HB hb hb2 hz
      by_cases c1 : r = 65533
      · subst c1
        by_cases c2 : k = 1
        · subst c2
          rw [if_pos ⟨rfl, rfl⟩] at hc
          have HX := Lib.hid hc
          clear hc hwd
          go_wp2_with (go_at_call 35; refine (Tryz.utf8_DecodeRuneInString _ _ (HT.out.below hbr).utf).mono ?_; rintro e w2 ⟨rfl, hb2⟩; rw [HD.out])
          go_ret
          rw [HX.out]
          exact ⟨rfl, below_nextT hbr hb2⟩
        · rw [if_neg (by omega)] at hc
          have HX := Lib.hid hc
          have k1 : decide ((k : Int) = 1) = false := decide_eq_false (by omega)
          have k2 : ((k : Int) == 1) = false := by simp; omega
          clear hc
          go_wp2_with (go_at_call 35; refine (Tryz.utf8_DecodeRuneInString _ _ (HT.out.below hbr).utf).mono ?_; rintro e w2 ⟨rfl, hb2⟩; rw [HD.out])
          exact ⟨⟨pos + k, b, acc + 1, rfl, rfl, HX, HB2, by omega, hpk, below_nextT hbr hb2⟩, by simp [intOf]; omega⟩
      · rw [if_neg (by omega)] at hc
        have HX := Lib.hid hc
        have k1 : decide ((r : Int) = 65533) = false := decide_eq_false (by omega)
        have k2 : ((r : Int) == 65533) = false := by simp; omega
        clear hc
        go_wp2_with (go_at_call 35; refine (Tryz.utf8_DecodeRuneInString _ _ (HT.out.below hbr).utf).mono ?_; rintro e w2 ⟨rfl, hb2⟩; rw [HD.out])
        exact ⟨⟨pos + k, b, acc + 1, rfl, rfl, HX, HB2, by omega, hpk, below_nextT hbr hb2⟩, by simp [intOf]; omega⟩
    · have hdr : nm.drop pos = [] := List.drop_eq_nil_of_le (by omega)
      have h2 : (acc : Int) = ANS := by
        have hc := HC.out
        rw [hdr] at hc
        cases b <;> simpa [runesGo] using hc
      have HX := Lib.hid h2
      clear hdr h2
      go_wp2
      go_ret
      rw [HX.out]
      exact ⟨rfl, hbr⟩
set_option maxRecDepth 20000 in
theorem mayName_any (nm : List UInt8) (w : World) (hl : nm.length ≤ 281474976710656) (hT : LaidT w) : Calls Tryz.prog 20 #[.string ⟨nm.toArray⟩] w fun e w' => e = .returned (.bool (labB nm)) ∧ Below w.heap.size w w' := by
  have hru := fun wz hz => runes_any nm wz hl hz
  obtain ⟨s, hs⟩ : ∃ s : ByteArray, ⟨nm.toArray⟩ = s := ⟨_, rfl⟩
  have hsz : s.size = nm.length := by subst hs; rfl
  obtain ⟨R, hR⟩ : ∃ R, runesGo nm.length nm 0 = R := ⟨_, rfl⟩
  obtain ⟨K, hK⟩ : ∃ K, okGo nm.length nm = K := ⟨_, rfl⟩
  have hlab : labB nm = (in8 R && K) := by rw [← hR, ← hK]; exact lab_runes _ _ _
  have hR1 : -1 ≤ R := by rw [← hR]; exact runes_le _ _ _
  rw [hlab]
  rw [hR, hs] at hru
  have HRU := Lib.hid hru
  have HS := Lib.hid hs
  have HZ := Lib.hid hsz
  have HA := Lib.hid hK
  have HT := Lib.hid hT
  rw [hs]
  clear hs hsz hT hlab hR hru hK
  by_cases c1 : R < 1
  · have e1 : in8 R = false := by unfold in8; simp; omega
    rw [e1, Bool.false_and]
    clear e1
    go_enter Tryz.func20, Tryz.ntmps20
    go_wp2_with (go_at_call 34; refine (HRU.out _ HT.out).mono ?_; rintro e w1 ⟨rfl, hb1⟩)
    go_ret
    exact ⟨rfl, hb1⟩
  by_cases c2 : (8 : Int) < R
  · have e1 : in8 R = false := by unfold in8; simp; omega
    rw [e1, Bool.false_and]
    clear e1
    go_enter Tryz.func20, Tryz.ntmps20
    go_wp2_with (go_at_call 34; refine (HRU.out _ HT.out).mono ?_; rintro e w1 ⟨rfl, hb1⟩)
    go_ret
    exact ⟨rfl, hb1⟩
  have e1 : in8 R = true := by unfold in8; simp; omega
  rw [e1, Bool.true_and]
  clear e1
  go_enter Tryz.func20, Tryz.ntmps20
  go_wp2_with (go_at_call 34; refine (HRU.out _ HT.out).mono ?_; rintro e w1 ⟨rfl, hb1⟩)
  clear c1 c2 hR1 HRU
  go_loopw [4] (fun ix wr => ∃ (pos b : Nat), ix = .int .i64 pos ∧ Hid (okGo b (nm.drop pos) = K) ∧ Hid (nm.length ≤ pos + b) ∧ pos ≤ s.size ∧ Below w.heap.size w wr) (fun ix _ => s.size - (intOf ix).toNat)
  case atStart => exact ⟨0, nm.length, rfl, HA.out, Lib.hid (by omega), Nat.zero_le _, hb1⟩
  case round =>
    obtain ⟨pos, b, rfl, HC, HB, hps, hbr⟩ := hrel
    have hz := HZ.out
    have hss : s.size ≤ 281474976710656 := by omega
    by_cases hp : pos < s.size
    · have hd := dec_ext s nm HS.out pos (by omega)
      have hne : nm.drop pos ≠ [] := by
        intro h
        have := congrArg List.length h
        rw [List.length_drop] at this
        simp at this
        omega
      have hwd := Lib.decodeL_width (nm.drop pos)
      have hle := Lib.decodeL_le (nm.drop pos) hne
      rw [List.length_drop] at hle
      have hc := HC.out
      have hb := HB.out
      obtain ⟨b, rfl⟩ : ∃ b', b = b' + 1 := ⟨b - 1, by omega⟩
      unfold okGo at hc
      rw [if_neg hne] at hc
      obtain ⟨r, k, hrk⟩ : ∃ r k, Lib.decodeL (nm.drop pos) = (r, k) := ⟨_, _, rfl⟩
      rw [hrk] at hd hwd hc hle
      dsimp only at hwd hc hle
      rw [List.drop_drop] at hc
      have hpk : pos + k ≤ s.size := by omega
      have hb2 : nm.length ≤ pos + k + b := by omega
      have HD := Lib.hid hd
      have HB2 := Lib.hid hb2
      clear hd hrk hle HC HB hb hb2 hz hne
      cases hbd : badR r with
      | true =>
        rw [hbd, if_pos rfl] at hc
        have HX := Lib.hid hc
        have HBD := Lib.hid hbd
        clear hc hbd
        go_wp2_with (first
          | (go_at_call 35; refine (Tryz.utf8_DecodeRuneInString _ _ (HT.out.below hbr).utf).mono ?_; rintro e w2 ⟨rfl, hb2⟩; rw [HD.out])
          | (go_at_call 36; refine (rune_any r _).mono ?_; rintro e w3 ⟨rfl, rfl⟩; rw [HBD.out]))
        go_ret
        rw [← HX.out]
        exact ⟨rfl, below_nextT hbr hb2⟩
      | false =>
        rw [hbd, if_neg (by decide)] at hc
        have HX := Lib.hid hc
        have HBD := Lib.hid hbd
        clear hc hbd
        go_wp2_with (first
          | (go_at_call 35; refine (Tryz.utf8_DecodeRuneInString _ _ (HT.out.below hbr).utf).mono ?_; rintro e w2 ⟨rfl, hb2⟩; rw [HD.out])
          | (go_at_call 36; refine (rune_any r _).mono ?_; rintro e w3 ⟨rfl, rfl⟩; rw [HBD.out]))
        exact ⟨⟨pos + k, b, rfl, HX, HB2, hpk, below_nextT hbr hb2⟩, by simp [intOf]; omega⟩
    · have hdr : nm.drop pos = [] := List.drop_eq_nil_of_le (by omega)
      have h2 : true = K := by
        have hc := HC.out
        rw [hdr] at hc
        cases b <;> simpa [okGo] using hc
      have HX := Lib.hid h2
      clear hdr h2
      go_wp2
      go_ret
      rw [← HX.out]
      exact ⟨rfl, hbr⟩
end Go.Proofs.YtaghecgjmkhpcaaGreatDoor
