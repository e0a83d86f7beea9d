/-
label.May; digits.Write and digits.Read.
-/
import Derived.Test.YtaghecgjmkhpcaaGreatDoorTxU
import Derived.Test.YtaghecgjmkhpcaaGreatDoorTx1
import Derived.Test.YtaghecgjmkhpcaaGreatDoorShelf
import Derived.Laws.RangeAny
import Derived.Lib.RuneCount
namespace Go.Proofs.YtaghecgjmkhpcaaGreatDoor
set_option linter.unusedVariables false
set_option linter.unusedSimpArgs false
open Go Go.RowKit

theorem below_iter (w : World) (s : ByteArray) (p : Nat) : Below w.heap.size w (w.iter s p) := (Below.refl _ w).alloc (Nat.le_refl _) _
set_option maxRecDepth 20000 in
theorem label_any (nm : List UInt8) (w : World) (hl : nm.length ≤ 281474976710656) : Calls Tryz.prog 16 #[.string ⟨nm.toArray⟩] w fun e w' => e = .returned (.bool (labB nm)) ∧ Below w.heap.size w w' := by
  obtain ⟨s, hs⟩ : ∃ s : ByteArray, ⟨nm.toArray⟩ = s := ⟨_, rfl⟩
  have hsz : s.size = nm.length := by subst hs; rfl
  obtain ⟨ANS, hANS⟩ : ∃ ANS, labB nm = ANS := ⟨_, rfl⟩
  have HS := Lib.hid hs
  have HZ := Lib.hid hsz
  have HA := Lib.hid hANS
  rw [hs, hANS]
  clear hs hsz hANS
  go_enter Tryz.func16, Tryz.ntmps16
  go_wp2
  go_loopw [3] (fun n w' => ∃ (pos b acc : Nat), w' = w.iter s pos ∧ n = .int .i64 acc ∧ labGo b (nm.drop pos) acc = ANS ∧ nm.length ≤ pos + b ∧ acc ≤ pos) (fun _ w' => s.size - w'.iterPos w.heap.size)
  case atStart => exact ⟨0, nm.length, 0, rfl, rfl, HA.out, by omega, Nat.le_refl _⟩
  case round =>
    obtain ⟨pos, b, acc, rfl, rfl, hc, hb, ha⟩ := hrel
    by_cases hp : pos < s.size
    · have hnx : ∀ ty, (Instr.next (.pointer (some ⟨w.heap.size, 0, none⟩)) true ty).run Tryz.prog (w.iter s pos) = _ := fun ty => run_next_any w s pos ty hp
      have hd : Utf8.decode s pos = Lib.decodeL (nm.drop pos) := by rw [← HS.out]; exact decode_drop nm pos
      rw [hd] at hnx
      have hwd := Lib.decodeL_width (nm.drop pos)
      have hz := HZ.out
      have ha2 : acc < 281474976710656 := by omega
      have hd1 : (nm.drop pos).drop (Lib.decodeL (nm.drop pos)).2 = nm.drop (pos + (Lib.decodeL (nm.drop pos)).2) := by rw [List.drop_drop]
      have hne : nm.drop pos ≠ [] := by
        intro h
        have := congrArg List.length h
        rw [List.length_drop] at this
        simp at this
        omega
      obtain ⟨b, rfl⟩ : ∃ b', b = b' + 1 := ⟨b - 1, by omega⟩
      unfold labGo at hc
      rw [if_neg hne, hd1] at hc
      have HD := Lib.hid hd
      clear hd hd1 hne
      obtain ⟨r, hr⟩ : ∃ r, (Lib.decodeL (nm.drop pos)).1 = r := ⟨_, rfl⟩
      obtain ⟨k, hk⟩ : ∃ k, (Lib.decodeL (nm.drop pos)).2 = k := ⟨_, rfl⟩
      rw [hr, hk] at hc
      rw [hr, hk] at hnx
      rw [hk] at hwd
      have HC := Lib.hid hc
      clear hr hk hc hz
      by_cases c1 : (r : Int) < 33
      · go_wp2
        go_ret
        have h := HC.out
        rw [if_pos (by unfold badR; simp; omega)] at h
        exact ⟨congrArg (fun b => Ending.returned (Value.bool b)) h, below_iter _ _ _⟩
      by_cases c2 : (127 : Int) ≤ r
      · by_cases c3 : (r : Int) ≤ 159
        · go_wp2
          go_ret
          have h := HC.out
          rw [if_pos (by unfold badR; simp; omega)] at h
          exact ⟨congrArg (fun b => Ending.returned (Value.bool b)) h, below_iter _ _ _⟩
        by_cases c4 : ((r : Int) == 65533) = true
        · go_wp2
          go_ret
          have h := HC.out
          rw [if_pos (by unfold badR; simp at c4; simp; omega)] at h
          exact ⟨congrArg (fun b => Ending.returned (Value.bool b)) h, below_iter _ _ _⟩
        · have c5 : ((r : Int) == 65533) = false := by simpa using c4
          clear c4
          go_wp2
          go_roundw
          case rel => exact ⟨pos + k, b, acc + 1, rfl, rfl, by have h := HC.out; rw [if_neg (by simp at c5; unfold badR; simp; omega)] at h; exact h, by omega, by omega⟩
          case measure =>
            simp
            omega
      · have c5 : ((r : Int) == 65533) = false := by simp; omega
        go_wp2
        go_roundw
        case rel => exact ⟨pos + k, b, acc + 1, rfl, rfl, by have h := HC.out; rw [if_neg (by unfold badR; simp; omega)] at h; exact h, by omega, by omega⟩
        case measure =>
          simp
          omega
    · have hnx : ∀ ty, (Instr.next (.pointer (some ⟨w.heap.size, 0, none⟩)) true ty).run Tryz.prog (w.iter s pos) = _ := fun ty => run_next_end w s pos ty hp
      have hz := HZ.out
      have hdr : nm.drop pos = [] := List.drop_eq_nil_of_le (by omega)
      have h2 : decide (1 ≤ acc ∧ acc ≤ 8) = ANS := by
        rw [hdr] at hc
        cases b <;> simpa [labGo] using hc
      clear hz hdr hc
      have HX := Lib.hid h2
      clear h2
      by_cases c1 : (1 : Int) ≤ acc
      · by_cases c2 : (acc : Int) ≤ 8
        · go_wp2
          go_ret
          exact ⟨congrArg (fun b => Ending.returned (Value.bool b)) ((decide_eq_true (by omega : 1 ≤ acc ∧ acc ≤ 8)).symm.trans HX.out), below_iter _ _ _⟩
        · go_wp2
          go_ret
          exact ⟨congrArg (fun b => Ending.returned (Value.bool b)) ((decide_eq_false (by omega : ¬ (1 ≤ acc ∧ acc ≤ 8))).symm.trans HX.out), below_iter _ _ _⟩
      · go_wp2
        go_ret
        exact ⟨congrArg (fun b => Ending.returned (Value.bool b)) ((decide_eq_false (by omega : ¬ (1 ≤ acc ∧ acc ≤ 8))).symm.trans HX.out), below_iter _ _ _⟩
end Go.Proofs.YtaghecgjmkhpcaaGreatDoor
