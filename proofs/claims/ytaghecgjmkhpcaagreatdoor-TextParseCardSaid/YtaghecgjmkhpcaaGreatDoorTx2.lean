/-
slices.Equal of a slice with itself and with none; same of package text.
-/
import Derived.Test.YtaghecgjmkhpcaaGreatDoorTx1
import Derived.Test.YtaghecgjmkhpcaaGreatDoorReg
import Derived.Deep.QuietTactic
import Derived.BigQuiet
namespace Go.Proofs.YtaghecgjmkhpcaaGreatDoor
set_option linter.unusedVariables false
set_option linter.unusedSimpArgs false
open Go Go.RowKit

theorem below_drewT {w wr : World} (h : Below w.heap.size w wr) (j : Nat) : Below w.heap.size w (wr.drewN j) := ⟨h.os, h.tape, h.output, h.size, h.block⟩
set_option maxRecDepth 20000 in
theorem eqU_some (ad : Addr) (n c : Nat) (l : List Nat) (w : World) (h : Row w (some ad) n c 1 4 (u32s l)) :
    Calls Tryz.prog 32 #[.slice (some ad) n c, .slice (some ad) n c] w fun e w' => e = .returned (.bool true) ∧ Below w.heap.size w w' := by
  have HR := Lib.hid h
  have hl : l.length = n := by have := h.len; rw [u32s_length] at this; omega
  have hnc := h.nc
  have hcm := h.cm
  unfold maxLen at hcm
  have HL := Lib.hid hl
  clear h hl
  go_enter Tryz.func32, Tryz.ntmps32
  go_wp2
  go_loopw [13] (fun i wr => ∃ k : Nat, i = .int .i64 k ∧ k ≤ n ∧ Below w.heap.size w wr) (fun i _ => n - (intOf i).toNat)
  case atStart => exact ⟨0, rfl, Nat.zero_le _, Below.refl _ _⟩
  case round =>
    obtain ⟨k, rfl, hkn, hbr⟩ := hrel
    by_cases hlt : k < n
    · have hk : k < l.length := by rw [HL.out]; exact hlt
      obtain ⟨ad', h1, h2⟩ := (HR.out.rd.below hbr) k (.int .u32 (l[k] : Int)) (by simp [u32s, List.getElem?_map, List.getElem?_eq_getElem hk])
      injection h1 with h1
      subst h1
      have a0 : ∀ j, (wr.drewN j).cell? (ad.add k) = some (.int .u32 (l[k] : Int)) := fun j => h2
      clear h2
      go_wp2
      go_quiet (fail)
      go_wp2
      exact ⟨⟨k + 1, rfl, by omega, below_drewT hbr _⟩, by simp [intOf]; omega⟩
    · go_wp2
      go_ret
      exact ⟨rfl, hbr⟩
set_option maxRecDepth 20000 in
theorem eqB_some (ad : Addr) (n c : Nat) (l : List UInt8) (w : World) (h : Row w (some ad) n c 1 1 (bys l)) :
    Calls Tryz.prog 33 #[.slice (some ad) n c, .slice (some ad) n c] w fun e w' => e = .returned (.bool true) ∧ Below w.heap.size w w' := by
  have HR := Lib.hid h
  have hl : l.length = n := by have := h.len; rw [bys_length] at this; omega
  have hnc := h.nc
  have hcm := h.cm
  unfold maxLen at hcm
  have HL := Lib.hid hl
  clear h hl
  go_enter Tryz.func33, Tryz.ntmps33
  go_wp2
  go_loopw [13] (fun i wr => ∃ k : Nat, i = .int .i64 k ∧ k ≤ n ∧ Below w.heap.size w wr) (fun i _ => n - (intOf i).toNat)
  case atStart => exact ⟨0, rfl, Nat.zero_le _, Below.refl _ _⟩
  case round =>
    obtain ⟨k, rfl, hkn, hbr⟩ := hrel
    by_cases hlt : k < n
    · have hk : k < l.length := by rw [HL.out]; exact hlt
      obtain ⟨ad', h1, h2⟩ := (HR.out.rd.below hbr) k (.int .u8 (l[k].toNat : Int)) (by simp [bys, u8v, List.getElem?_map, List.getElem?_eq_getElem hk])
      injection h1 with h1
      subst h1
      have a0 : ∀ j, (wr.drewN j).cell? (ad.add k) = some (.int .u8 (l[k].toNat : Int)) := fun j => h2
      clear h2
      go_wp2
      go_quiet (fail)
      go_wp2
      exact ⟨⟨k + 1, rfl, by omega, below_drewT hbr _⟩, by simp [intOf]; omega⟩
    · go_wp2
      go_ret
      exact ⟨rfl, hbr⟩
theorem eqU_nil (A : Option Addr) (n c : Nat) (w : World) : Calls Tryz.prog 32 #[.slice A n c, .slice none 0 0] w fun e w' => e = .returned (.bool (n == 0)) ∧ Below w.heap.size w w' := by
  rcases Nat.eq_zero_or_pos n with rfl | hn
  · go_enter Tryz.func32, Tryz.ntmps32
    go_wp2
    go_loopw [13] (fun i wr => i = .int .i64 0 ∧ wr = w) (fun i _ => 0)
    case atStart => exact ⟨rfl, rfl⟩
    case round =>
      obtain ⟨rfl, rfl⟩ := hrel
      go_wp2
      go_ret
      exact ⟨rfl, Below.refl _ _⟩
  · have h1 : ((n : Int) != 0) = true := by simp; omega
    have h2 : (n == 0) = false := by simp; omega
    rw [h2]
    clear h2
    go_enter Tryz.func32, Tryz.ntmps32
    go_wp2
    go_ret
    exact ⟨rfl, Below.refl _ _⟩
theorem eqB_nil (A : Option Addr) (n c : Nat) (w : World) : Calls Tryz.prog 33 #[.slice A n c, .slice none 0 0] w fun e w' => e = .returned (.bool (n == 0)) ∧ Below w.heap.size w w' := by
  rcases Nat.eq_zero_or_pos n with rfl | hn
  · go_enter Tryz.func33, Tryz.ntmps33
    go_wp2
    go_loopw [13] (fun i wr => i = .int .i64 0 ∧ wr = w) (fun i _ => 0)
    case atStart => exact ⟨rfl, rfl⟩
    case round =>
      obtain ⟨rfl, rfl⟩ := hrel
      go_wp2
      go_ret
      exact ⟨rfl, Below.refl _ _⟩
  · have h1 : ((n : Int) != 0) = true := by simp; omega
    have h2 : (n == 0) = false := by simp; omega
    rw [h2]
    clear h2
    go_enter Tryz.func33, Tryz.ntmps33
    go_wp2
    go_ret
    exact ⟨rfl, Below.refl _ _⟩
end Go.Proofs.YtaghecgjmkhpcaaGreatDoor
