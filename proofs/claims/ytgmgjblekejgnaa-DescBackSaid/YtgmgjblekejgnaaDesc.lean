/-
What the functions of package desc do, said of cells.
-/
import Derived.Test.YtgmgjblekejgnaaLaw1
import Derived.Test.YtgmgjblekejgnaaReg
import Derived.Deep.RegionHeld3
namespace Go.Proofs.Ytgmgjblekejgnaa
set_option linter.unusedVariables false
set_option linter.unusedSimpArgs false
open Go.RowKit

/-- A descriptor as a value; whether one may be; its first byte; its bytes. -/
def descV (L : Int) (k s : Bool) (f : Int) : Value := .agg #[.int .i64 L, .bool k, .bool s, .int .u16 f]
def mayD (L : Int) : Bool := decide (0 ≤ L ∧ L ≤ 2)
def desc0 (L : Nat) (k s : Bool) : UInt8 := UInt8.ofNat (L + (if k then 128 else 0) + (if s then 64 else 0))
def descL (L : Nat) (k s : Bool) (f : Nat) : List UInt8 := [desc0 L k s, 90] ++ enc 2 f

set_option maxHeartbeats 400000 in
theorem dmay_any (L : Int) (k s : Bool) (f : Int) (w : World) :
    Calls Try.prog 23 #[.agg #[.int .i64 L, .bool k, .bool s, .int .u16 f]] w fun e w' => e = .returned (.bool (mayD L)) ∧ Below w.heap.size w w' := by
  go_enter Try.func23, Try.ntmps23
  go_wp2
  all_goals
    go_ret
    refine ⟨ret_bool ?_, (Below.refl _ _).alloc (Nat.le_refl _) _⟩
    rw [Bool.eq_iff_iff]
    simp [mayD]; omega
def bitI (b : Int) (on : Bool) : Int := if on then b else 0
set_option maxHeartbeats 400000 in
theorem bit_any (b : Int) (on : Bool) (w : World) :
    Calls Try.prog 33 #[.int .u8 b, .bool on] w fun e w' => e = .returned (.int .u8 (bitI b on)) ∧ w = w' := by
  cases on
  all_goals
    go_enter Try.func33, Try.ntmps33
    go_wp2
    go_ret
    exact ⟨rfl, rfl⟩

theorem desc0_bits (L : Nat) (hL : L ≤ 2) (k s : Bool) :
    bits .or .u8 (bits .or .u8 (bitI 128 k) (bitI 64 s)) (L : Int) = ((desc0 L k s).toNat : Int) := by
  have : L = 0 ∨ L = 1 ∨ L = 2 := by omega
  rcases this with rfl | rfl | rfl <;> cases k <;> cases s <;> decide
theorem own_base {w : World} {b b' : Nat} {t : TypeId} {q : Nat} {v : Value} {n : Nat} {xs : List Value} (h : w.ownsRow b t q v n xs) (hb : b' ≤ b) : w.ownsRow b' t q v n xs := by
  refine ⟨h.1, ?_⟩
  rcases h.2 with h2 | ⟨g2, cap, cur, h2, hb2, rest⟩
  · exact .inl h2
  · exact .inr ⟨g2, cap, cur, h2, Nat.le_trans hb hb2, rest⟩
theorem dput_app (W : World) (g : Nat) (hg : W.heap.size = g) (X F : Int) (x : UInt8) (f : Nat) (hX : X = x.toNat) (hF : F = f) (hf : f ≤ 65535) :
    Calls Try.prog 17 #[.slice (some ⟨g, 0, none⟩) 2 2, .int .i64 2, .int .u64 F] ((W.alloc (.cells #[.int .u8 X, .int .u8 90] 5)).drew) fun e w' => ∃ A c', e = .returned (.slice A 4 c') ∧
      w'.ownsRow g 5 1 (.slice A 4 c') 4 (bys ([x, 90] ++ enc 2 f)) ∧ Below g W w' := by
  subst hX hF
  have ho := lit_own W [x, 90] _ rfl 2 rfl (by unfold maxLen; omega) g g hg (Nat.le_refl _)
  have hfit : fitsB 2 f = true := by rw [fitsB_iff]; exact ⟨by omega, by omega, by show f < 256 ^ 2; omega⟩
  have e1 : appL [x, 90] 2 ((f : Int).toNat) = [x, 90] ++ enc 2 f := by rw [Int.toNat_natCast]; unfold appL; rw [if_pos hfit]; rfl
  refine (append_any (some ⟨g, 0, none⟩) 2 2 [x, 90] 2 f _ rfl (by omega) (by simp) (Rd.own ho).drew (by omega) (by omega) (by omega)).mono ?_
  rintro e w' ⟨A, m, c', rfl, hm, hown, hb⟩
  rw [e1] at hown
  rw [Hid, e1, List.length_append, enc_length] at hm
  obtain rfl : m = 4 := hm
  have hsz : (W.alloc (.cells (bys [x, 90]).toArray 5)).drew.heap.size = g + 1 := by show (W.alloc _).heap.size = _; simp [hg]
  refine ⟨A, c', rfl, ?_, ?_⟩
  · rw [hsz] at hown; exact own_base hown (by omega)
  · have hb' : Below (g + 1) (W.alloc (.cells (bys [x, 90]).toArray 5)).drew w' := by rw [← hsz]; exact hb
    exact ((Below.refl g W).alloc (by omega) _).drew.trans (hb'.mono (by omega))
theorem dput_no (L : Int) (k s : Bool) (f : Int) (w : World) (h : mayD L = false) :
    Calls Try.prog 25 #[.agg #[.int .i64 L, .bool k, .bool s, .int .u16 f]] w fun e w' => e = .returned (.slice none 0 0) ∧ Below w.heap.size w w' := by
  have H := Lib.hid h
  clear h
  go_enter Try.func25, Try.ntmps25
  go_wp2_with (go_at_call 23; (with_reducible refine (dmay_any _ _ _ _ _).mono ?_); rintro e w1 ⟨rfl, hb1⟩; rw [H.out])
  go_ret
  exact ⟨rfl, ((Below.refl _ _).alloc (Nat.le_refl _) _).trans (hb1.mono (by simp))⟩
set_option maxHeartbeats 1000000 in
theorem dput_yes (L : Nat) (k s : Bool) (f : Nat) (w : World) (hL : L ≤ 2) (hf : f ≤ 65535) :
    Calls Try.prog 25 #[.agg #[.int .i64 L, .bool k, .bool s, .int .u16 f]] w fun e w' => ∃ A c', e = .returned (.slice A 4 c') ∧
      w'.ownsRow w.heap.size 5 1 (.slice A 4 c') 4 (bys (descL L k s f)) ∧ Below w.heap.size w w' := by
  have H : Hid (mayD L = true) := by simp [Hid, mayD]; omega
  go_enter Try.func25, Try.ntmps25
  go_wp2_with (go_at_call 23; (with_reducible refine (dmay_any _ _ _ _ _).mono ?_); rintro e w1 ⟨rfl, hb1⟩; rw [H.out])
  have hc : ∀ j v, (#[.int .i64 L, .bool k, .bool s, .int .u16 f] : Array Value)[j]? = some v → w1.cell? ⟨w.heap.size, j, none⟩ = some v := by
    intro j v hv
    have h0 : (w.alloc (.cells #[.int .i64 L, .bool k, .bool s, .int .u16 f] 40)).cell? ⟨w.heap.size, j, none⟩ = some v := by
      rw [cell_of_row _ _ _ _ _ _ (heap_alloc_new w _)]; exact hv
    rw [hb1.cell (by simp)]; exact h0
  have c0 := hc 0 _ rfl
  have c1 := hc 1 _ rfl
  have c2 := hc 2 _ rfl
  have c3 := hc 3 _ rfl
  have hsz : w.heap.size < w1.heap.size := by have := hb1.size; simp at this; omega
  clear hc
  have HD := Lib.hid (desc0_bits L hL k s)
  go_region_held3 (fun w' => w'.cell? ⟨w.heap.size, 0, none⟩ = some (.int .i64 L) ∧ w'.cell? ⟨w.heap.size, 1, none⟩ = some (.bool k) ∧ w'.cell? ⟨w.heap.size, 2, none⟩ = some (.bool s) ∧ w'.cell? ⟨w.heap.size, 3, none⟩ = some (.int .u16 f)) (first | exact ⟨k0, k1, k2, k3⟩ | go_keep)
    (first
    | (go_at_call 33; (with_reducible refine (bit_any _ _ _).mono ?_); rintro e w' ⟨rfl, rfl⟩)
    | (go_at_call 17; (with_reducible refine (dput_app w1 _ rfl _ _ (desc0 L k s) f ?_ ?_ hf).mono ?_); (rw [← HD.out]; rw [IntKind.wrap_u8']; congr 1; omega); (rw [IntKind.wrap_u64]; omega); rintro e w5 ⟨A5, c5, rfl, hown5, hb5⟩; have k0 := (hb5.cell (p := ⟨w.heap.size, 0, none⟩) hsz).trans c0; have k1 := (hb5.cell (p := ⟨w.heap.size, 1, none⟩) hsz).trans c1; have k2 := (hb5.cell (p := ⟨w.heap.size, 2, none⟩) hsz).trans c2; have k3 := (hb5.cell (p := ⟨w.heap.size, 3, none⟩) hsz).trans c3))
  go_wp2
  go_ret
  exact ⟨A5, c5, rfl, own_base hown5 (by omega), ((Below.refl _ _).alloc (Nat.le_refl _) _).trans ((hb1.mono (by simp)).trans (hb5.mono (by omega)))⟩
end Go.Proofs.Ytgmgjblekejgnaa
