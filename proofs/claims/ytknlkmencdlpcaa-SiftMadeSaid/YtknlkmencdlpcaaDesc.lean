/-
What the functions of package desc do, said of cells.
What desc.Get does, and what the document's own descriptors are, said of cells.
What the document's own descriptors are, said of cells.
A descriptor's four bytes, read back: whatever follows. In plain words; no function of the program is spoken of.
-/
import Derived.Test.YtknlkmencdlpcaaReg
import Derived.Deep.RegionHeld3
import Derived.Test.YtknlkmencdlpcaaRef1
import Derived.StillTailTactics
namespace Go.Proofs.Ytknlkmencdlpcaa
set_option linter.unusedVariables false
set_option linter.unusedSimpArgs false
open Go.RowKit

/-- A descriptor as a value; whether one may be; its first byte; its bytes. -/
def descV (L : Int) (k s : Bool) (f : Int) : Value := .agg #[.int .i64 L, .bool k, .bool s, .int .u16 f]
def mayD (L : Int) : Bool := decide (0 ≤ L ∧ L ≤ 2)
def desc0 (L : Nat) (k s : Bool) : UInt8 := UInt8.ofNat (L + (if k then 128 else 0) + (if s then 64 else 0))
def descL (L : Nat) (k s : Bool) (f : Nat) : List UInt8 := [desc0 L k s, 90] ++ enc 2 f

set_option maxHeartbeats 400000 in
theorem dmay_any (L : Int) (k s : Bool) (f : Int) (w : World) :
    Calls Try.prog 143 #[.agg #[.int .i64 L, .bool k, .bool s, .int .u16 f]] w fun e w' => e = .returned (.bool (mayD L)) ∧ Below w.heap.size w w' := by
  go_enter Try.func143, Try.ntmps143
  go_wp2
  all_goals
    go_ret
    refine ⟨ret_bool ?_, (Below.refl _ _).alloc (Nat.le_refl _) _⟩
    rw [Bool.eq_iff_iff]
    simp [mayD]; omega
def bitI (b : Int) (on : Bool) : Int := if on then b else 0
set_option maxHeartbeats 400000 in
theorem bit_any (b : Int) (on : Bool) (w : World) :
    Calls Try.prog 144 #[.int .u8 b, .bool on] w fun e w' => e = .returned (.int .u8 (bitI b on)) ∧ w = w' := by
  cases on
  all_goals
    go_enter Try.func144, Try.ntmps144
    go_wp2
    go_ret
    exact ⟨rfl, rfl⟩

theorem desc0_bits (L : Nat) (hL : L ≤ 2) (k s : Bool) :
    bits .or .u8 (bits .or .u8 (bitI 128 k) (bitI 64 s)) (L : Int) = ((desc0 L k s).toNat : Int) := by
  have : L = 0 ∨ L = 1 ∨ L = 2 := by omega
  rcases this with rfl | rfl | rfl <;> cases k <;> cases s <;> decide
theorem own_base {w : World} {b b' : Nat} {t : TypeId} {q : Nat} {v : Value} {n : Nat} {xs : List Value} (h : w.ownsRow b t q v n xs) (hb : b' ≤ b) : w.ownsRow b' t q v n xs := by
  refine ⟨h.1, ?_⟩
  rcases h.2 with h2 | ⟨g2, cap, cur, h2, hb2, rest⟩
  · exact .inl h2
  · exact .inr ⟨g2, cap, cur, h2, Nat.le_trans hb hb2, rest⟩
theorem dput_app (W : World) (g : Nat) (hg : W.heap.size = g) (X F : Int) (x : UInt8) (f : Nat) (hX : X = x.toNat) (hF : F = f) (hf : f ≤ 65535) :
    Calls Try.prog 129 #[.slice (some ⟨g, 0, none⟩) 2 2, .int .i64 2, .int .u64 F] ((W.alloc (.cells #[.int .u8 X, .int .u8 90] 5)).drew) fun e w' => ∃ A c', e = .returned (.slice A 4 c') ∧
      w'.ownsRow g 5 1 (.slice A 4 c') 4 (bys ([x, 90] ++ enc 2 f)) ∧ Below g W w' := by
  subst hX hF
  have ho := lit_own W [x, 90] _ rfl 2 rfl (by unfold maxLen; omega) g g hg (Nat.le_refl _)
  have hfit : fitsB 2 f = true := by rw [fitsB_iff]; exact ⟨by omega, by omega, by show f < 256 ^ 2; omega⟩
  have e1 : appL [x, 90] 2 ((f : Int).toNat) = [x, 90] ++ enc 2 f := by rw [Int.toNat_natCast]; unfold appL; rw [if_pos hfit]; rfl
  refine (append_any (some ⟨g, 0, none⟩) 2 2 [x, 90] 2 f _ rfl (by omega) (by simp) (Rd.own ho).drew (by omega) (by omega) (by omega)).mono ?_
  rintro e w' ⟨A, m, c', rfl, hm, hown, hb⟩
  rw [e1] at hown
  rw [Hid, e1, List.length_append, enc_length] at hm
  obtain rfl : m = 4 := hm
  have hsz : (W.alloc (.cells (bys [x, 90]).toArray 5)).drew.heap.size = g + 1 := by show (W.alloc _).heap.size = _; simp [hg]
  refine ⟨A, c', rfl, ?_, ?_⟩
  · rw [hsz] at hown; exact own_base hown (by omega)
  · have hb' : Below (g + 1) (W.alloc (.cells (bys [x, 90]).toArray 5)).drew w' := by rw [← hsz]; exact hb
    exact ((Below.refl g W).alloc (by omega) _).drew.trans (hb'.mono (by omega))
theorem dput_no (L : Int) (k s : Bool) (f : Int) (w : World) (h : mayD L = false) :
    Calls Try.prog 111 #[.agg #[.int .i64 L, .bool k, .bool s, .int .u16 f]] w fun e w' => e = .returned (.slice none 0 0) ∧ Below w.heap.size w w' := by
  have H := Lib.hid h
  clear h
  go_enter Try.func111, Try.ntmps111
  go_wp2_with (go_at_call 143; (with_reducible refine (dmay_any _ _ _ _ _).mono ?_); rintro e w1 ⟨rfl, hb1⟩; rw [H.out])
  go_ret
  exact ⟨rfl, ((Below.refl _ _).alloc (Nat.le_refl _) _).trans (hb1.mono (by simp))⟩
set_option maxHeartbeats 1000000 in
theorem dput_yes (L : Nat) (k s : Bool) (f : Nat) (w : World) (hL : L ≤ 2) (hf : f ≤ 65535) :
    Calls Try.prog 111 #[.agg #[.int .i64 L, .bool k, .bool s, .int .u16 f]] w fun e w' => ∃ A c', e = .returned (.slice A 4 c') ∧
      w'.ownsRow w.heap.size 5 1 (.slice A 4 c') 4 (bys (descL L k s f)) ∧ Below w.heap.size w w' := by
  have H : Hid (mayD L = true) := by simp [Hid, mayD]; omega
  go_enter Try.func111, Try.ntmps111
  go_wp2_with (go_at_call 143; (with_reducible refine (dmay_any _ _ _ _ _).mono ?_); rintro e w1 ⟨rfl, hb1⟩; rw [H.out])
  have hc : ∀ j v, (#[.int .i64 L, .bool k, .bool s, .int .u16 f] : Array Value)[j]? = some v → w1.cell? ⟨w.heap.size, j, none⟩ = some v := by
    intro j v hv
    have h0 : (w.alloc (.cells #[.int .i64 L, .bool k, .bool s, .int .u16 f] 109)).cell? ⟨w.heap.size, j, none⟩ = some v := by
      rw [cell_of_row _ _ _ _ _ _ (heap_alloc_new w _)]; exact hv
    rw [hb1.cell (by simp)]; exact h0
  have c0 := hc 0 _ rfl
  have c1 := hc 1 _ rfl
  have c2 := hc 2 _ rfl
  have c3 := hc 3 _ rfl
  have hsz : w.heap.size < w1.heap.size := by have := hb1.size; simp at this; omega
  clear hc
  have HD := Lib.hid (desc0_bits L hL k s)
  go_region_held3 (fun w' => w'.cell? ⟨w.heap.size, 0, none⟩ = some (.int .i64 L) ∧ w'.cell? ⟨w.heap.size, 1, none⟩ = some (.bool k) ∧ w'.cell? ⟨w.heap.size, 2, none⟩ = some (.bool s) ∧ w'.cell? ⟨w.heap.size, 3, none⟩ = some (.int .u16 f)) (first | exact ⟨k0, k1, k2, k3⟩ | go_keep)
    (first
    | (go_at_call 144; (with_reducible refine (bit_any _ _ _).mono ?_); rintro e w' ⟨rfl, rfl⟩)
    | (go_at_call 129; (with_reducible refine (dput_app w1 _ rfl _ _ (desc0 L k s) f ?_ ?_ hf).mono ?_); (rw [← HD.out]; rw [IntKind.wrap_u8']; congr 1; omega); (rw [IntKind.wrap_u64]; omega); rintro e w5 ⟨A5, c5, rfl, hown5, hb5⟩; have k0 := (hb5.cell (p := ⟨w.heap.size, 0, none⟩) hsz).trans c0; have k1 := (hb5.cell (p := ⟨w.heap.size, 1, none⟩) hsz).trans c1; have k2 := (hb5.cell (p := ⟨w.heap.size, 2, none⟩) hsz).trans c2; have k3 := (hb5.cell (p := ⟨w.heap.size, 3, none⟩) hsz).trans c3))
  go_wp2
  go_ret
  exact ⟨A5, c5, rfl, own_base hown5 (by omega), ((Below.refl _ _).alloc (Nat.le_refl _) _).trans ((hb1.mono (by simp)).trans (hb5.mono (by omega)))⟩
end Go.Proofs.Ytknlkmencdlpcaa

namespace Go.Proofs.Ytknlkmencdlpcaa
set_option linter.unusedVariables false
set_option linter.unusedSimpArgs false
set_option maxRecDepth 20000
open Go.RowKit

theorem still_tail {P : Program} {id : Nat} {Q : Exit → Act → World → Prop} {a : Act} {w : World} {l : List Oper} (n : Nat) (hm : P.follows .mixedOrders = true) (hB : Region.lexTailB .any l.toArray n = true)
    (h : wpStill P l.toArray w.drew (fun a' => wpList P l.toArray Q (l.drop n) a' w.drew) (l.take n) a) : (Code.region id l.toArray true).wp P Q a w := wp_region_still_tail n hm hB h
theorem dget_short (A : Option Addr) (n c : Nat) (w : World) (h : n < 4) :
    Calls Try.prog 74 #[.slice A n c] w fun e w' => e = .returned (.tuple #[descV 0 false false 0, .int .i64 2]) ∧ Below w.heap.size w w' := by
  go_enter Try.func74, Try.ntmps74
  go_wp2
  exact bodyPost_ret (v := .tuple #[.agg #[.int .i64 0, .bool false, .bool false, .int .u16 0], .int .i64 2]) (by simp [results, Try.results74, go_sem]) rfl ⟨rfl, (Below.refl _ _).alloc (Nat.le_refl _) _⟩

theorem byte_bits : ∀ k : Nat, k < 256 → bits .and .u8 (k : Int) 60 = ((k / 4 % 16 * 4 : Nat) : Int) ∧ bits .and .u8 (k : Int) 3 = ((k % 4 : Nat) : Int) ∧ (bits .and .u8 (k : Int) 128 != 0) = decide (128 ≤ k) ∧ (bits .and .u8 (k : Int) 64 != 0) = decide (k / 64 % 2 = 1) := by
  have h : (List.range 256).all (fun k => decide (bits .and .u8 (k : Int) 60 = ((k / 4 % 16 * 4 : Nat) : Int) ∧ bits .and .u8 (k : Int) 3 = ((k % 4 : Nat) : Int) ∧ (bits .and .u8 (k : Int) 128 != 0) = decide (128 ≤ k) ∧ (bits .and .u8 (k : Int) 64 != 0) = decide (k / 64 % 2 = 1))) = true := by kernel_rfl
  intro k hk
  exact of_decide_eq_true (List.all_eq_true.1 h k (List.mem_range.2 hk))
/-- What stands in four bytes. -/
def dE (l : List UInt8) : Int := if l.length < 4 then 2 else if (l[0]?.getD 0).toNat / 4 % 16 ≠ 0 ∨ (l[0]?.getD 0).toNat % 4 = 3 ∨ (l[1]?.getD 0).toNat ≠ 90 then 1 else 0
def dOk (l : List UInt8) : Bool := dE l == 0
def dL (l : List UInt8) : Nat := if dOk l then (l[0]?.getD 0).toNat % 4 else 0
def dK (l : List UInt8) : Bool := dOk l && decide (128 ≤ (l[0]?.getD 0).toNat)
def dS (l : List UInt8) : Bool := dOk l && decide ((l[0]?.getD 0).toNat / 64 % 2 = 1)
def dF (l : List UInt8) : Nat := if dOk l then getN l 2 2 else 0
theorem getN_2 (l : List UInt8) (a : Int) : getN l a 2 < 65536 := by
  unfold getN
  split
  · have := beN_lt (part l a.toNat (2 : Int).toNat)
    have h2 : (part l a.toNat (2 : Int).toNat).length ≤ 2 := by simp [part]; omega
    have : 256 ^ (part l a.toNat (2 : Int).toNat).length ≤ 256 ^ 2 := Nat.pow_le_pow_right (by omega) h2
    omega
  · omega
set_option maxHeartbeats 1000000 in
theorem dget_ok (g : Addr) (n c : Nat) (l : List UInt8) (x y : UInt8) (w : World) (hn : l.length = n) (hnc : n ≤ c) (hcm : c ≤ maxLen) (hr : Rd w (some g) (bys l)) (h0 : w.cell? g = some (.int .u8 x.toNat)) (h1 : w.cell? ⟨g.block, g.off + 1, none⟩ = some (.int .u8 y.toNat)) (h : 4 ≤ n)
    (e1 : bits .and .u8 (x.toNat : Int) 60 = 0) (e2 : (bits .and .u8 (x.toNat : Int) 3 == 3) = false) (e3 : (y.toNat : Int) = 90) :
    Calls Try.prog 74 #[.slice (some g) n c] w fun e w' => e = .returned (.tuple #[descV (wrap64 (bits .and .u8 (x.toNat : Int) 3)) (bits .and .u8 (x.toNat : Int) 128 != 0) (bits .and .u8 (x.toNat : Int) 64 != 0) (IntKind.u16.wrap (getN l 2 2)), .int .i64 0]) ∧ Below w.heap.size w w' := by
  have hb1 := fun o => (Below.refl w.heap.size w).alloc (Nat.le_refl _) o
  have ha := fun o => below_cell (hb1 o) h0
  have hb := fun o => below_cell (hb1 o) h1
  have hd : ∀ o, (w.alloc o).drew.cell? g = some (.int .u8 x.toNat) := fun o => ha o
  have hn0 : 0 < n := by omega
  have hr1 := fun o => hr.below (hb1 o)
  clear h0 h1
  go_enter Try.func74, Try.ntmps74
  go_wp2_with (go_at_call 120; (with_reducible refine (get_any (some g) n c l 2 2 _ hn hnc hcm (hr1 _) (by omega) (by omega)).mono ?_); rintro e w' ⟨rfl, rfl⟩)
  all_goals
    refine still_tail 18 (by kernel_rfl) (by kernel_rfl) ?_
    simp only [List.take_succ_cons, List.take_zero, List.drop_succ_cons, List.drop_zero]
    repeat still_step
    refine wpStill_nil ?_
    go_wp2
    exact bodyPost_ret (v := .tuple #[descV (wrap64 (bits .and .u8 (x.toNat : Int) 3)) (bits .and .u8 (x.toNat : Int) 128 != 0) (bits .and .u8 (x.toNat : Int) 64 != 0) (IntKind.u16.wrap (getN l 2 2)), .int .i64 0]) (by simp [results, Try.results74, go_sem, descV]) rfl ⟨rfl, (hb1 _).drew⟩
set_option maxHeartbeats 1000000 in
theorem dget_form (g : Addr) (n c : Nat) (x y : UInt8) (w : World) (h0 : w.cell? g = some (.int .u8 x.toNat)) (h1 : w.cell? ⟨g.block, g.off + 1, none⟩ = some (.int .u8 y.toNat)) (h : 4 ≤ n)
    (hbad : ¬ bits .and .u8 (x.toNat : Int) 60 = 0 ∨ (bits .and .u8 (x.toNat : Int) 60 = 0 ∧ bits .and .u8 (x.toNat : Int) 3 = 3) ∨ (bits .and .u8 (x.toNat : Int) 60 = 0 ∧ (bits .and .u8 (x.toNat : Int) 3 == 3) = false ∧ ¬ (y.toNat : Int) = 90)) :
    Calls Try.prog 74 #[.slice (some g) n c] w fun e w' => e = .returned (.tuple #[descV 0 false false 0, .int .i64 1]) ∧ Below w.heap.size w w' := by
  have hb1 := fun o => (Below.refl w.heap.size w).alloc (Nat.le_refl _) o
  have ha := fun o => below_cell (hb1 o) h0
  have hb := fun o => below_cell (hb1 o) h1
  have hn0 : 0 < n := by omega
  clear h0 h1
  rcases hbad with e1 | ⟨e1, e2⟩ | ⟨e1, e2, e3⟩
  all_goals
    go_enter Try.func74, Try.ntmps74
    go_wp2
    all_goals
      exact bodyPost_ret (v := .tuple #[.agg #[.int .i64 0, .bool false, .bool false, .int .u16 0], .int .i64 1]) (by simp [results, Try.results74, go_sem]) rfl ⟨rfl, hb1 _⟩
theorem dget_any (A : Option Addr) (n c : Nat) (l : List UInt8) (w : World) (hn : l.length = n) (hnc : n ≤ c) (hcm : c ≤ maxLen) (hr : Rd w A (bys l)) :
    Calls Try.prog 74 #[.slice A n c] w fun e w' => e = .returned (.tuple #[descV (dL l) (dK l) (dS l) (dF l), .int .i64 (dE l)]) ∧ Below w.heap.size w w' := by
  by_cases h : n < 4
  · have e : dE l = 2 := by unfold dE; rw [if_pos (by omega)]
    have eo : dOk l = false := by unfold dOk; rw [e]; rfl
    refine (dget_short A n c w h).mono ?_
    rintro e w' ⟨rfl, hb⟩
    exact ⟨by simp [dL, dK, dS, dF, eo, e], hb⟩
  · have hlen : 4 ≤ l.length := by omega
    obtain ⟨ad, rfl, h0⟩ := RdB.at_ hr (k := 0) (by omega)
    obtain ⟨ad', hA, h1⟩ := RdB.at_ hr (k := 1) (by omega)
    injection hA with hA; subst hA
    rw [add_zero'] at h0
    have i0 : l[0]?.getD 0 = l[0] := by rw [List.getElem?_eq_getElem (by omega)]; rfl
    have i1 : l[1]?.getD 0 = l[1] := by rw [List.getElem?_eq_getElem (by omega)]; rfl
    obtain ⟨b1, b2, b3, b4⟩ := byte_bits l[0].toNat (UInt8.toNat_lt _)
    by_cases hbad : (l[0]?.getD 0).toNat / 4 % 16 ≠ 0 ∨ (l[0]?.getD 0).toNat % 4 = 3 ∨ (l[1]?.getD 0).toNat ≠ 90
    · have e : dE l = 1 := by unfold dE; rw [if_neg (by omega), if_pos hbad]
      have eo : dOk l = false := by unfold dOk; rw [e]; rfl
      rw [i0, i1] at hbad
      refine (dget_form ad n c l[0] l[1] w h0 h1 (by omega) ?_).mono ?_
      · rw [b1, b2]
        simp only [beq_eq_false_iff_ne, ne_eq]
        omega
      · rintro e w' ⟨rfl, hb⟩
        exact ⟨by simp [dL, dK, dS, dF, eo, e], hb⟩
    · have e : dE l = 0 := by unfold dE; rw [if_neg (by omega), if_neg hbad]
      have eo : dOk l = true := by unfold dOk; rw [e]; rfl
      rw [i0, i1] at hbad
      refine (dget_ok ad n c l l[0] l[1] w hn hnc hcm hr h0 h1 (by omega) (by rw [b1]; omega) (by rw [b2]; simp only [beq_eq_false_iff_ne, ne_eq]; omega) (by omega)).mono ?_
      rintro e w' ⟨rfl, hb⟩
      refine ⟨?_, hb⟩
      have hg := getN_2 l 2
      have e5 : IntKind.u16.wrap (getN l 2 2 : Nat) = ((getN l 2 2 : Nat) : Int) := by simp [IntKind.wrap, IntKind.bits, IntKind.signed]; omega
      have e6 : wrap64 ((l[0].toNat % 4 : Nat) : Int) = ((l[0].toNat % 4 : Nat) : Int) := by unfold wrap64; omega
      rw [b2, b3, b4, e5, e6]
      simp [dL, dK, dS, dF, eo, e, i0]
end Go.Proofs.Ytknlkmencdlpcaa

namespace Go.Proofs.Ytknlkmencdlpcaa
set_option linter.unusedVariables false
set_option linter.unusedSimpArgs false
set_option maxRecDepth 20000
open Go.RowKit

set_option maxHeartbeats 400000 in
theorem rdmay_any (L : Int) (k s : Bool) (f : Int) (w : World) :
    Calls Try.prog 124 #[.agg #[.int .i64 L, .bool k, .bool s, .int .u16 f]] w fun e w' => e = .returned (.bool (mayD L)) ∧ Below w.heap.size w w' := by
  go_enter Try.func124, Try.ntmps124
  go_wp2
  all_goals
    go_ret
    refine ⟨ret_bool ?_, (Below.refl _ _).alloc (Nat.le_refl _) _⟩
    rw [Bool.eq_iff_iff]
    simp [mayD]; omega
theorem rdput_no (L : Int) (k s : Bool) (f : Int) (w : World) (h : mayD L = false) :
    Calls Try.prog 81 #[.agg #[.int .i64 L, .bool k, .bool s, .int .u16 f]] w fun e w' => e = .returned (.slice none 0 0) ∧ Below w.heap.size w w' := by
  have H := Lib.hid h
  clear h
  go_enter Try.func81, Try.ntmps81
  go_wp2_with (go_at_call 124; (with_reducible refine (rdmay_any _ _ _ _ _).mono ?_); rintro e w1 ⟨rfl, hb1⟩; rw [H.out])
  go_ret
  exact ⟨rfl, ((Below.refl _ _).alloc (Nat.le_refl _) _).trans (hb1.mono (by simp))⟩
theorem desc_cells {w w1 : World} {L : Int} {k s : Bool} {f : Int}
    (hb1 : Below (w.alloc (.cells #[.int .i64 L, .bool k, .bool s, .int .u16 f] 109)).heap.size (w.alloc (.cells #[.int .i64 L, .bool k, .bool s, .int .u16 f] 109)) w1) :
    w1.cell? ⟨w.heap.size, 0, none⟩ = some (.int .i64 L) ∧ w1.cell? ⟨w.heap.size, 1, none⟩ = some (.bool k) ∧ w1.cell? ⟨w.heap.size, 2, none⟩ = some (.bool s) ∧ w1.cell? ⟨w.heap.size, 3, none⟩ = some (.int .u16 f) ∧ w.heap.size < w1.heap.size := by
  have hc : ∀ j v, (#[.int .i64 L, .bool k, .bool s, .int .u16 f] : Array Value)[j]? = some v → w1.cell? ⟨w.heap.size, j, none⟩ = some v := by
    intro j v hv
    have h0 : (w.alloc (.cells #[.int .i64 L, .bool k, .bool s, .int .u16 f] 109)).cell? ⟨w.heap.size, j, none⟩ = some v := by
      rw [cell_of_row _ _ _ _ _ _ (heap_alloc_new w _)]; exact hv
    rw [hb1.cell (by simp)]; exact h0
  exact ⟨hc 0 _ rfl, hc 1 _ rfl, hc 2 _ rfl, hc 3 _ rfl, by have := hb1.size; simp at this; omega⟩
theorem rdput_bytes (W : World) (g : Nat) (hg : W.heap.size = g) (X : Int) (x : UInt8) (f : Nat) (hX : X = x.toNat) (hf : f ≤ 65535) :
    Calls Try.prog 125 #[.int .i64 2, .int .u64 f] (W.alloc (.cells #[.int .u8 X, .int .u8 90] 5)) fun e w' => ∃ B c', e = .returned (.slice B 2 c') ∧
      w'.ownsRow (g + 1) 5 1 (.slice B 2 c') 2 (bys (enc 2 f)) ∧ w'.ownsRow g 5 1 (.slice (some ⟨g, 0, none⟩) 2 2) 2 (bys [x, 90]) ∧ Below g W w' := by
  subst hX
  have ho := lit_own W [x, 90] _ rfl 2 rfl (by unfold maxLen; omega) g g hg (Nat.le_refl _)
  refine (rbytes_any 2 f _ (by omega) (by omega)).mono ?_
  rintro e w' ⟨B, c', rfl, hown, hb⟩
  have hsz : ∀ A : Array Value, (W.alloc (.cells A 5)).heap.size = g + 1 := fun A => by simp [hg]
  have hk := ho.kept (own_below hb) (own_none _)
  rw [hsz] at hown hb
  exact ⟨B, c', rfl, hown, hk, ((Below.refl g W).alloc (by omega) _).trans (hb.mono (by omega))⟩
set_option maxHeartbeats 1000000 in
theorem rdput_yes (L : Nat) (k s : Bool) (f : Nat) (w : World) (hL : L ≤ 2) (hf : f ≤ 65535) :
    Calls Try.prog 81 #[.agg #[.int .i64 L, .bool k, .bool s, .int .u16 f]] w fun e w' => ∃ A c', e = .returned (.slice A 4 c') ∧
      w'.ownsRow w.heap.size 5 1 (.slice A 4 c') 4 (bys (descL L k s f)) ∧ Below w.heap.size w w' := by
  have H : Hid (mayD L = true) := by simp [Hid, mayD]; omega
  obtain ⟨D, hD⟩ : ∃ D, D = desc0 L k s := ⟨_, rfl⟩
  have hv : ((D.toNat : Nat) : Int) = L + (if k then 128 else 0) + (if s then 64 else 0) := by
    rw [hD]
    have : L = 0 ∨ L = 1 ∨ L = 2 := by omega
    rcases this with rfl | rfl | rfl <;> cases k <;> cases s <;> decide
  have hDL : descL L k s f = [D, 90] ++ enc 2 f := by rw [hD]; rfl
  have HDL := Lib.hid hDL
  clear hD hDL
  cases k <;> cases s
  all_goals
    simp only [if_true, if_false, Bool.false_eq_true, Int.add_zero] at hv
    go_enter Try.func81, Try.ntmps81
    go_wp2_with (first
      | (go_at_call 124; (with_reducible refine (rdmay_any _ _ _ _ _).mono ?_); rintro e w1 ⟨rfl, hb1⟩; rw [H.out]; obtain ⟨c0, c1, c2, c3, hsz⟩ := desc_cells hb1)
      | (go_at_call 125; (with_reducible refine (rdput_bytes w1 _ rfl _ D f (by omega) hf).mono ?_); rintro e w2 ⟨B, cB, rfl, hown2, hlit2, hb2⟩)
      | (at_builtin; refine wpList_app slU8 rfl _ _ rfl w1.heap.size (some ⟨w1.heap.size, 0, none⟩) 2 2 (bys [D, 90]) rfl hlit2 B 2 cB (bys (enc 2 f)) rfl (by rw [bys_length, enc_length]) (Rd.own hown2) (bys_one _) (by omega) hb2.size ?_; intro A3 c3 w3 hown3 hg3 hA3))
    go_ret
    rw [bys_append, ← HDL.out] at hown3
    have hb3 := hb2.grown hg3 hb2.size (by simp)
    exact ⟨A3, c3, rfl, own_base hown3 (by omega), ((Below.refl _ _).alloc (Nat.le_refl _) _).trans ((hb1.mono (by simp)).trans (hb3.mono (by omega)))⟩
end Go.Proofs.Ytknlkmencdlpcaa

namespace Go.Proofs.Ytknlkmencdlpcaa
set_option linter.unusedVariables false
set_option linter.unusedSimpArgs false
open Go Go.RowKit

theorem descL_len (L : Nat) (k s : Bool) (f : Nat) : (descL L k s f).length = 4 := by simp [descL, enc]
theorem desc0_bk (L : Nat) (hL : L ≤ 2) (k s : Bool) : (desc0 L k s).toNat / 4 % 16 = 0 ∧ (desc0 L k s).toNat % 4 = L ∧ decide (128 ≤ (desc0 L k s).toNat) = k ∧ decide ((desc0 L k s).toNat / 64 % 2 = 1) = s := by
  have : L = 0 ∨ L = 1 ∨ L = 2 := by omega
  rcases this with rfl | rfl | rfl <;> cases k <;> cases s <;> decide
theorem desc_trn (L : Nat) (hL : L ≤ 2) (k s : Bool) (f : Nat) (hf : f ≤ 65535) (l : List UInt8) :
    dE (descL L k s f ++ l) = 0 ∧ dL (descL L k s f ++ l) = L ∧ dK (descL L k s f ++ l) = k ∧ dS (descL L k s f ++ l) = s ∧ dF (descL L k s f ++ l) = f := by
  obtain ⟨h1, h2, h3, h4⟩ := desc0_bk L hL k s
  have e0 : (descL L k s f ++ l)[0]?.getD 0 = desc0 L k s := by simp [descL]
  have e1 : (descL L k s f ++ l)[1]?.getD 0 = 90 := by simp [descL]
  have hlen : 4 ≤ (descL L k s f ++ l).length := by rw [List.length_append, descL_len]; omega
  have hE : dE (descL L k s f ++ l) = 0 := by
    unfold dE
    rw [if_neg (by omega), e0, e1, if_neg]
    rintro (h | h | h)
    · exact h h1
    · omega
    · exact h rfl
  have ho : dOk (descL L k s f ++ l) = true := by unfold dOk; rw [hE]; rfl
  refine ⟨hE, ?_, ?_, ?_, ?_⟩
  · simp only [dL, ho, if_true, e0]; exact h2
  · simp only [dK, ho, Bool.true_and, e0]; exact h3
  · simp only [dS, ho, Bool.true_and, e0]; exact h4
  · simp only [dF, ho, if_true]
    unfold getN
    rw [if_pos (by rw [withinB_iff]; omega)]
    have : part (descL L k s f ++ l) (2 : Int).toNat (2 : Int).toNat = enc 2 f := by
      show ((descL L k s f ++ l).drop 2).take 2 = _
      unfold descL
      simp [enc]
    rw [this, beN_enc]
    show f < 256 ^ 2
    omega
end Go.Proofs.Ytknlkmencdlpcaa
