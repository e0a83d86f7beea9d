/-
Whether bytes begin as a report does (function right of package report).
-/
import Derived.Test.YtnkclbaeamcplaaRep4
namespace Go.Proofs.Ytnkclbaeamcplaa
set_option linter.unusedVariables false
set_option linter.unusedSimpArgs false
open Go Go.RowKit

def byteN (l : List UInt8) (k : Nat) : Nat := (l[k]?.getD 0).toNat
def manyR (l : List UInt8) : Nat := byteN l 0 % 32
def longR (l : List UInt8) : Nat := sizeR (byteN l 1) (manyR l)
/-- What is wrong with the front of a report. -/
def rightE (l : List UInt8) : Nat :=
  if l.length < 4 then 2 else if byteN l 0 / 32 ≠ 4 then 1 else if knownB (byteN l 1) = false then 4 else
    if manyR l > 15 ∨ (getN l 2 2 + 1) * 4 ≠ longR l then 1 else if l.length < longR l then 2 else 0
def rightN (l : List UInt8) : Nat := if rightE l = 0 then longR l else 0
theorem and31 : ∀ k : Nat, k < 256 → bits .and .u8 (k : Int) 31 = ((k % 32 : Nat) : Int) := by
  have h : (List.range 256).all (fun k => decide (bits .and .u8 (k : Int) 31 = ((k % 32 : Nat) : Int))) = true := by decide +kernel
  intro k hk
  exact of_decide_eq_true (List.all_eq_true.1 h k (List.mem_range.2 hk))
theorem byteN_lt (l : List UInt8) (k : Nat) : byteN l k < 256 := UInt8.toNat_lt _
theorem bts_byte {w : World} {X : Option Addr} {n c : Nat} {l : List UInt8} (h : Bts w X n c l) {k : Nat} (hk : k < n) : ∃ ad, X = some ad ∧ w.cell? (ad.add k) = some (.int .u8 (byteN l k)) := by
  have hkl : k < l.length := by rw [h.len]; exact hk
  obtain ⟨ad, h1, h2⟩ := RdB.at_ h.rd hkl
  refine ⟨ad, h1, ?_⟩
  rw [byteN, List.getElem?_eq_getElem hkl]
  exact h2
theorem get_same2 (A : Option Addr) (n c : Nat) (l : List UInt8) (Z S : Int) (a s : Nat) (hZ : Z = a) (hS : S = s) (w : World) (h : Bts w A n c l) (h1 : a ≤ 9223372036854775807) (h2 : s ≤ 9223372036854775807) :
    Calls Try.prog 57 #[.slice A n c, .int .i64 Z, .int .i64 S] w fun e w' => e = .returned (.tuple #[.int .u64 (getN l a s : Nat), .bool (withinB n a s)]) ∧ w' = w := by
  subst hZ
  exact get_same A n c l a s S hS w h h1 h2
theorem size_same (k : Int) (n : Nat) (w : World) (hn : n ≤ 1000) : Calls Try.prog 36 #[.int .i64 k, .int .i64 n] w fun e w' => e = .returned (.int .i64 (sizeR k n : Nat)) ∧ w' = w :=
  (size_any k n w hn).mono fun e w' ⟨h1, h2⟩ => ⟨h1, h2.symm⟩
set_option maxRecDepth 20000 in
set_option maxHeartbeats 1000000 in
theorem right_any (w : World) (X : Option Addr) (n c : Nat) (l : List UInt8) (hb : Bts w X n c l) :
    Calls Try.prog 41 #[.slice X n c] w fun e w' => e = .returned (.tuple #[.int .i64 (rightN l : Nat), .int .i64 (rightE l : Nat)]) ∧ Below w.heap.size w w' := by
  have HB := Lib.hid hb
  have HL := Lib.hid hb.len
  have hcm := hb.cm
  have hnc := hb.nc
  by_cases h4 : n < 4
  · have e1 : rightE l = 2 := by unfold rightE; rw [if_pos (by rw [hb.len]; exact h4)]
    have e2 : rightN l = 0 := by unfold rightN; rw [e1]; rfl
    clear hb
    rw [e1, e2]
    go_enter Try.func41, Try.ntmps41
    go_wp2
    go_ret2
    exact ⟨rfl, Below.refl _ _⟩
  obtain ⟨ad, rfl, c0⟩ := bts_byte hb (k := 0) (by omega)
  obtain ⟨ad', hA, c1⟩ := bts_byte hb (k := 1) (by omega)
  injection hA with hA; subst hA
  rw [add_zero'] at c0
  replace c1 : w.cell? ⟨ad.block, ad.off + 1, none⟩ = _ := c1
  have d0 : ∀ k, (w.drewN k).cell? ad = _ := fun k => c0
  have d1 : ∀ k, (w.drewN k).cell? ⟨ad.block, ad.off + 1, none⟩ = _ := fun k => c1
  have hlen : ¬ l.length < 4 := by rw [hb.len]; exact h4
  have x1 := byteN_lt l 0
  have y1 := byteN_lt l 1
  have a31 := and31 _ x1
  have hE := rightE.eq_1 l
  rw [if_neg hlen] at hE
  have hM : manyR l = byteN l 0 % 32 := rfl
  have hLo : longR l = sizeR (byteN l 1) (manyR l) := rfl
  generalize byteN l 0 = x at *
  generalize byteN l 1 = y at *
  have hn0 : 0 < n := by omega
  have hn1 : 1 < n := by omega
  have hn1' : (1 : Int) < n := by omega
  clear hb hlen
  by_cases hx : x / 32 = 4
  case neg =>
    rw [if_pos hx] at hE
    have e2 : rightN l = 0 := by unfold rightN; rw [hE]; rfl
    rw [hE, e2]
    have hx' : ((x : Int) / 32 != 4) = true := by simp; omega
    clear hE e2 hM hLo a31
    go_enter Try.func41, Try.ntmps41
    go_wp2
    go_ret2
    exact ⟨rfl, Below.refl _ _⟩
  have hx' : ((x : Int) / 32 != 4) = false := by simp; omega
  rw [if_neg (by omega)] at hE
  cases hk : knownB (y : Int)
  · rw [if_pos hk] at hE
    have e2 : rightN l = 0 := by unfold rightN; rw [hE]; rfl
    rw [hE, e2]
    clear hE e2 hM hLo a31
    go_enter Try.func41, Try.ntmps41
    go_wp2_with (go_at_call 34; (with_reducible refine (known_any _ _).mono ?_); rintro e w1 ⟨rfl, rfl⟩; rw [hk])
    go_ret2
    exact ⟨rfl, Below.refl _ _⟩
  rw [if_neg (by rw [hk]; simp)] at hE
  have hm31 : manyR l ≤ 31 := by omega
  rw [← hM] at a31
  have HM := Lib.hid hM
  have HE := Lib.hid hE
  have HLo := Lib.hid hLo
  clear hM hE hLo
  generalize manyR l = m at *
  go_enter Try.func41, Try.ntmps41
  go_wp2_with (first
    | (go_at_call 34; (with_reducible refine (known_any _ _).mono ?_); rintro e w1 ⟨rfl, rfl⟩; rw [hk])
    | (go_at_call 57; (with_reducible refine (get_same2 (some ad) n c l 2 2 2 2 rfl rfl _ HB.out (by omega) (by omega)).mono ?_); rintro e w1 ⟨rfl, rfl⟩))
  go_quiet ((go_at_call 36; with_reducible exact Calls.quiet_of_same (size_same _ _ _ (by omega))))
  have hz := getN_ltS l 2 2
  have hzz : getN l 2 2 < 65536 := hz
  have hL : sizeR y m ≤ 772 := by unfold sizeR; split <;> omega
  have HZ : Hid (∀ z L, getN l 2 2 = z → sizeR y m = L → rightE l = if m > 15 ∨ (z + 1) * 4 ≠ L then 1 else if l.length < L then 2 else 0) := by
    rintro z L rfl rfl
    rw [HE.out, HLo.out]
  have HR : Hid (∀ L, sizeR y m = L → rightN l = if rightE l = 0 then L else 0) := by
    rintro L rfl
    rw [rightN, HLo.out]
  generalize hgz : getN l ((2 : Nat) : Int) ((2 : Nat) : Int) = z at *
  generalize hgL : sizeR y m = L at *
  have HZ' := HZ.out z L rfl rfl
  have HR' := HR.out L rfl
  rw [HL.out] at HZ'
  clear hz HZ HR HE HLo hgz hgL
  by_cases hm : 15 < m
  · have e1 : rightE l = 1 := by rw [HZ', if_pos (.inl hm)]
    have e2 : rightN l = 0 := by rw [HR', e1]; rfl
    have HG : Hid (rightE l = 1 ∧ rightN l = 0) := ⟨e1, e2⟩
    clear HZ' HR' e1 e2
    go_wp2
    go_ret2
    exact ⟨by rw [HG.out.1, HG.out.2]; rfl, below_drewN (Below.refl _ _) _⟩
  by_cases hw : (z + 1) * 4 = L
  · have hq : (((z : Int) + 1) * 4 != L) = false := by simp; omega
    by_cases hs : n < L
    · have e1 : rightE l = 2 := by rw [HZ', if_neg (by omega), if_pos hs]
      have e2 : rightN l = 0 := by rw [HR', e1]; rfl
      have HG : Hid (rightE l = 2 ∧ rightN l = 0) := ⟨e1, e2⟩
      clear HZ' HR' e1 e2 hw
      go_wp2
      go_ret2
      exact ⟨by rw [HG.out.1, HG.out.2]; rfl, below_drewN (Below.refl _ _) _⟩
    · have e1 : rightE l = 0 := by rw [HZ', if_neg (by omega), if_neg hs]
      have e2 : rightN l = L := by rw [HR', e1]; rfl
      have HG : Hid (rightE l = 0 ∧ rightN l = L) := ⟨e1, e2⟩
      clear HZ' HR' e1 e2 hw
      go_wp2
      go_ret2
      exact ⟨by rw [HG.out.1, HG.out.2]; rfl, below_drewN (Below.refl _ _) _⟩
  · have hq : (((z : Int) + 1) * 4 != L) = true := by simp; omega
    have e1 : rightE l = 1 := by rw [HZ', if_pos (.inr hw)]
    have e2 : rightN l = 0 := by rw [HR', e1]; rfl
    have HG : Hid (rightE l = 1 ∧ rightN l = 0) := ⟨e1, e2⟩
    clear HZ' HR' e1 e2 hw
    go_wp2
    go_ret2
    exact ⟨by rw [HG.out.1, HG.out.2]; rfl, below_drewN (Below.refl _ _) _⟩
end Go.Proofs.Ytnkclbaeamcplaa
