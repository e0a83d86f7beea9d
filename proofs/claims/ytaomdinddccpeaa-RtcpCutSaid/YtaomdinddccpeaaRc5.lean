/-
What package rtcp reads of bytes: an item, and how many bytes it takes.
-/
import Derived.Test.YtaomdinddccpeaaRc4
namespace Go.Proofs.Ytaomdinddccpeaa
set_option linter.unusedVariables false
set_option linter.unusedSimpArgs false
open Go Go.RowKit

/-- An item's three rows, each of its own. -/
structure SlO (w : World) (base : Nat) (q : Itm) (A : Option Addr) (k cA : Nat) (G : Option Addr) (gn gc : Nat) (P : Option Addr) (pn pc : Nat) : Prop where
  oa : w.ownsRow base 91 7 (.slice A k cA) k (rowK q.bl)
  og : w.ownsRow base 24 1 (.slice G gn gc) gn (u32s q.go)
  op : w.ownsRow base 111 2 (.slice P pn pc) pn (rowP q.pr)
def RcPost (l : List UInt8) (w : World) (e : Ending) (w' : World) : Prop := ∃ A k cA G gn gc P pn pc, e = .returned (.tuple #[.agg #[.int .i64 (getG l).k, .int .u32 (getG l).s, .int .u64 (getG l).ntp, .int .u32 (getG l).tm, .int .u32 (getG l).pk, .int .u32 (getG l).oc, .slice A k cA, .slice G gn gc, .int .u32 (getG l).me, .slice P pn pc], .int .i64 (gN l : Nat), .int .i64 (gE l : Nat)]) ∧
  Hid (SlO w' w.heap.size (getG l) A k cA G gn gc P pn pc) ∧ Below w.heap.size w w'
theorem slo_zero (w : World) (base : Nat) (k : Int) : SlO w base (bareI k) none 0 0 none 0 0 none 0 0 := ⟨World.ownsRow_nil _ _ _ _, World.ownsRow_nil _ _ _ _, World.ownsRow_nil _ _ _ _⟩
theorem rc_err {l : List UInt8} {w w' : World} (Z : Int) (hZ : Z = (gE l : Nat)) (hne : gE l ≠ 0) (hb : Below w.heap.size w w') : RcPost l w (.returned (.tuple #[.agg #[.int .i64 0, .int .u32 0, .int .u64 0, .int .u32 0, .int .u32 0, .int .u32 0, .slice none 0 0, .slice none 0 0, .int .u32 0, .slice none 0 0], .int .i64 0, .int .i64 Z])) w' := by
  subst hZ
  have h1 : getG l = bareI 0 := by unfold getG; rw [if_pos hne]
  have h2 : gN l = 0 := by unfold gN; rw [if_neg hne]
  refine ⟨none, 0, 0, none, 0, 0, none, 0, 0, ?_, ?_, hb⟩
  · rw [h1, h2]; rfl
  · rw [h1]; exact slo_zero _ _ _
set_option maxRecDepth 20000 in
set_option maxHeartbeats 4000000 in
theorem kind_200 (A : Option Addr) (n c : Nat) (l : List UInt8) (w : World) (h : Bts w A n c l) (h4 : 4 ≤ l.length) (hk : byteN l 1 = 200) :
    Calls Try.prog 78 #[.slice A n c] w fun e w' => e = .returned (.tuple #[.int .i64 200, .bool true]) ∧ Below w.heap.size w w' := by
  have hn := h.len
  obtain ⟨ad, rfl, hc0⟩ := bts_byte h (k := 0) (by omega)
  obtain ⟨ad', hA, hc1⟩ := bts_byte h (k := 1) (by omega)
  injection hA with hA; subst hA
  rw [add_zero'] at hc0
  replace hc1 : w.cell? ⟨ad.block, ad.off + 1, none⟩ = _ := hc1
  have n0 : 0 < n := by omega
  have n1 : 1 < n := by omega
  have n1' : (1 : Int) < n := by omega
  rw [hk] at hc1
  clear h hk h4 hn hc0
  go_enter Try.func78, Try.ntmps78
  go_wp2
  go_ret2
  exact ⟨rfl, Below.refl _ _⟩
set_option maxRecDepth 20000 in
set_option maxHeartbeats 4000000 in
theorem kind_201 (A : Option Addr) (n c : Nat) (l : List UInt8) (w : World) (h : Bts w A n c l) (h4 : 4 ≤ l.length) (hk : byteN l 1 = 201) :
    Calls Try.prog 78 #[.slice A n c] w fun e w' => e = .returned (.tuple #[.int .i64 201, .bool true]) ∧ Below w.heap.size w w' := by
  have hn := h.len
  obtain ⟨ad, rfl, hc0⟩ := bts_byte h (k := 0) (by omega)
  obtain ⟨ad', hA, hc1⟩ := bts_byte h (k := 1) (by omega)
  injection hA with hA; subst hA
  rw [add_zero'] at hc0
  replace hc1 : w.cell? ⟨ad.block, ad.off + 1, none⟩ = _ := hc1
  have n0 : 0 < n := by omega
  have n1 : 1 < n := by omega
  have n1' : (1 : Int) < n := by omega
  rw [hk] at hc1
  clear h hk h4 hn hc0
  go_enter Try.func78, Try.ntmps78
  go_wp2
  go_ret2
  exact ⟨rfl, Below.refl _ _⟩
set_option maxRecDepth 20000 in
set_option maxHeartbeats 4000000 in
theorem kind_203 (A : Option Addr) (n c : Nat) (l : List UInt8) (w : World) (h : Bts w A n c l) (h4 : 4 ≤ l.length) (hk : byteN l 1 = 203) :
    Calls Try.prog 78 #[.slice A n c] w fun e w' => e = .returned (.tuple #[.int .i64 203, .bool true]) ∧ Below w.heap.size w w' := by
  have hn := h.len
  obtain ⟨ad, rfl, hc0⟩ := bts_byte h (k := 0) (by omega)
  obtain ⟨ad', hA, hc1⟩ := bts_byte h (k := 1) (by omega)
  injection hA with hA; subst hA
  rw [add_zero'] at hc0
  replace hc1 : w.cell? ⟨ad.block, ad.off + 1, none⟩ = _ := hc1
  have n0 : 0 < n := by omega
  have n1 : 1 < n := by omega
  have n1' : (1 : Int) < n := by omega
  rw [hk] at hc1
  clear h hk h4 hn hc0
  go_enter Try.func78, Try.ntmps78
  go_wp2
  go_ret2
  exact ⟨rfl, Below.refl _ _⟩
set_option maxRecDepth 20000 in
set_option maxHeartbeats 4000000 in
theorem kind_205y (A : Option Addr) (n c : Nat) (l : List UInt8) (w : World) (h : Bts w A n c l) (h4 : 4 ≤ l.length) (hk : byteN l 1 = 205) (hm : byteN l 0 % 32 = 1) :
    Calls Try.prog 78 #[.slice A n c] w fun e w' => e = .returned (.tuple #[.int .i64 205, .bool true]) ∧ Below w.heap.size w w' := by
  have hn := h.len
  obtain ⟨ad, rfl, hc0⟩ := bts_byte h (k := 0) (by omega)
  obtain ⟨ad', hA, hc1⟩ := bts_byte h (k := 1) (by omega)
  injection hA with hA; subst hA
  rw [add_zero'] at hc0
  replace hc1 : w.cell? ⟨ad.block, ad.off + 1, none⟩ = _ := hc1
  have n0 : 0 < n := by omega
  have n1 : 1 < n := by omega
  have n1' : (1 : Int) < n := by omega
  rw [hk] at hc1
  have x1 := byteN_lt l 0
  have a31 := and31 _ x1
  have hmm : ((((byteN l 0 % 32 : Nat)) : Int) == 1) = true := by simp; omega
  generalize byteN l 0 % 32 = m at *
  generalize byteN l 0 = x at *
  have d0 : ∀ j, (w.drewN j).cell? ad = _ := fun j => hc0
  clear h hk h4 hn hm
  go_enter Try.func78, Try.ntmps78
  go_wp2
  go_quiet (fail)
  go_wp2
  go_ret2
  exact ⟨rfl, below_drewN (Below.refl _ _) _⟩
set_option maxRecDepth 20000 in
set_option maxHeartbeats 4000000 in
theorem kind_205n (A : Option Addr) (n c : Nat) (l : List UInt8) (w : World) (h : Bts w A n c l) (h4 : 4 ≤ l.length) (hk : byteN l 1 = 205) (hm : byteN l 0 % 32 ≠ 1) :
    Calls Try.prog 78 #[.slice A n c] w fun e w' => e = .returned (.tuple #[.int .i64 205, .bool false]) ∧ Below w.heap.size w w' := by
  have hn := h.len
  obtain ⟨ad, rfl, hc0⟩ := bts_byte h (k := 0) (by omega)
  obtain ⟨ad', hA, hc1⟩ := bts_byte h (k := 1) (by omega)
  injection hA with hA; subst hA
  rw [add_zero'] at hc0
  replace hc1 : w.cell? ⟨ad.block, ad.off + 1, none⟩ = _ := hc1
  have n0 : 0 < n := by omega
  have n1 : 1 < n := by omega
  have n1' : (1 : Int) < n := by omega
  rw [hk] at hc1
  have x1 := byteN_lt l 0
  have a31 := and31 _ x1
  have hmm : ((((byteN l 0 % 32 : Nat)) : Int) == 1) = false := by simp; omega
  generalize byteN l 0 % 32 = m at *
  generalize byteN l 0 = x at *
  have d0 : ∀ j, (w.drewN j).cell? ad = _ := fun j => hc0
  clear h hk h4 hn hm
  go_enter Try.func78, Try.ntmps78
  go_wp2
  go_quiet (fail)
  go_wp2
  go_ret2
  exact ⟨rfl, below_drewN (Below.refl _ _) _⟩
set_option maxRecDepth 20000 in
set_option maxHeartbeats 4000000 in
theorem kind_206y (A : Option Addr) (n c : Nat) (l : List UInt8) (w : World) (h : Bts w A n c l) (h4 : 4 ≤ l.length) (hk : byteN l 1 = 206) (hm : byteN l 0 % 32 = 1) :
    Calls Try.prog 78 #[.slice A n c] w fun e w' => e = .returned (.tuple #[.int .i64 206, .bool true]) ∧ Below w.heap.size w w' := by
  have hn := h.len
  obtain ⟨ad, rfl, hc0⟩ := bts_byte h (k := 0) (by omega)
  obtain ⟨ad', hA, hc1⟩ := bts_byte h (k := 1) (by omega)
  injection hA with hA; subst hA
  rw [add_zero'] at hc0
  replace hc1 : w.cell? ⟨ad.block, ad.off + 1, none⟩ = _ := hc1
  have n0 : 0 < n := by omega
  have n1 : 1 < n := by omega
  have n1' : (1 : Int) < n := by omega
  rw [hk] at hc1
  have x1 := byteN_lt l 0
  have a31 := and31 _ x1
  have hmm : ((((byteN l 0 % 32 : Nat)) : Int) == 1) = true := by simp; omega
  generalize byteN l 0 % 32 = m at *
  generalize byteN l 0 = x at *
  have d0 : ∀ j, (w.drewN j).cell? ad = _ := fun j => hc0
  clear h hk h4 hn hm
  go_enter Try.func78, Try.ntmps78
  go_wp2
  go_quiet (fail)
  go_wp2
  go_ret2
  exact ⟨rfl, below_drewN (Below.refl _ _) _⟩
set_option maxRecDepth 20000 in
set_option maxHeartbeats 4000000 in
theorem kind_206n (A : Option Addr) (n c : Nat) (l : List UInt8) (w : World) (h : Bts w A n c l) (h4 : 4 ≤ l.length) (hk : byteN l 1 = 206) (hm : byteN l 0 % 32 ≠ 1) :
    Calls Try.prog 78 #[.slice A n c] w fun e w' => e = .returned (.tuple #[.int .i64 206, .bool false]) ∧ Below w.heap.size w w' := by
  have hn := h.len
  obtain ⟨ad, rfl, hc0⟩ := bts_byte h (k := 0) (by omega)
  obtain ⟨ad', hA, hc1⟩ := bts_byte h (k := 1) (by omega)
  injection hA with hA; subst hA
  rw [add_zero'] at hc0
  replace hc1 : w.cell? ⟨ad.block, ad.off + 1, none⟩ = _ := hc1
  have n0 : 0 < n := by omega
  have n1 : 1 < n := by omega
  have n1' : (1 : Int) < n := by omega
  rw [hk] at hc1
  have x1 := byteN_lt l 0
  have a31 := and31 _ x1
  have hmm : ((((byteN l 0 % 32 : Nat)) : Int) == 1) = false := by simp; omega
  generalize byteN l 0 % 32 = m at *
  generalize byteN l 0 = x at *
  have d0 : ∀ j, (w.drewN j).cell? ad = _ := fun j => hc0
  clear h hk h4 hn hm
  go_enter Try.func78, Try.ntmps78
  go_wp2
  go_quiet (fail)
  go_wp2
  go_ret2
  exact ⟨rfl, below_drewN (Below.refl _ _) _⟩
set_option maxRecDepth 20000 in
set_option maxHeartbeats 4000000 in
theorem kind_no (A : Option Addr) (n c : Nat) (l : List UInt8) (w : World) (h : Bts w A n c l) (h4 : 4 ≤ l.length) (h0 : byteN l 1 ≠ 200) (h1 : byteN l 1 ≠ 201) (h2 : byteN l 1 ≠ 203) (h3 : byteN l 1 ≠ 205) (h5 : byteN l 1 ≠ 206) :
    Calls Try.prog 78 #[.slice A n c] w fun e w' => e = .returned (.tuple #[.int .i64 0, .bool false]) ∧ Below w.heap.size w w' := by
  have hn := h.len
  obtain ⟨ad, rfl, hc0⟩ := bts_byte h (k := 0) (by omega)
  obtain ⟨ad', hA, hc1⟩ := bts_byte h (k := 1) (by omega)
  injection hA with hA; subst hA
  rw [add_zero'] at hc0
  replace hc1 : w.cell? ⟨ad.block, ad.off + 1, none⟩ = _ := hc1
  have n0 : 0 < n := by omega
  have n1 : 1 < n := by omega
  have n1' : (1 : Int) < n := by omega
  have y1 := byteN_lt l 1
  generalize byteN l 1 = y at *
  have e0 : ((y : Int) == 200) = false := by simp; omega
  have e1 : ((y : Int) == 201) = false := by simp; omega
  have e2 : ((y : Int) == 203) = false := by simp; omega
  have e3 : ((y : Int) == 205) = false := by simp; omega
  have e4 : ((y : Int) == 206) = false := by simp; omega
  clear h h4 hn h0 h1 h2 h3 h5 hc0
  go_enter Try.func78, Try.ntmps78
  go_wp2
  go_ret2
  exact ⟨rfl, Below.refl _ _⟩
set_option maxRecDepth 20000 in
set_option maxHeartbeats 4000000 in
theorem length_203 (A : Option Addr) (n c : Nat) (l : List UInt8) (w : World) (h : Bts w A n c l) (h4 : 4 ≤ l.length) (b : Bool) (hb : decide (1 ≤ byteN l 0 % 32 ∧ byteN l 0 % 32 ≤ 15 ∧ getN l 2 2 = byteN l 0 % 32) = b) (N : Nat) (hN : gL l = N) :
    Calls Try.prog 80 #[.slice A n c, .int .i64 203] w fun e w' => e = .returned (.tuple #[.int .i64 N, .bool b]) ∧ w = w' := by
  have HB := Lib.hid h
  have hn := h.len
  obtain ⟨ad, rfl, hc0⟩ := bts_byte h (k := 0) (by omega)
  obtain ⟨ad', hA, hc1⟩ := bts_byte h (k := 1) (by omega)
  injection hA with hA; subst hA
  rw [add_zero'] at hc0
  replace hc1 : w.cell? ⟨ad.block, ad.off + 1, none⟩ = _ := hc1
  have n0 : 0 < n := by omega
  have n1 : 1 < n := by omega
  have n1' : (1 : Int) < n := by omega
  have x1 := byteN_lt l 0
  have a31 := and31 _ x1
  have hz : getN l 2 2 < 65536 := getN_ltS l 2 2
  unfold gL at hN
  obtain ⟨wd, hwd⟩ : ∃ x, getN l 2 2 = x := ⟨_, rfl⟩
  rw [hwd] at hb hN hz
  have HW := Lib.hid hwd
  have hm31 : byteN l 0 % 32 ≤ 31 := by omega
  generalize byteN l 0 % 32 = m at *
  generalize byteN l 0 = x at *
  have hNI : ((wd : Int) + 1) * 4 = (N : Int) := by omega
  have hN4 : 4 ≤ N ∧ N ≤ 262144 := by omega
  have GET : ∀ w1, Bts w1 (some ad) n c l → Calls Try.prog 66 #[.slice (some ad) n c, .int .i64 2, .int .i64 2] w1 fun e w' => e = .returned (.tuple #[.int .u64 wd, .bool (withinB n 2 2)]) ∧ w1 = w' := fun w1 h1 => by
    have := get_same2 (some ad) n c l 2 2 2 2 rfl rfl w1 h1 (by omega) (by omega)
    rw [show getN l ((2 : Nat) : Int) ((2 : Nat) : Int) = wd from HW.out] at this
    exact this.mono fun e w' ⟨a, b⟩ => ⟨a, b.symm⟩
  have HGET := Lib.hid GET
  clear h hwd h4 hn hc1 GET
  have HSZ : Hid (((4 + 4 * m : Nat) : Int) = (szK 203 m : Nat)) := by show _ = _; unfold szK; rw [if_pos rfl]
  have t1 : decide ((1 : Int) ≤ (m : Int)) = decide (1 ≤ m) := by simp; omega
  by_cases q1 : 1 ≤ m
  · by_cases q2 : m ≤ 15
    · have q2' : decide ((m : Int) ≤ 15) = true := by simp; omega
      have q1' : decide ((1 : Int) ≤ (m : Int)) = true := by simp; omega
      have hbb : b = ((N : Int) == (4 + 4 * m : Nat)) := by rw [← hb, Bool.eq_iff_iff]; simp; omega
      have HBB := Lib.hid hbb
      clear hbb hb t1 hN
      go_enter Try.func80, Try.ntmps80
      go_wp2_with (first
        | (go_at_call 66; ((with_reducible refine (HGET.out _ HB.out).mono ?_); rintro e w2 ⟨rfl, rfl⟩))
        | (go_at_call 74; ((with_reducible refine (rcsize_any 203 m _ ((4 + 4 * m : Nat) : Int) rfl HSZ.out _ (by omega)).mono ?_); rintro e w2 ⟨rfl, hw2⟩; replace hw2 := hw2.symm; subst hw2)))
      go_ret2
      exact ⟨by rw [HBB.out]; rfl, rfl⟩
    · have q2' : decide ((m : Int) ≤ 15) = false := by simp; omega
      have q1' : decide ((1 : Int) ≤ (m : Int)) = true := by simp; omega
      have hbb : b = false := by rw [← hb]; simp; omega
      subst hbb
      clear hb t1 hN q2
      go_enter Try.func80, Try.ntmps80
      go_wp2_with (go_at_call 66; ((with_reducible refine (HGET.out _ HB.out).mono ?_); rintro e w2 ⟨rfl, rfl⟩))
      go_ret2
      exact ⟨rfl, rfl⟩
  · have q1' : decide ((1 : Int) ≤ (m : Int)) = false := by simp; omega
    have hbb : b = false := by rw [← hb]; simp; omega
    subst hbb
    clear hb t1 hN q1
    go_enter Try.func80, Try.ntmps80
    go_wp2_with (go_at_call 66; ((with_reducible refine (HGET.out _ HB.out).mono ?_); rintro e w2 ⟨rfl, rfl⟩))
    go_ret2
    exact ⟨rfl, rfl⟩
set_option maxRecDepth 20000 in
set_option maxHeartbeats 4000000 in
theorem length_205 (A : Option Addr) (n c : Nat) (l : List UInt8) (w : World) (h : Bts w A n c l) (h4 : 4 ≤ l.length) (b : Bool) (hb : decide (3 ≤ getN l 2 2 ∧ getN l 2 2 ≤ 18) = b) (N : Nat) (hN : gL l = N) :
    Calls Try.prog 80 #[.slice A n c, .int .i64 205] w fun e w' => e = .returned (.tuple #[.int .i64 N, .bool b]) ∧ w = w' := by
  have HB := Lib.hid h
  have hn := h.len
  obtain ⟨ad, rfl, hc0⟩ := bts_byte h (k := 0) (by omega)
  obtain ⟨ad', hA, hc1⟩ := bts_byte h (k := 1) (by omega)
  injection hA with hA; subst hA
  rw [add_zero'] at hc0
  replace hc1 : w.cell? ⟨ad.block, ad.off + 1, none⟩ = _ := hc1
  have n0 : 0 < n := by omega
  have n1 : 1 < n := by omega
  have n1' : (1 : Int) < n := by omega
  have x1 := byteN_lt l 0
  have a31 := and31 _ x1
  have hz : getN l 2 2 < 65536 := getN_ltS l 2 2
  unfold gL at hN
  obtain ⟨wd, hwd⟩ : ∃ x, getN l 2 2 = x := ⟨_, rfl⟩
  rw [hwd] at hb hN hz
  have HW := Lib.hid hwd
  have hm31 : byteN l 0 % 32 ≤ 31 := by omega
  generalize byteN l 0 % 32 = m at *
  generalize byteN l 0 = x at *
  have hNI : ((wd : Int) + 1) * 4 = (N : Int) := by omega
  have hN4 : 4 ≤ N ∧ N ≤ 262144 := by omega
  have GET : ∀ w1, Bts w1 (some ad) n c l → Calls Try.prog 66 #[.slice (some ad) n c, .int .i64 2, .int .i64 2] w1 fun e w' => e = .returned (.tuple #[.int .u64 wd, .bool (withinB n 2 2)]) ∧ w1 = w' := fun w1 h1 => by
    have := get_same2 (some ad) n c l 2 2 2 2 rfl rfl w1 h1 (by omega) (by omega)
    rw [show getN l ((2 : Nat) : Int) ((2 : Nat) : Int) = wd from HW.out] at this
    exact this.mono fun e w' ⟨a, b⟩ => ⟨a, b.symm⟩
  have HGET := Lib.hid GET
  clear h hwd h4 hn hc1 GET
  by_cases q1 : 3 ≤ wd
  · have q1' : decide ((16 : Int) ≤ (N : Int)) = true := by simp; omega
    have hbb : b = decide ((N : Int) ≤ 76) := by rw [← hb, Bool.eq_iff_iff]; simp; omega
    have HBB := Lib.hid hbb
    clear hbb hb hN q1
    go_enter Try.func80, Try.ntmps80
    go_wp2_with (first
      | (go_at_call 66; ((with_reducible refine (HGET.out _ HB.out).mono ?_); rintro e w2 ⟨rfl, rfl⟩))
      | (go_at_call 74; ((with_reducible refine (rcsize_any 205 1 _ 16 (by omega) (by decide) _ (by omega)).mono ?_); rintro e w2 ⟨rfl, hw2⟩; replace hw2 := hw2.symm; subst hw2))
      | (go_at_call 74; ((with_reducible refine (rcsize_any 205 16 _ 76 (by omega) (by decide) _ (by omega)).mono ?_); rintro e w2 ⟨rfl, hw2⟩; replace hw2 := hw2.symm; subst hw2)))
    go_ret2
    exact ⟨by rw [HBB.out]; rfl, rfl⟩
  · have q1' : decide ((16 : Int) ≤ (N : Int)) = false := by simp; omega
    have hbb : b = false := by rw [← hb]; simp; omega
    subst hbb
    clear hb hN q1
    go_enter Try.func80, Try.ntmps80
    go_wp2_with (first
      | (go_at_call 66; ((with_reducible refine (HGET.out _ HB.out).mono ?_); rintro e w2 ⟨rfl, rfl⟩))
      | (go_at_call 74; ((with_reducible refine (rcsize_any 205 1 _ 16 (by omega) (by decide) _ (by omega)).mono ?_); rintro e w2 ⟨rfl, hw2⟩; replace hw2 := hw2.symm; subst hw2)))
    go_ret2
    exact ⟨rfl, rfl⟩
set_option maxRecDepth 20000 in
set_option maxHeartbeats 4000000 in
theorem length_206 (A : Option Addr) (n c : Nat) (l : List UInt8) (w : World) (h : Bts w A n c l) (h4 : 4 ≤ l.length) (b : Bool) (hb : decide (getN l 2 2 = 2) = b) (N : Nat) (hN : gL l = N) :
    Calls Try.prog 80 #[.slice A n c, .int .i64 206] w fun e w' => e = .returned (.tuple #[.int .i64 N, .bool b]) ∧ w = w' := by
  have HB := Lib.hid h
  have hn := h.len
  obtain ⟨ad, rfl, hc0⟩ := bts_byte h (k := 0) (by omega)
  obtain ⟨ad', hA, hc1⟩ := bts_byte h (k := 1) (by omega)
  injection hA with hA; subst hA
  rw [add_zero'] at hc0
  replace hc1 : w.cell? ⟨ad.block, ad.off + 1, none⟩ = _ := hc1
  have n0 : 0 < n := by omega
  have n1 : 1 < n := by omega
  have n1' : (1 : Int) < n := by omega
  have x1 := byteN_lt l 0
  have a31 := and31 _ x1
  have hz : getN l 2 2 < 65536 := getN_ltS l 2 2
  unfold gL at hN
  obtain ⟨wd, hwd⟩ : ∃ x, getN l 2 2 = x := ⟨_, rfl⟩
  rw [hwd] at hb hN hz
  have HW := Lib.hid hwd
  have hm31 : byteN l 0 % 32 ≤ 31 := by omega
  generalize byteN l 0 % 32 = m at *
  generalize byteN l 0 = x at *
  have hNI : ((wd : Int) + 1) * 4 = (N : Int) := by omega
  have hN4 : 4 ≤ N ∧ N ≤ 262144 := by omega
  have GET : ∀ w1, Bts w1 (some ad) n c l → Calls Try.prog 66 #[.slice (some ad) n c, .int .i64 2, .int .i64 2] w1 fun e w' => e = .returned (.tuple #[.int .u64 wd, .bool (withinB n 2 2)]) ∧ w1 = w' := fun w1 h1 => by
    have := get_same2 (some ad) n c l 2 2 2 2 rfl rfl w1 h1 (by omega) (by omega)
    rw [show getN l ((2 : Nat) : Int) ((2 : Nat) : Int) = wd from HW.out] at this
    exact this.mono fun e w' ⟨a, b⟩ => ⟨a, b.symm⟩
  have HGET := Lib.hid GET
  clear h hwd h4 hn hc1 GET
  have hbb : b = ((N : Int) == 12) := by rw [← hb, Bool.eq_iff_iff]; simp; omega
  have HBB := Lib.hid hbb
  clear hbb hb hN
  go_enter Try.func80, Try.ntmps80
  go_wp2_with (first
    | (go_at_call 66; ((with_reducible refine (HGET.out _ HB.out).mono ?_); rintro e w2 ⟨rfl, rfl⟩))
    | (go_at_call 74; ((with_reducible refine (rcsize_any 206 0 _ 12 (by omega) (by decide) _ (by omega)).mono ?_); rintro e w2 ⟨rfl, hw2⟩; replace hw2 := hw2.symm; subst hw2)))
  go_ret2
  exact ⟨by rw [HBB.out]; rfl, rfl⟩
end Go.Proofs.Ytaomdinddccpeaa
