/-
What set, Seq, Time and Ssrc of package patch do to bytes of the call's own.
-/
import Derived.Test.YtaomdinddccpeaaPatN
import Derived.Test.YtaomdinddccpeaaPkt
import Derived.Test.YtaomdinddccpeaaRtp8
namespace Go.Proofs.Ytaomdinddccpeaa
set_option linter.unusedVariables false
set_option linter.unusedSimpArgs false
open Go Go.RowKit

theorem offsetP_v (A : Option Addr) (n c : Nat) (l : List UInt8) (F T Z : Int) (w : World) (h : Bts w A n c l) (hF : F = (lookF l : Nat)) (hT : T = (lookT l : Nat)) (hZ : Z = (lookE l : Nat)) :
    Calls Try.prog 28 #[.slice A n c] w fun e w' => e = .returned (.tuple #[.int .i64 F, .int .i64 T, .int .i64 Z]) ∧ Below w.heap.size w w' := by
  subst hF hT hZ
  exact offset_any A n c l w h
/-- A number of the head. -/
def setL (l : List UInt8) (a s z : Nat) : List UInt8 := if lookE l = 0 then putL l a s z else l
theorem below_grown {w w' : World} (h : Below w.heap.size w w') (row : Option Nat) : w.grownBy w' row := ⟨h.os, h.tape, h.output, h.size, fun k hk _ => h.block k hk⟩
theorem own_bts {w : World} {base : Nat} {A : Option Addr} {n c : Nat} {l : List UInt8} (h : w.ownsRow base 5 1 (.slice A n c) n (bys l)) : Bts w A n c l := by
  have hc := own_cap h
  exact ⟨by have := h.1; rw [bys_length] at this; omega, hc.1, hc.2, Rd.own h⟩
set_option maxRecDepth 20000 in
set_option maxHeartbeats 1000000 in
theorem set_any (base : Nat) (A : Option Addr) (n c : Nat) (l : List UInt8) (a s z : Nat) (AI SI : Int) (hA : AI = (a : Nat)) (hS : SI = (s : Nat)) (ha : 2 ≤ a ∧ a + s ≤ 12 ∧ 1 ≤ s ∧ s ≤ 8) (hz : z < 256 ^ s) (w : World) (ho : w.ownsRow base 5 1 (.slice A n c) n (bys l)) :
    Calls Try.prog 45 #[.slice A n c, .int .i64 AI, .int .i64 SI, .int .u64 z] w fun e w' => e = .returned (.bool (decide (lookE l = 0))) ∧
      w'.ownsRow base 5 1 (.slice A n c) n (bys (setL l a s z)) ∧ w.grownBy w' (A.map Addr.block) := by
  subst hA hS
  have HO := Lib.hid ho
  have hz64 : (z : Int) ≤ 18446744073709551615 := by
    have := pow_le_8 (s : Int) (by omega)
    rw [Int.toNat_natCast] at this
    omega
  clear ho
  by_cases he : lookE l = 0
  · have hd : decide (lookE l = 0) = true := decide_eq_true he
    have hl12 : l.length ≥ 12 := (look_ok he).2.1
    have hpb : putB l a s z = true := by
      unfold putB
      rw [Bool.and_eq_true, withinB_iff, fitsB_iff]
      exact ⟨by omega, by omega, by omega, by rw [Int.toNat_natCast]; exact hz⟩
    have HP := Lib.hid hpb
    have HZ : Hid ((0 : Int) = (lookE l : Nat)) := by show _ = _; rw [he]; rfl
    have HS : Hid (setL l a s z = putL l a s z) := by show _ = _; unfold setL; rw [if_pos he]
    rw [hd]
    clear he hd hpb hl12
    go_enter Try.func45, Try.ntmps45
    go_wp2_with (first
      | (go_at_call 28; (with_reducible refine (offsetP_v A n c l _ _ 0 _ (own_bts HO.out) rfl rfl HZ.out).mono ?_); rintro e w1 ⟨rfl, hb1⟩; have HO1 := Lib.hid (HO.out.kept (own_below hb1) (own_none _)))
      | (go_at_call 41; (with_reducible refine (put_any base A n c l _ _ _ _ (own_bts HO1.out).len (own_cap HO1.out).1 (own_cap HO1.out).2 HO1.out (by omega) (by omega) (by omega) hz64).mono ?_); rintro e w2 ⟨rfl, ho2, hg2, hs2⟩; rw [Int.toNat_natCast] at ho2 ⊢; rw [HP.out]))
    go_ret
    exact ⟨rfl, by rw [HS.out]; exact ho2, (below_grown hb1 _).trans hg2⟩
  · have hd : decide (lookE l = 0) = false := decide_eq_false he
    obtain ⟨y, hy⟩ : ∃ y, lookE l = y := ⟨_, rfl⟩
    have HZ : Hid ((y : Int) = (lookE l : Nat)) := by show _ = _; rw [hy]
    have HS : Hid (setL l a s z = l) := by show _ = _; unfold setL; rw [if_neg he]
    rw [hd]
    rw [hy] at he
    have hy0 : ((y : Int) == 0) = false := by simp; omega
    clear he hd hy
    go_enter Try.func45, Try.ntmps45
    go_wp2_with (go_at_call 28; (with_reducible refine (offsetP_v A n c l _ _ (y : Int) _ (own_bts HO.out) rfl rfl HZ.out).mono ?_); rintro e w1 ⟨rfl, hb1⟩; have HO1 := Lib.hid (HO.out.kept (own_below hb1) (own_none _)))
    go_ret
    exact ⟨rfl, by rw [HS.out]; exact HO1.out, below_grown hb1 _⟩
set_option maxHeartbeats 1000000 in
theorem seqP_any (base : Nat) (A : Option Addr) (n c : Nat) (l : List UInt8) (z : Nat) (hz : z < 65536) (w : World) (ho : w.ownsRow base 5 1 (.slice A n c) n (bys l)) :
    Calls Try.prog 23 #[.slice A n c, .int .u16 z] w fun e w' => e = .returned (.bool (decide (lookE l = 0))) ∧
      w'.ownsRow base 5 1 (.slice A n c) n (bys (setL l 2 2 z)) ∧ w.grownBy w' (A.map Addr.block) := by
  have HO := Lib.hid ho
  clear ho
  go_enter Try.func23, Try.ntmps23
  go_wp2_with (go_at_call 45; (with_reducible refine (set_any base A n c l 2 2 z 2 2 rfl rfl (by omega) (by omega) _ HO.out).mono ?_); rintro e w1 ⟨rfl, ho1, hg1⟩)
  go_ret
  exact ⟨rfl, ho1, hg1⟩
set_option maxHeartbeats 1000000 in
theorem timeP_any (base : Nat) (A : Option Addr) (n c : Nat) (l : List UInt8) (z : Nat) (hz : z < 4294967296) (w : World) (ho : w.ownsRow base 5 1 (.slice A n c) n (bys l)) :
    Calls Try.prog 24 #[.slice A n c, .int .u32 z] w fun e w' => e = .returned (.bool (decide (lookE l = 0))) ∧
      w'.ownsRow base 5 1 (.slice A n c) n (bys (setL l 4 4 z)) ∧ w.grownBy w' (A.map Addr.block) := by
  have HO := Lib.hid ho
  clear ho
  go_enter Try.func24, Try.ntmps24
  go_wp2_with (go_at_call 45; (with_reducible refine (set_any base A n c l 4 4 z 4 4 rfl rfl (by omega) (by omega) _ HO.out).mono ?_); rintro e w1 ⟨rfl, ho1, hg1⟩)
  go_ret
  exact ⟨rfl, ho1, hg1⟩
set_option maxHeartbeats 1000000 in
theorem ssrcP_any (base : Nat) (A : Option Addr) (n c : Nat) (l : List UInt8) (z : Nat) (hz : z < 4294967296) (w : World) (ho : w.ownsRow base 5 1 (.slice A n c) n (bys l)) :
    Calls Try.prog 25 #[.slice A n c, .int .u32 z] w fun e w' => e = .returned (.bool (decide (lookE l = 0))) ∧
      w'.ownsRow base 5 1 (.slice A n c) n (bys (setL l 8 4 z)) ∧ w.grownBy w' (A.map Addr.block) := by
  have HO := Lib.hid ho
  clear ho
  go_enter Try.func25, Try.ntmps25
  go_wp2_with (go_at_call 45; (with_reducible refine (set_any base A n c l 8 4 z 8 4 rfl rfl (by omega) (by omega) _ HO.out).mono ?_); rintro e w1 ⟨rfl, ho1, hg1⟩)
  go_ret
  exact ⟨rfl, ho1, hg1⟩
end Go.Proofs.Ytaomdinddccpeaa
