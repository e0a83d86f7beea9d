/-
What set, Seq, Time and Ssrc of package patch do to bytes of the call's own.
What described of package patch tells.
What Frame of package patch does to bytes of the call's own.
-/
import Derived.Test.YtknlkmencdlpcaaPatN
import Derived.Test.YtknlkmencdlpcaaPkt
import Derived.Test.YtknlkmencdlpcaaRtp7
import Derived.Test.YtknlkmencdlpcaaDesc
import Derived.Test.YtknlkmencdlpcaaCells
import Derived.Test.YtknlkmencdlpcaaReg
namespace Go.Proofs.Ytknlkmencdlpcaa
set_option linter.unusedVariables false
set_option linter.unusedSimpArgs false
open Go Go.RowKit

theorem offsetP_v (A : Option Addr) (n c : Nat) (l : List UInt8) (F T Z : Int) (w : World) (h : Bts w A n c l) (hF : F = (lookF l : Nat)) (hT : T = (lookT l : Nat)) (hZ : Z = (lookE l : Nat)) :
    Calls Try.prog 121 #[.slice A n c] w fun e w' => e = .returned (.tuple #[.int .i64 F, .int .i64 T, .int .i64 Z]) ∧ Below w.heap.size w w' := by
  subst hF hT hZ
  exact offset_any A n c l w h
/-- A number of the head. -/
def setL (l : List UInt8) (a s z : Nat) : List UInt8 := if lookE l = 0 then putL l a s z else l
theorem below_grownP {w w' : World} (h : Below w.heap.size w w') (row : Option Nat) : w.grownBy w' row := ⟨h.os, h.tape, h.output, h.size, fun k hk _ => h.block k hk⟩
theorem own_bts {w : World} {base : Nat} {A : Option Addr} {n c : Nat} {l : List UInt8} (h : w.ownsRow base 5 1 (.slice A n c) n (bys l)) : Bts w A n c l := by
  have hc := own_cap h
  exact ⟨by have := h.1; rw [bys_length] at this; omega, hc.1, hc.2, Rd.own h⟩
set_option maxRecDepth 20000 in
set_option maxHeartbeats 1000000 in
theorem set_any (base : Nat) (A : Option Addr) (n c : Nat) (l : List UInt8) (a s z : Nat) (AI SI : Int) (hA : AI = (a : Nat)) (hS : SI = (s : Nat)) (ha : 2 ≤ a ∧ a + s ≤ 12 ∧ 1 ≤ s ∧ s ≤ 8) (hz : z < 256 ^ s) (w : World) (ho : w.ownsRow base 5 1 (.slice A n c) n (bys l)) :
    Calls Try.prog 84 #[.slice A n c, .int .i64 AI, .int .i64 SI, .int .u64 z] w fun e w' => e = .returned (.bool (decide (lookE l = 0))) ∧
      w'.ownsRow base 5 1 (.slice A n c) n (bys (setL l a s z)) ∧ w.grownBy w' (A.map Addr.block) := by
  subst hA hS
  have HO := Lib.hid ho
  have hz64 : (z : Int) ≤ 18446744073709551615 := by
    have := pow_le_8 (s : Int) (by omega)
    rw [Int.toNat_natCast] at this
    omega
  clear ho
  by_cases he : lookE l = 0
  · have hd : decide (lookE l = 0) = true := decide_eq_true he
    have hl12 : l.length ≥ 12 := (look_ok he).2.1
    have hpb : putB l a s z = true := by
      unfold putB
      rw [Bool.and_eq_true, withinB_iff, fitsB_iff]
      exact ⟨by omega, by omega, by omega, by rw [Int.toNat_natCast]; exact hz⟩
    have HP := Lib.hid hpb
    have HZ : Hid ((0 : Int) = (lookE l : Nat)) := by show _ = _; rw [he]; rfl
    have HS : Hid (setL l a s z = putL l a s z) := by show _ = _; unfold setL; rw [if_pos he]
    rw [hd]
    clear he hd hpb hl12
    go_enter Try.func84, Try.ntmps84
    go_wp2_with (first
      | (go_at_call 121; (with_reducible refine (offsetP_v A n c l _ _ 0 _ (own_bts HO.out) rfl rfl HZ.out).mono ?_); rintro e w1 ⟨rfl, hb1⟩; have HO1 := Lib.hid (HO.out.kept (own_below hb1) (own_none _)))
      | (go_at_call 79; (with_reducible refine (put_any base A n c l _ _ _ _ (own_bts HO1.out).len (own_cap HO1.out).1 (own_cap HO1.out).2 HO1.out (by omega) (by omega) (by omega) hz64).mono ?_); rintro e w2 ⟨rfl, ho2, hg2, hs2⟩; rw [Int.toNat_natCast] at ho2 ⊢; rw [HP.out]))
    go_ret
    exact ⟨rfl, by rw [HS.out]; exact ho2, (below_grownP hb1 _).trans hg2⟩
  · have hd : decide (lookE l = 0) = false := decide_eq_false he
    obtain ⟨y, hy⟩ : ∃ y, lookE l = y := ⟨_, rfl⟩
    have HZ : Hid ((y : Int) = (lookE l : Nat)) := by show _ = _; rw [hy]
    have HS : Hid (setL l a s z = l) := by show _ = _; unfold setL; rw [if_neg he]
    rw [hd]
    rw [hy] at he
    have hy0 : ((y : Int) == 0) = false := by simp; omega
    clear he hd hy
    go_enter Try.func84, Try.ntmps84
    go_wp2_with (go_at_call 121; (with_reducible refine (offsetP_v A n c l _ _ (y : Int) _ (own_bts HO.out) rfl rfl HZ.out).mono ?_); rintro e w1 ⟨rfl, hb1⟩; have HO1 := Lib.hid (HO.out.kept (own_below hb1) (own_none _)))
    go_ret
    exact ⟨rfl, by rw [HS.out]; exact HO1.out, below_grownP hb1 _⟩
set_option maxHeartbeats 1000000 in
theorem seqP_any (base : Nat) (A : Option Addr) (n c : Nat) (l : List UInt8) (z : Nat) (hz : z < 65536) (w : World) (ho : w.ownsRow base 5 1 (.slice A n c) n (bys l)) :
    Calls Try.prog 23 #[.slice A n c, .int .u16 z] w fun e w' => e = .returned (.bool (decide (lookE l = 0))) ∧
      w'.ownsRow base 5 1 (.slice A n c) n (bys (setL l 2 2 z)) ∧ w.grownBy w' (A.map Addr.block) := by
  have HO := Lib.hid ho
  clear ho
  go_enter Try.func23, Try.ntmps23
  go_wp2_with (go_at_call 84; (with_reducible refine (set_any base A n c l 2 2 z 2 2 rfl rfl (by omega) (by omega) _ HO.out).mono ?_); rintro e w1 ⟨rfl, ho1, hg1⟩)
  go_ret
  exact ⟨rfl, ho1, hg1⟩
set_option maxHeartbeats 1000000 in
theorem timeP_any (base : Nat) (A : Option Addr) (n c : Nat) (l : List UInt8) (z : Nat) (hz : z < 4294967296) (w : World) (ho : w.ownsRow base 5 1 (.slice A n c) n (bys l)) :
    Calls Try.prog 24 #[.slice A n c, .int .u32 z] w fun e w' => e = .returned (.bool (decide (lookE l = 0))) ∧
      w'.ownsRow base 5 1 (.slice A n c) n (bys (setL l 4 4 z)) ∧ w.grownBy w' (A.map Addr.block) := by
  have HO := Lib.hid ho
  clear ho
  go_enter Try.func24, Try.ntmps24
  go_wp2_with (go_at_call 84; (with_reducible refine (set_any base A n c l 4 4 z 4 4 rfl rfl (by omega) (by omega) _ HO.out).mono ?_); rintro e w1 ⟨rfl, ho1, hg1⟩)
  go_ret
  exact ⟨rfl, ho1, hg1⟩
set_option maxHeartbeats 1000000 in
theorem ssrcP_any (base : Nat) (A : Option Addr) (n c : Nat) (l : List UInt8) (z : Nat) (hz : z < 4294967296) (w : World) (ho : w.ownsRow base 5 1 (.slice A n c) n (bys l)) :
    Calls Try.prog 25 #[.slice A n c, .int .u32 z] w fun e w' => e = .returned (.bool (decide (lookE l = 0))) ∧
      w'.ownsRow base 5 1 (.slice A n c) n (bys (setL l 8 4 z)) ∧ w.grownBy w' (A.map Addr.block) := by
  have HO := Lib.hid ho
  clear ho
  go_enter Try.func25, Try.ntmps25
  go_wp2_with (go_at_call 84; (with_reducible refine (set_any base A n c l 8 4 z 8 4 rfl rfl (by omega) (by omega) _ HO.out).mono ?_); rintro e w1 ⟨rfl, ho1, hg1⟩)
  go_ret
  exact ⟨rfl, ho1, hg1⟩
end Go.Proofs.Ytknlkmencdlpcaa

namespace Go.Proofs.Ytknlkmencdlpcaa
set_option linter.unusedVariables false
set_option linter.unusedSimpArgs false
open Go Go.RowKit

def plD (l : List UInt8) : List UInt8 := if lookE l = 0 then plG l else []
def okD (l : List UInt8) : Bool := decide (lookE l = 0) && dOk (plG l)
theorem dget_w (A : Option Addr) (n c : Nat) (l : List UInt8) (w : World) (h : Bts w A n c l) :
    Calls Try.prog 74 #[.slice A n c] w fun e w' => e = .returned (.tuple #[.agg #[.int .i64 (dL l), .bool (dK l), .bool (dS l), .int .u16 (dF l)], .int .i64 (dE l)]) ∧ Below w.heap.size w w' :=
  dget_any A n c l w h.len h.nc h.cm h.rd
theorem four_set {w : World} {g : Nat} {t : TypeId} {a0 a1 a2 a3 : Value} (h : w.heap[g]? = some (.cells #[a0, a1, a2, a3] t (0, 0))) : w.cell? ⟨g, 0, none⟩ = some a0 ∧ w.cell? ⟨g, 1, none⟩ = some a1 ∧ w.cell? ⟨g, 2, none⟩ = some a2 ∧ w.cell? ⟨g, 3, none⟩ = some a3 := by
  refine ⟨?_, ?_, ?_, ?_⟩ <;> (rw [cell_of_row _ _ _ _ _ _ h]; rfl)
set_option maxRecDepth 20000 in
set_option maxHeartbeats 2000000 in
theorem described_any (A : Option Addr) (n c : Nat) (l : List UInt8) (w : World) (h : Bts w A n c l) :
    Calls Try.prog 78 #[.slice A n c] w fun e w' => e = .returned (.tuple #[.int .i64 (lookF l : Nat), .agg #[.int .i64 (dL (plD l)), .bool (dK (plD l)), .bool (dS (plD l)), .int .u16 (dF (plD l))], .bool (okD l)]) ∧ Below w.heap.size w w' := by
  have HB := Lib.hid h
  have hnc := h.nc
  have hcm := h.cm
  have hln := h.len
  unfold maxLen at hcm
  by_cases he : lookE l = 0
  · obtain ⟨l5, l12, _, _, hfl, k, hk, hkl, hT⟩ := look_ok he
    rw [hln] at l5 l12 hfl hkl hT
    have hFx : lookF l = frmA l := by unfold lookF; rw [if_pos he]
    have HZ : Hid ((0 : Int) = (lookE l : Nat)) := by show _ = _; rw [he]; rfl
    have hpd : plD l = plG l := by unfold plD; rw [if_pos he]
    have hok : okD l = dOk (plG l) := by unfold okD; rw [decide_eq_true he]; rfl
    have hpg : plG l = (l.drop (lookF l)).take (lookT l - lookF l) := by unfold plG; rw [hFx]
    rw [hpd, hok]
    obtain ⟨q, hq⟩ : ∃ q, plG l = q := ⟨_, rfl⟩
    rw [hq] at hpg ⊢
    obtain ⟨F, hF⟩ : ∃ F, lookF l = F := ⟨_, rfl⟩
    obtain ⟨T, hTT⟩ : ∃ T, lookT l = T := ⟨_, rfl⟩
    rw [hF, hTT] at hpg
    rw [hTT] at hT
    rw [← hFx, hF] at hfl hkl
    rw [hF]
    have HF : Hid ((F : Int) = (lookF l : Nat)) := by show _ = _; rw [hF]
    have HT : Hid ((T : Int) = (lookT l : Nat)) := by show _ = _; rw [hTT]
    have hFT : F ≤ T := by omega
    have hTn : T ≤ n := by omega
    have hTc : T ≤ c := by omega
    have hFTI : (F : Int) ≤ (T : Int) := by omega
    have hTcI : (T : Int) ≤ (c : Int) := by omega
    have hql : q.length = T - F := by rw [hpg, List.length_take, List.length_drop]; omega
    obtain ⟨ad, rfl, _⟩ := bts_byte h (k := 0) (by omega)
    have HQ : Hid (∀ w', Below w.heap.size w w' → Rd w' (some (ad.add F)) (bys q)) := fun w' hb => by rw [hpg]; exact part_rd (HB.out.below hb) F (T - F) (by omega)
    obtain ⟨z, hz⟩ : ∃ z, dE q = z := ⟨_, rfl⟩
    have hdz : dOk q = (z == 0) := by unfold dOk; rw [hz]
    rw [hdz]
    have HDE := Lib.hid hz
    clear h he hq hF hTT hT hpd hok hk hkl hfl hpg hz hdz hFx
    by_cases hcF : c = F
    · have hTF : T = F := by omega
      subst hTF
      subst hcF
      have HL : Hid (q.length = 0) := by show _ = _; rw [hql, Nat.sub_self]
      have HQn : Hid (∀ w', Rd w' (some ad) (bys q)) := fun w' => by rw [List.eq_nil_of_length_eq_zero HL.out]; exact Rd.nil _ _
      clear hql
      go_enter Try.func78, Try.ntmps78
      go_wp2_with (first | (go_at_call 121; (with_reducible refine (offsetP_v (some ad) n c l (c : Int) (c : Int) 0 _ (HB.out.below ((Below.refl _ _).alloc (Nat.le_refl _) _)) HF.out HT.out HZ.out).mono ?_); rintro e w1 ⟨rfl, hb1⟩; have hb2 := ((Below.refl w.heap.size w).alloc (Nat.le_refl _) _).trans (hb1.mono (by simp)); have hit := blk_below (blk_alloc _ _) hb1) | (go_at_call 74; (with_reducible refine (dget_w (some ad) 0 0 q _ ⟨HL.out, by omega, by unfold maxLen; omega, HQn.out _⟩).mono ?_); rintro e w2 ⟨rfl, hb3⟩; rw [HDE.out]; have hb4 := hb2.trans (hb3.mono hb2.size); have hit2 := blk_below hit hb3))
      refine region_planA (calmB_sound _) (.check [0, 2, 4] 3 (.leaf [3, 1, 5, 6])) (by kernel_rfl) (by kernel_rfl) (by kernel_rfl) ?_
      have hnew := heap_alloc_new w2 (.cells #[.int .i64 (dL q), .bool (dK q), .bool (dS q), .int .u16 (dF q)] 109)
      have hbA := (Below.refl w2.heap.size w2).alloc (Nat.le_refl _) (.cells #[.int .i64 (dL q), .bool (dK q), .bool (dS q), .int .u16 (dF q)] 109)
      have HIT : Hid (((w2.alloc (.cells #[.int .i64 (dL q), .bool (dK q), .bool (dS q), .int .u16 (dF q)] 109)).drew).heap[w.heap.size]? = some (.cells #[.int .i64 0, .bool false, .bool false, .int .u16 0] 109 (0, 0))) := blk_below hit2 hbA.drew
      have HB5 := Lib.hid (hb4.alloc hb4.size (.cells #[.int .i64 (dL q), .bool (dK q), .bool (dS q), .int .u16 (dF q)] 109)).drew
      have hnew' : ((w2.alloc (.cells #[.int .i64 (dL q), .bool (dK q), .bool (dS q), .int .u16 (dF q)] 109)).drew).heap[w2.heap.size]? = some (.cells #[.int .i64 (dL q), .bool (dK q), .bool (dS q), .int .u16 (dF q)] 109 (0, 0)) := hnew
      generalize (w2.alloc (.cells #[.int .i64 (dL q), .bool (dK q), .bool (dS q), .int .u16 (dF q)] 109)).drew = w4 at *
      obtain ⟨x0, x1, x2, x3⟩ := four_set hnew'
      refine wpPlan_check fun P1 hP1 => ?_
      simp only [List.filterMap_cons, List.filterMap_nil, List.getElem?_toArray, List.getElem?_cons_succ, List.getElem?_cons_zero]
      change wpList _ _ _ [_, _, _] _ _
      go_wp2
      refine hP1 _ _ (by first | exact fun _ => .inl ⟨_, _, _, _, rfl, rfl⟩ | exact fun _ => ⟨_, _, rfl⟩) ?_
      refine wpPlan_leaf fun P2 hP2 => ?_
      simp only [List.filterMap_cons, List.filterMap_nil, List.getElem?_toArray, List.getElem?_cons_succ, List.getElem?_cons_zero]
      change wpList _ _ _ [_, _, _, _] _ _
      go_wp2_with ((refine wpList_store_blk rfl 109 (.tmp 3) (.tmp 27) rfl w.heap.size _ #[.int .i64 (dL q), .bool (dK q), .bool (dS q), .int .u16 (dF q)] _ rfl rfl HIT.out rfl (by kernel_rfl) (by simp [Value.oneCell']) ?_; intro w5 hi5 hg5; obtain ⟨r0, r1, r2, r3⟩ := four_set hi5))
      exact bodyPost_ret (v := .tuple #[.int .i64 c, .agg #[.int .i64 (dL q), .bool (dK q), .bool (dS q), .int .u16 (dF q)], .bool (z == 0)]) (by simp [results, Try.results78, go_sem, r0, r1, r2, r3]) rfl ⟨rfl, HB5.out.grown hg5 HB5.out.size (fun q hq => by injection hq with hq; omega)⟩
    · have HL := Lib.hid hql
      clear hql
      go_enter Try.func78, Try.ntmps78
      go_wp2_with (first | (go_at_call 121; (with_reducible refine (offsetP_v (some ad) n c l (F : Int) (T : Int) 0 _ (HB.out.below ((Below.refl _ _).alloc (Nat.le_refl _) _)) HF.out HT.out HZ.out).mono ?_); rintro e w1 ⟨rfl, hb1⟩; have hb2 := ((Below.refl w.heap.size w).alloc (Nat.le_refl _) _).trans (hb1.mono (by simp)); have hit := blk_below (blk_alloc _ _) hb1) | (go_at_call 74; (with_reducible refine (dget_w (some (ad.add F)) (T - F) (c - F) q _ ⟨HL.out, by omega, by unfold maxLen; omega, HQ.out _ hb2⟩).mono ?_); rintro e w2 ⟨rfl, hb3⟩; rw [HDE.out]; have hb4 := hb2.trans (hb3.mono hb2.size); have hit2 := blk_below hit hb3))
      refine region_planA (calmB_sound _) (.check [0, 2, 4] 3 (.leaf [3, 1, 5, 6])) (by kernel_rfl) (by kernel_rfl) (by kernel_rfl) ?_
      have hnew := heap_alloc_new w2 (.cells #[.int .i64 (dL q), .bool (dK q), .bool (dS q), .int .u16 (dF q)] 109)
      have hbA := (Below.refl w2.heap.size w2).alloc (Nat.le_refl _) (.cells #[.int .i64 (dL q), .bool (dK q), .bool (dS q), .int .u16 (dF q)] 109)
      have HIT : Hid (((w2.alloc (.cells #[.int .i64 (dL q), .bool (dK q), .bool (dS q), .int .u16 (dF q)] 109)).drew).heap[w.heap.size]? = some (.cells #[.int .i64 0, .bool false, .bool false, .int .u16 0] 109 (0, 0))) := blk_below hit2 hbA.drew
      have HB5 := Lib.hid (hb4.alloc hb4.size (.cells #[.int .i64 (dL q), .bool (dK q), .bool (dS q), .int .u16 (dF q)] 109)).drew
      have hnew' : ((w2.alloc (.cells #[.int .i64 (dL q), .bool (dK q), .bool (dS q), .int .u16 (dF q)] 109)).drew).heap[w2.heap.size]? = some (.cells #[.int .i64 (dL q), .bool (dK q), .bool (dS q), .int .u16 (dF q)] 109 (0, 0)) := hnew
      generalize (w2.alloc (.cells #[.int .i64 (dL q), .bool (dK q), .bool (dS q), .int .u16 (dF q)] 109)).drew = w4 at *
      obtain ⟨x0, x1, x2, x3⟩ := four_set hnew'
      refine wpPlan_check fun P1 hP1 => ?_
      simp only [List.filterMap_cons, List.filterMap_nil, List.getElem?_toArray, List.getElem?_cons_succ, List.getElem?_cons_zero]
      change wpList _ _ _ [_, _, _] _ _
      go_wp2
      refine hP1 _ _ (by first | exact fun _ => .inl ⟨_, _, _, _, rfl, rfl⟩ | exact fun _ => ⟨_, _, rfl⟩) ?_
      refine wpPlan_leaf fun P2 hP2 => ?_
      simp only [List.filterMap_cons, List.filterMap_nil, List.getElem?_toArray, List.getElem?_cons_succ, List.getElem?_cons_zero]
      change wpList _ _ _ [_, _, _, _] _ _
      go_wp2_with ((refine wpList_store_blk rfl 109 (.tmp 3) (.tmp 27) rfl w.heap.size _ #[.int .i64 (dL q), .bool (dK q), .bool (dS q), .int .u16 (dF q)] _ rfl rfl HIT.out rfl (by kernel_rfl) (by simp [Value.oneCell']) ?_; intro w5 hi5 hg5; obtain ⟨r0, r1, r2, r3⟩ := four_set hi5))
      exact bodyPost_ret (v := .tuple #[.int .i64 F, .agg #[.int .i64 (dL q), .bool (dK q), .bool (dS q), .int .u16 (dF q)], .bool (z == 0)]) (by simp [results, Try.results78, go_sem, r0, r1, r2, r3]) rfl ⟨rfl, HB5.out.grown hg5 HB5.out.size (fun q hq => by injection hq with hq; omega)⟩
  · obtain ⟨y, hy⟩ : ∃ y, lookE l = y := ⟨_, rfl⟩
    have HZ : Hid ((y : Int) = (lookE l : Nat)) := by show _ = _; rw [hy]
    have HV : Hid (lookF l = 0 ∧ plD l = [] ∧ okD l = false) := ⟨by unfold lookF; rw [if_neg he], by unfold plD; rw [if_neg he], by unfold okD; rw [decide_eq_false he]; rfl⟩
    rw [hy] at he
    have hy0 : ((y : Int) != 0) = true := by simp; omega
    clear h he hy
    go_enter Try.func78, Try.ntmps78
    go_wp2_with (first
      | (go_at_call 121; (with_reducible refine (offsetP_v A n c l _ _ (y : Int) _ (HB.out.below ((Below.refl _ _).alloc (Nat.le_refl _) _)) rfl rfl HZ.out).mono ?_); rintro e w1 ⟨rfl, hb1⟩; have hb2 := ((Below.refl w.heap.size w).alloc (Nat.le_refl _) _).trans (hb1.mono (by simp)); have hit := blk_below (blk_alloc _ _) hb1)
      | (refine wpList_store_blk rfl 109 (.tmp 3) (.tmp 17) rfl w.heap.size _ #[.int .i64 0, .bool false, .bool false, .int .u16 0] _ rfl rfl hit rfl (by kernel_rfl) (by simp [Value.oneCell']) ?_; intro w5 hi5 hg5; obtain ⟨r0, r1, r2, r3⟩ := four_set hi5))
    exact bodyPost_ret (v := .tuple #[.int .i64 0, .agg #[.int .i64 0, .bool false, .bool false, .int .u16 0], .bool false]) (by simp [results, Try.results78, go_sem, r0, r1, r2, r3]) rfl ⟨by rw [HV.out.1, HV.out.2.1, HV.out.2.2]; rfl, hb2.grown hg5 hb2.size (fun q hq => by injection hq with hq; omega)⟩
end Go.Proofs.Ytknlkmencdlpcaa

namespace Go.Proofs.Ytknlkmencdlpcaa
set_option linter.unusedVariables false
set_option linter.unusedSimpArgs false
open Go Go.RowKit

/-- A byte of the call's own row: read, and written. -/
theorem own_byteV {w : World} {base : Nat} {B : Option Addr} {n c : Nat} {l : List UInt8} (h : w.ownsRow base 5 1 (.slice B n c) n (bys l)) (i : Nat) (hi : i < n) (x : UInt8) (X : Int) (hX : X = x.toNat) : ∃ g, B = some ⟨g, 0, none⟩ ∧ base ≤ g ∧ w.cell? ⟨g, i, none⟩ = some (.int .u8 (byteN l i)) ∧ w.frozen? ⟨g, i, none⟩ = false ∧
    (w.setCell ⟨g, i, none⟩ (.int .u8 X)).ownsRow base 5 1 (.slice B n c) n (bys (l.set i x)) ∧ w.grownBy (w.setCell ⟨g, i, none⟩ (.int .u8 X)) (some g) := by
  subst hX
  obtain ⟨g, cap, hv, _⟩ := h.form (by omega)
  injection hv with hB
  subst hB
  have hl := h.1
  rw [bys_length] at hl
  have c0 := h.cellAt i (by omega)
  obtain ⟨ho, hg⟩ := h.stored i (.int .u8 x.toNat)
  refine ⟨g, rfl, own_from h g rfl, ?_, h.frozenAt i, ?_, hg⟩
  · rw [c0]
    unfold byteN
    rw [List.getElem?_eq_getElem (show i < l.length by omega), Option.getD_some]
    simp [bys, u8v, List.getElem?_eq_getElem (show i < l.length by omega)]
  · have e : bys (l.set i x) = (bys l).set i (.int .u8 x.toNat) := by simp [bys, u8v, List.map_set]
    rw [e]
    exact ho
theorem layer_bits : ∀ b : Nat, b < 256 → bits .andNot .u8 (b : Int) 3 = ((b / 4 * 4 : Nat) : Int) ∧ ∀ k : Nat, k ≤ 2 → bits .or .u8 ((b / 4 * 4 : Nat) : Int) (k : Int) = ((b / 4 * 4 + k : Nat) : Int) := by
  have h : (List.range 256).all (fun b => decide (bits .andNot .u8 (b : Int) 3 = ((b / 4 * 4 : Nat) : Int)) && (List.range 3).all fun k => decide (bits .or .u8 ((b / 4 * 4 : Nat) : Int) (k : Int) = ((b / 4 * 4 + k : Nat) : Int))) = true := by decide +kernel
  intro b hb
  have h1 := List.all_eq_true.1 h b (List.mem_range.2 hb)
  rw [Bool.and_eq_true] at h1
  exact ⟨of_decide_eq_true h1.1, fun k hk => of_decide_eq_true (List.all_eq_true.1 h1.2 k (List.mem_range.2 (by omega)))⟩
theorem okD_room {l : List UInt8} (h : okD l = true) : lookE l = 0 ∧ frmA l + 4 ≤ lookT l ∧ lookT l ≤ l.length ∧ dOk (plG l) = true := by
  unfold okD at h
  rw [Bool.and_eq_true, decide_eq_true_eq] at h
  obtain ⟨he, hd⟩ := h
  obtain ⟨l5, l12, _, _, hfl, k, hk, hkl, hT⟩ := look_ok he
  have h4 : 4 ≤ (plG l).length := by
    have h0 := hd
    unfold dOk dE at h0
    by_cases h4 : (plG l).length < 4
    · rw [if_pos h4] at h0; exact absurd h0 (by decide)
    · omega
  unfold plG at h4
  rw [List.length_take, List.length_drop] at h4
  exact ⟨he, by omega, by omega, hd⟩
theorem described_v (l : List UInt8) (F : Int) (b : Bool) (hF : F = (lookF l : Nat)) (hb : okD l = b) (A : Option Addr) (n c : Nat) (w : World) (h : Bts w A n c l) :
    Calls Try.prog 78 #[.slice A n c] w fun e w' => e = .returned (.tuple #[.int .i64 F, .agg #[.int .i64 (dL (plD l)), .bool (dK (plD l)), .bool (dS (plD l)), .int .u16 (dF (plD l))], .bool b]) ∧ Below w.heap.size w w' := by
  subst hF hb
  exact described_any A n c l w h
def frP (l : List UInt8) (k : Int) (f : Nat) : List UInt8 := if okD l && decide (0 ≤ k ∧ k ≤ 2) then frL l k.toNat f else l
set_option maxRecDepth 20000 in
set_option maxHeartbeats 2000000 in
theorem frameP_any (base : Nat) (A : Option Addr) (n c : Nat) (l : List UInt8) (k : Int) (f : Nat) (hf : f < 65536) (w : World) (ho : w.ownsRow base 5 1 (.slice A n c) n (bys l)) :
    Calls Try.prog 17 #[.slice A n c, .int .i64 k, .int .u16 f] w fun e w' => e = .returned (.bool (okD l && decide (0 ≤ k ∧ k ≤ 2))) ∧
      w'.ownsRow base 5 1 (.slice A n c) n (bys (frP l k f)) ∧ w.grownBy w' (A.map Addr.block) := by
  have HO := Lib.hid ho
  have hln := (own_bts ho).len
  have hcap := own_cap ho
  clear ho
  cases hok : okD l
  · have HK := Lib.hid hok
    have HR : Hid (frP l k f = l) := by show _ = _; unfold frP; rw [hok]; rfl
    clear hok
    go_enter Try.func17, Try.ntmps17
    go_wp2_with (go_at_call 78; (with_reducible refine (described_v l _ false rfl HK.out A n c _ (own_bts HO.out)).mono ?_); rintro e w1 ⟨rfl, hb1⟩; have HO1 := Lib.hid ((HO.out.kept (own_below hb1) (own_none _)).alloc (.cells #[.int .i64 (dL (plD l)), .bool (dK (plD l)), .bool (dS (plD l)), .int .u16 (dF (plD l))] 109)); have hb2 := hb1.alloc hb1.size (.cells #[.int .i64 (dL (plD l)), .bool (dK (plD l)), .bool (dS (plD l)), .int .u16 (dF (plD l))] 109))
    go_ret
    exact ⟨by simp, by rw [HR.out]; exact HO1.out, below_grownP hb2 _⟩
  · by_cases hk : 0 ≤ k ∧ k ≤ 2
    · have hcm := hcap.2
      unfold maxLen at hcm
      obtain ⟨kk, rfl⟩ : ∃ kk : Nat, k = (kk : Int) := ⟨k.toNat, by omega⟩
      obtain ⟨he, hroom, hT, hd⟩ := okD_room hok
      have hFx : lookF l = frmA l := by unfold lookF; rw [if_pos he]
      have HR : Hid (frP l (kk : Int) f = frL l kk f) := by show _ = _; unfold frP; rw [hok, decide_eq_true hk, Int.toNat_natCast]; rfl
      have hfl : ∀ F, frmA l = F → frL l kk f = putL (l.set F (UInt8.ofNat (byteN l F / 4 * 4 + kk))) ((F : Int) + 2) 2 f := fun F hF => by subst hF; rfl
      obtain ⟨F, hF⟩ : ∃ F, frmA l = F := ⟨_, rfl⟩
      have HFL := Lib.hid (hfl F hF)
      rw [decide_eq_true hk]
      rw [hF] at hroom hFx
      have HK := Lib.hid hok
      have HF : Hid ((F : Int) = (lookF l : Nat)) := by show _ = _; rw [hFx]
      have hFn : F + 4 ≤ n := by omega
      have hb256 : byteN l F < 256 := byteN_lt _ _
      obtain ⟨m, hm⟩ : ∃ m, byteN l F = m := ⟨_, rfl⟩
      rw [hm] at hb256
      obtain ⟨x1, x2⟩ := layer_bits m hb256
      have x3 := x2 kk (by omega)
      have HX : Hid ((UInt8.ofNat (m / 4 * 4 + kk)).toNat = m / 4 * 4 + kk) := by
        show _ = _
        rw [UInt8.toNat_ofNat']
        omega
      have HM := Lib.hid hm
      have hkk : kk ≤ 2 := by omega
      have hPB : putB (l.set F (UInt8.ofNat (m / 4 * 4 + kk))) ((F : Int) + 2) 2 f = true := by
        unfold putB
        rw [Bool.and_eq_true, withinB_iff, fitsB_iff, List.length_set]
        refine ⟨by omega, by omega, by omega, ?_⟩
        show f < 256 ^ 2
        omega
      have HPB := Lib.hid hPB
      have HB := Lib.hid x3
      have HA := Lib.hid x1
      clear hk hok he hroom hT hd hFx hfl hF hm x1 x2 x3 hPB
      go_enter Try.func17, Try.ntmps17
      go_wp2_with (first
        | (go_at_call 79; (rw [HA.out, HB.out]; (with_reducible refine (put_any base _ n c _ _ _ _ _ (own_bts y3).len (own_cap y3).1 (own_cap y3).2 y3 (by omega) (by omega) (by omega) (by omega)).mono ?_); rintro e w2 ⟨rfl, ho2, hg2, hs2⟩; rw [Int.toNat_natCast] at ho2 ⊢; rw [HPB.out]))
        | (go_at_call 78; (with_reducible refine (described_v l (F : Int) true HF.out HK.out A n c _ (own_bts HO.out)).mono ?_); rintro e w1 ⟨rfl, hb1⟩; have HO1 := Lib.hid ((HO.out.kept (own_below hb1) (own_none _)).alloc (.cells #[.int .i64 (dL (plD l)), .bool (dK (plD l)), .bool (dS (plD l)), .int .u16 (dF (plD l))] 109)); have hb2 := hb1.alloc hb1.size (.cells #[.int .i64 (dL (plD l)), .bool (dK (plD l)), .bool (dS (plD l)), .int .u16 (dF (plD l))] 109); obtain ⟨g, rfl, hgb, y1, y2, y3, y4⟩ := own_byteV HO1.out F (by omega) (UInt8.ofNat (m / 4 * 4 + kk)) ((m / 4 * 4 + kk : Nat) : Int) (by rw [HX.out]); rw [HM.out] at y1))
      go_ret
      exact ⟨by simp, by rw [HR.out, HFL.out, HM.out]; exact ho2, ((below_grownP hb2 _).trans y4).trans hg2⟩
    · have HK := Lib.hid hok
      have HR : Hid (frP l k f = l) := by show _ = _; unfold frP; rw [hok, decide_eq_false hk]; rfl
      rw [decide_eq_false hk]
      clear hok
      by_cases hk0 : k < 0
      · clear hk
        go_enter Try.func17, Try.ntmps17
        go_wp2_with (go_at_call 78; (with_reducible refine (described_v l _ true rfl HK.out A n c _ (own_bts HO.out)).mono ?_); rintro e w1 ⟨rfl, hb1⟩; have HO1 := Lib.hid ((HO.out.kept (own_below hb1) (own_none _)).alloc (.cells #[.int .i64 (dL (plD l)), .bool (dK (plD l)), .bool (dS (plD l)), .int .u16 (dF (plD l))] 109)); have hb2 := hb1.alloc hb1.size (.cells #[.int .i64 (dL (plD l)), .bool (dK (plD l)), .bool (dS (plD l)), .int .u16 (dF (plD l))] 109))
        go_ret
        exact ⟨by simp, by rw [HR.out]; exact HO1.out, below_grownP hb2 _⟩
      · have hk3 : 3 ≤ k := by omega
        clear hk
        go_enter Try.func17, Try.ntmps17
        go_wp2_with (go_at_call 78; (with_reducible refine (described_v l _ true rfl HK.out A n c _ (own_bts HO.out)).mono ?_); rintro e w1 ⟨rfl, hb1⟩; have HO1 := Lib.hid ((HO.out.kept (own_below hb1) (own_none _)).alloc (.cells #[.int .i64 (dL (plD l)), .bool (dK (plD l)), .bool (dS (plD l)), .int .u16 (dF (plD l))] 109)); have hb2 := hb1.alloc hb1.size (.cells #[.int .i64 (dL (plD l)), .bool (dK (plD l)), .bool (dS (plD l)), .int .u16 (dF (plD l))] 109))
        go_ret
        exact ⟨by simp, by rw [HR.out]; exact HO1.out, below_grownP hb2 _⟩
end Go.Proofs.Ytknlkmencdlpcaa
