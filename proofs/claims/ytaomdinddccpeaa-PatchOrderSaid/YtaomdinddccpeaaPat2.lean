/-
What described of package patch tells.
-/
import Derived.Test.YtaomdinddccpeaaPat1
import Derived.Test.YtaomdinddccpeaaDesc
import Derived.Test.YtaomdinddccpeaaCells
import Derived.Test.YtaomdinddccpeaaReg
namespace Go.Proofs.Ytaomdinddccpeaa
set_option linter.unusedVariables false
set_option linter.unusedSimpArgs false
open Go Go.RowKit

def plD (l : List UInt8) : List UInt8 := if lookE l = 0 then plG l else []
def okD (l : List UInt8) : Bool := decide (lookE l = 0) && dOk (plG l)
theorem dget_w (A : Option Addr) (n c : Nat) (l : List UInt8) (w : World) (h : Bts w A n c l) :
    Calls Try.prog 61 #[.slice A n c] w fun e w' => e = .returned (.tuple #[.agg #[.int .i64 (dL l), .bool (dK l), .bool (dS l), .int .u16 (dF l)], .int .i64 (dE l)]) ∧ Below w.heap.size w w' :=
  dget_any A n c l w h.len h.nc h.cm h.rd
theorem four_set {w : World} {g : Nat} {t : TypeId} {a0 a1 a2 a3 : Value} (h : w.heap[g]? = some (.cells #[a0, a1, a2, a3] t (0, 0))) : w.cell? ⟨g, 0, none⟩ = some a0 ∧ w.cell? ⟨g, 1, none⟩ = some a1 ∧ w.cell? ⟨g, 2, none⟩ = some a2 ∧ w.cell? ⟨g, 3, none⟩ = some a3 := by
  refine ⟨?_, ?_, ?_, ?_⟩ <;> (rw [cell_of_row _ _ _ _ _ _ h]; rfl)
set_option maxRecDepth 20000 in
set_option maxHeartbeats 2000000 in
theorem described_any (A : Option Addr) (n c : Nat) (l : List UInt8) (w : World) (h : Bts w A n c l) :
    Calls Try.prog 40 #[.slice A n c] w fun e w' => e = .returned (.tuple #[.int .i64 (lookF l : Nat), .agg #[.int .i64 (dL (plD l)), .bool (dK (plD l)), .bool (dS (plD l)), .int .u16 (dF (plD l))], .bool (okD l)]) ∧ Below w.heap.size w w' := by
  have HB := Lib.hid h
  have hnc := h.nc
  have hcm := h.cm
  have hln := h.len
  unfold maxLen at hcm
  by_cases he : lookE l = 0
  · obtain ⟨l5, l12, _, _, hfl, k, hk, hkl, hT⟩ := look_ok he
    rw [hln] at l5 l12 hfl hkl hT
    have hFx : lookF l = frmA l := by unfold lookF; rw [if_pos he]
    have HZ : Hid ((0 : Int) = (lookE l : Nat)) := by show _ = _; rw [he]; rfl
    have hpd : plD l = plG l := by unfold plD; rw [if_pos he]
    have hok : okD l = dOk (plG l) := by unfold okD; rw [decide_eq_true he]; rfl
    have hpg : plG l = (l.drop (lookF l)).take (lookT l - lookF l) := by unfold plG; rw [hFx]
    rw [hpd, hok]
    obtain ⟨q, hq⟩ : ∃ q, plG l = q := ⟨_, rfl⟩
    rw [hq] at hpg ⊢
    obtain ⟨F, hF⟩ : ∃ F, lookF l = F := ⟨_, rfl⟩
    obtain ⟨T, hTT⟩ : ∃ T, lookT l = T := ⟨_, rfl⟩
    rw [hF, hTT] at hpg
    rw [hTT] at hT
    rw [← hFx, hF] at hfl hkl
    rw [hF]
    have HF : Hid ((F : Int) = (lookF l : Nat)) := by show _ = _; rw [hF]
    have HT : Hid ((T : Int) = (lookT l : Nat)) := by show _ = _; rw [hTT]
    have hFT : F ≤ T := by omega
    have hTn : T ≤ n := by omega
    have hTc : T ≤ c := by omega
    have hFTI : (F : Int) ≤ (T : Int) := by omega
    have hTcI : (T : Int) ≤ (c : Int) := by omega
    have hql : q.length = T - F := by rw [hpg, List.length_take, List.length_drop]; omega
    obtain ⟨ad, rfl, _⟩ := bts_byte h (k := 0) (by omega)
    have HQ : Hid (∀ w', Below w.heap.size w w' → Rd w' (some (ad.add F)) (bys q)) := fun w' hb => by rw [hpg]; exact part_rd (HB.out.below hb) F (T - F) (by omega)
    obtain ⟨z, hz⟩ : ∃ z, dE q = z := ⟨_, rfl⟩
    have hdz : dOk q = (z == 0) := by unfold dOk; rw [hz]
    rw [hdz]
    have HDE := Lib.hid hz
    clear h he hq hF hTT hT hpd hok hk hkl hfl hpg hz hdz hFx
    by_cases hcF : c = F
    · have hTF : T = F := by omega
      subst hTF
      subst hcF
      have HL : Hid (q.length = 0) := by show _ = _; rw [hql, Nat.sub_self]
      have HQn : Hid (∀ w', Rd w' (some ad) (bys q)) := fun w' => by rw [List.eq_nil_of_length_eq_zero HL.out]; exact Rd.nil _ _
      clear hql
      go_enter Try.func40, Try.ntmps40
      go_wp2_with (first | (go_at_call 28; (with_reducible refine (offsetP_v (some ad) n c l (c : Int) (c : Int) 0 _ (HB.out.below ((Below.refl _ _).alloc (Nat.le_refl _) _)) HF.out HT.out HZ.out).mono ?_); rintro e w1 ⟨rfl, hb1⟩; have hb2 := ((Below.refl w.heap.size w).alloc (Nat.le_refl _) _).trans (hb1.mono (by simp)); have hit := blk_below (blk_alloc _ _) hb1) | (go_at_call 61; (with_reducible refine (dget_w (some ad) 0 0 q _ ⟨HL.out, by omega, by unfold maxLen; omega, HQn.out _⟩).mono ?_); rintro e w2 ⟨rfl, hb3⟩; rw [HDE.out]; have hb4 := hb2.trans (hb3.mono hb2.size); have hit2 := blk_below hit hb3))
      refine region_planA (calmB_sound _) (.check [0, 2, 4] 3 (.leaf [3, 1, 5, 6])) (by kernel_rfl) (by kernel_rfl) (by kernel_rfl) ?_
      have hnew := heap_alloc_new w2 (.cells #[.int .i64 (dL q), .bool (dK q), .bool (dS q), .int .u16 (dF q)] 52)
      have hbA := (Below.refl w2.heap.size w2).alloc (Nat.le_refl _) (.cells #[.int .i64 (dL q), .bool (dK q), .bool (dS q), .int .u16 (dF q)] 52)
      have HIT : Hid (((w2.alloc (.cells #[.int .i64 (dL q), .bool (dK q), .bool (dS q), .int .u16 (dF q)] 52)).drew).heap[w.heap.size]? = some (.cells #[.int .i64 0, .bool false, .bool false, .int .u16 0] 52 (0, 0))) := blk_below hit2 hbA.drew
      have HB5 := Lib.hid (hb4.alloc hb4.size (.cells #[.int .i64 (dL q), .bool (dK q), .bool (dS q), .int .u16 (dF q)] 52)).drew
      have hnew' : ((w2.alloc (.cells #[.int .i64 (dL q), .bool (dK q), .bool (dS q), .int .u16 (dF q)] 52)).drew).heap[w2.heap.size]? = some (.cells #[.int .i64 (dL q), .bool (dK q), .bool (dS q), .int .u16 (dF q)] 52 (0, 0)) := hnew
      generalize (w2.alloc (.cells #[.int .i64 (dL q), .bool (dK q), .bool (dS q), .int .u16 (dF q)] 52)).drew = w4 at *
      obtain ⟨x0, x1, x2, x3⟩ := four_set hnew'
      refine wpPlan_check fun P1 hP1 => ?_
      simp only [List.filterMap_cons, List.filterMap_nil, List.getElem?_toArray, List.getElem?_cons_succ, List.getElem?_cons_zero]
      change wpList _ _ _ [_, _, _] _ _
      go_wp2
      refine hP1 _ _ (by first | exact fun _ => .inl ⟨_, _, _, _, rfl, rfl⟩ | exact fun _ => ⟨_, _, rfl⟩) ?_
      refine wpPlan_leaf fun P2 hP2 => ?_
      simp only [List.filterMap_cons, List.filterMap_nil, List.getElem?_toArray, List.getElem?_cons_succ, List.getElem?_cons_zero]
      change wpList _ _ _ [_, _, _, _] _ _
      go_wp2_with ((refine wpList_store_blk rfl 52 (.tmp 3) (.tmp 27) rfl w.heap.size _ #[.int .i64 (dL q), .bool (dK q), .bool (dS q), .int .u16 (dF q)] _ rfl rfl HIT.out rfl (by kernel_rfl) (by simp [Value.oneCell']) ?_; intro w5 hi5 hg5; obtain ⟨r0, r1, r2, r3⟩ := four_set hi5))
      exact bodyPost_ret (v := .tuple #[.int .i64 c, .agg #[.int .i64 (dL q), .bool (dK q), .bool (dS q), .int .u16 (dF q)], .bool (z == 0)]) (by simp [results, Try.results40, go_sem, r0, r1, r2, r3]) rfl ⟨rfl, HB5.out.grown hg5 HB5.out.size (fun q hq => by injection hq with hq; omega)⟩
    · have HL := Lib.hid hql
      clear hql
      go_enter Try.func40, Try.ntmps40
      go_wp2_with (first | (go_at_call 28; (with_reducible refine (offsetP_v (some ad) n c l (F : Int) (T : Int) 0 _ (HB.out.below ((Below.refl _ _).alloc (Nat.le_refl _) _)) HF.out HT.out HZ.out).mono ?_); rintro e w1 ⟨rfl, hb1⟩; have hb2 := ((Below.refl w.heap.size w).alloc (Nat.le_refl _) _).trans (hb1.mono (by simp)); have hit := blk_below (blk_alloc _ _) hb1) | (go_at_call 61; (with_reducible refine (dget_w (some (ad.add F)) (T - F) (c - F) q _ ⟨HL.out, by omega, by unfold maxLen; omega, HQ.out _ hb2⟩).mono ?_); rintro e w2 ⟨rfl, hb3⟩; rw [HDE.out]; have hb4 := hb2.trans (hb3.mono hb2.size); have hit2 := blk_below hit hb3))
      refine region_planA (calmB_sound _) (.check [0, 2, 4] 3 (.leaf [3, 1, 5, 6])) (by kernel_rfl) (by kernel_rfl) (by kernel_rfl) ?_
      have hnew := heap_alloc_new w2 (.cells #[.int .i64 (dL q), .bool (dK q), .bool (dS q), .int .u16 (dF q)] 52)
      have hbA := (Below.refl w2.heap.size w2).alloc (Nat.le_refl _) (.cells #[.int .i64 (dL q), .bool (dK q), .bool (dS q), .int .u16 (dF q)] 52)
      have HIT : Hid (((w2.alloc (.cells #[.int .i64 (dL q), .bool (dK q), .bool (dS q), .int .u16 (dF q)] 52)).drew).heap[w.heap.size]? = some (.cells #[.int .i64 0, .bool false, .bool false, .int .u16 0] 52 (0, 0))) := blk_below hit2 hbA.drew
      have HB5 := Lib.hid (hb4.alloc hb4.size (.cells #[.int .i64 (dL q), .bool (dK q), .bool (dS q), .int .u16 (dF q)] 52)).drew
      have hnew' : ((w2.alloc (.cells #[.int .i64 (dL q), .bool (dK q), .bool (dS q), .int .u16 (dF q)] 52)).drew).heap[w2.heap.size]? = some (.cells #[.int .i64 (dL q), .bool (dK q), .bool (dS q), .int .u16 (dF q)] 52 (0, 0)) := hnew
      generalize (w2.alloc (.cells #[.int .i64 (dL q), .bool (dK q), .bool (dS q), .int .u16 (dF q)] 52)).drew = w4 at *
      obtain ⟨x0, x1, x2, x3⟩ := four_set hnew'
      refine wpPlan_check fun P1 hP1 => ?_
      simp only [List.filterMap_cons, List.filterMap_nil, List.getElem?_toArray, List.getElem?_cons_succ, List.getElem?_cons_zero]
      change wpList _ _ _ [_, _, _] _ _
      go_wp2
      refine hP1 _ _ (by first | exact fun _ => .inl ⟨_, _, _, _, rfl, rfl⟩ | exact fun _ => ⟨_, _, rfl⟩) ?_
      refine wpPlan_leaf fun P2 hP2 => ?_
      simp only [List.filterMap_cons, List.filterMap_nil, List.getElem?_toArray, List.getElem?_cons_succ, List.getElem?_cons_zero]
      change wpList _ _ _ [_, _, _, _] _ _
      go_wp2_with ((refine wpList_store_blk rfl 52 (.tmp 3) (.tmp 27) rfl w.heap.size _ #[.int .i64 (dL q), .bool (dK q), .bool (dS q), .int .u16 (dF q)] _ rfl rfl HIT.out rfl (by kernel_rfl) (by simp [Value.oneCell']) ?_; intro w5 hi5 hg5; obtain ⟨r0, r1, r2, r3⟩ := four_set hi5))
      exact bodyPost_ret (v := .tuple #[.int .i64 F, .agg #[.int .i64 (dL q), .bool (dK q), .bool (dS q), .int .u16 (dF q)], .bool (z == 0)]) (by simp [results, Try.results40, go_sem, r0, r1, r2, r3]) rfl ⟨rfl, HB5.out.grown hg5 HB5.out.size (fun q hq => by injection hq with hq; omega)⟩
  · obtain ⟨y, hy⟩ : ∃ y, lookE l = y := ⟨_, rfl⟩
    have HZ : Hid ((y : Int) = (lookE l : Nat)) := by show _ = _; rw [hy]
    have HV : Hid (lookF l = 0 ∧ plD l = [] ∧ okD l = false) := ⟨by unfold lookF; rw [if_neg he], by unfold plD; rw [if_neg he], by unfold okD; rw [decide_eq_false he]; rfl⟩
    rw [hy] at he
    have hy0 : ((y : Int) != 0) = true := by simp; omega
    clear h he hy
    go_enter Try.func40, Try.ntmps40
    go_wp2_with (first
      | (go_at_call 28; (with_reducible refine (offsetP_v A n c l _ _ (y : Int) _ (HB.out.below ((Below.refl _ _).alloc (Nat.le_refl _) _)) rfl rfl HZ.out).mono ?_); rintro e w1 ⟨rfl, hb1⟩; have hb2 := ((Below.refl w.heap.size w).alloc (Nat.le_refl _) _).trans (hb1.mono (by simp)); have hit := blk_below (blk_alloc _ _) hb1)
      | (refine wpList_store_blk rfl 52 (.tmp 3) (.tmp 17) rfl w.heap.size _ #[.int .i64 0, .bool false, .bool false, .int .u16 0] _ rfl rfl hit rfl (by kernel_rfl) (by simp [Value.oneCell']) ?_; intro w5 hi5 hg5; obtain ⟨r0, r1, r2, r3⟩ := four_set hi5))
    exact bodyPost_ret (v := .tuple #[.int .i64 0, .agg #[.int .i64 0, .bool false, .bool false, .int .u16 0], .bool false]) (by simp [results, Try.results40, go_sem, r0, r1, r2, r3]) rfl ⟨by rw [HV.out.1, HV.out.2.1, HV.out.2.2]; rfl, hb2.grown hg5 hb2.size (fun q hq => by injection hq with hq; omega)⟩
end Go.Proofs.Ytaomdinddccpeaa
