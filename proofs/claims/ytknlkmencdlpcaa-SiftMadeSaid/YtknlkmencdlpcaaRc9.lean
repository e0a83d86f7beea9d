/-
The item that bytes begin with, as the reference reads it.
-/
import Derived.Test.YtknlkmencdlpcaaRc8
import Derived.Test.YtknlkmencdlpcaaRc7
import Derived.Test.YtknlkmencdlpcaaFeed6
import Derived.Deep.QuietTactic
import Derived.BigQuiet
namespace Go.Proofs.Ytknlkmencdlpcaa
set_option linter.unusedVariables false
set_option linter.unusedSimpArgs false
open Go Go.RowKit

theorem ri_rc {l : List UInt8} {w w' : World} {e : Ending} (h : RIpost l w e w') (hE : gE l = rightE l) (hN : gN l = rightN l) (hG : getG l = getI l) : RcPost l w e w' := by
  obtain ⟨A, k, cA, rfl, ho, hb⟩ := h
  have hgo : (getI l).go = [] ∧ (getI l).pr = [] ∧ (getI l).me = 0 := by
    unfold getI
    by_cases he : rightE l ≠ 0
    · rw [if_pos he]; exact ⟨rfl, rfl, rfl⟩
    · rw [if_neg he]
      by_cases hk : byteN l 1 = 200
      · rw [if_pos hk]; exact ⟨rfl, rfl, rfl⟩
      · rw [if_neg hk]; exact ⟨rfl, rfl, rfl⟩
  refine ⟨A, k, cA, none, 0, 0, none, 0, 0, ?_, ⟨?_, ?_, ?_⟩, hb⟩
  · rw [hE, hN, hG, hgo.2.2]; rfl
  · rw [hG]; exact ho
  · rw [hG, hgo.1]; exact World.ownsRow_nil _ _ _ _
  · rw [hG, hgo.2.1]; exact World.ownsRow_nil _ _ _ _
theorem rep_same {l : List UInt8} (h : gE l = rightE l) (hk : gE l = 0 → knownB (byteN l 1 : Nat) = true) : gN l = rightN l ∧ getG l = getI l := by
  by_cases he : rightE l = 0
  · have hr := right_ok he
    have h0 : gE l = 0 := by rw [h, he]
    refine ⟨?_, ?_⟩
    · unfold rightN gN gL
      rw [if_pos h0, if_pos he, hr.2.2.2.2.2]
    · unfold getG
      rw [if_neg (by rw [h0]; simp), if_pos (hk h0)]
  · refine ⟨?_, ?_⟩
    · unfold rightN gN
      rw [if_neg (by rw [h]; exact he), if_neg he]
    · unfold getG getI
      rw [if_pos (by rw [h]; exact he), if_pos he]
set_option maxRecDepth 20000 in
set_option maxHeartbeats 4000000 in
theorem words_v (K : Int) (m : Nat) (M W : Int) (hM : M = m) (hW : (K = 203 ∧ W = m) ∨ (K = 205 ∧ W = 2 + m) ∨ (K = 206 ∧ W = 2)) (hm : m ≤ 100000) (w : World) :
    Calls Try.prog 138 #[.int .i64 K, .int .i64 M] w fun e w' => e = .returned (.int .i64 W) ∧ w = w' := by
  subst hM
  rcases hW with ⟨rfl, rfl⟩ | ⟨rfl, rfl⟩ | ⟨rfl, rfl⟩
  all_goals
    go_enter Try.func138, Try.ntmps138
    go_wp2
    go_ret
    exact ⟨rfl, rfl⟩
set_option maxRecDepth 20000 in
set_option maxHeartbeats 4000000 in
theorem rgi_kind (A : Option Addr) (n c : Nat) (l : List UInt8) (w : World) (h : Bts w A n c l) (h4 : 4 ≤ l.length) (hv : byteN l 0 / 32 = 4) (h0 : byteN l 1 ≠ 200) (h1 : byteN l 1 ≠ 201) (h2 : byteN l 1 ≠ 203) (h3 : byteN l 1 ≠ 205) (h5 : byteN l 1 ≠ 206) :
    Calls Try.prog 94 #[.slice A n c] w fun e w' => RcPost l w e w' := by
  have hn := h.len
  have HB := Lib.hid h
  have g : decide ((n : Int) < 4) = false := by simp; omega
  obtain ⟨ad, rfl, hc0⟩ := bts_byte h (k := 0) (by omega)
  obtain ⟨ad', hA, hc1⟩ := bts_byte h (k := 1) (by omega)
  injection hA with hA; subst hA
  obtain ⟨ad', hA, hc2⟩ := bts_byte h (k := 2) (by omega)
  injection hA with hA; subst hA
  obtain ⟨ad', hA, hc3⟩ := bts_byte h (k := 3) (by omega)
  injection hA with hA; subst hA
  rw [add_zero'] at hc0
  have n0 : 0 < n := by omega
  have n1 : 1 < n := by omega
  have n2 : 2 < n := by omega
  have n3 : 3 < n := by omega
  have n1' : (1 : Int) < n := by omega
  have n2' : (2 : Int) < n := by omega
  have n3' : (3 : Int) < n := by omega
  have hy0 := byteN_lt l 0
  have hy1 := byteN_lt l 1
  have hy2 := byteN_lt l 2
  have hy3 := byteN_lt l 3
  have gv : (((byteN l 0 : Nat) : Int) / 32 != 4) = false := by simp; omega
  obtain ⟨m, hm⟩ : ∃ m, byteN l 0 % 32 = m := ⟨_, rfl⟩
  have hmI : ((byteN l 0 : Nat) : Int) % 32 = (m : Int) := by rw [← hm]; omega
  have hm31 : m ≤ 31 := by omega
  obtain ⟨x2, hx2⟩ : ∃ x2, byteN l 2 = x2 := ⟨_, rfl⟩
  obtain ⟨x3, hx3⟩ : ∃ x3, byteN l 3 = x3 := ⟨_, rfl⟩
  rw [hx2] at hc2 hy2
  rw [hx3] at hc3 hy3
  obtain ⟨lg, hlg⟩ : ∃ lg, getN l 2 2 = lg := ⟨_, rfl⟩
  have hlx : lg = x2 * 256 + x3 := by rw [← hlg, ← hx2, ← hx3]; exact getN_two l h4
  have hlI : (x2 : Int) * 256 + (x3 : Int) = (lg : Int) := by omega
  have hl16 : lg < 65536 := by omega
  have HE : Hid (gE l = 4) := by
    show _ = _
    unfold gE
    rw [if_neg (by omega), if_neg (by omega), known_nat, if_neg (by simp; omega), if_neg h2, if_neg h3, if_neg h5]
  have q0 : (((byteN l 1 : Nat) : Int) == 200) = false := by simp; omega
  have q1 : (((byteN l 1 : Nat) : Int) == 201) = false := by simp; omega
  have q2 : (((byteN l 1 : Nat) : Int) == 203) = false := by simp; omega
  have q3 : (((byteN l 1 : Nat) : Int) == 205) = false := by simp; omega
  have q4 : (((byteN l 1 : Nat) : Int) == 206) = false := by simp; omega
  generalize byteN l 1 = y at *
  have HC0 := Lib.hid hc0
  have HC1 : Hid (w.cell? ⟨ad.block, ad.off + 1, none⟩ = _) := hc1
  have HC2 : Hid (w.cell? ⟨ad.block, ad.off + 2, none⟩ = some (.int .u8 x2)) := hc2
  have HC3 : Hid (w.cell? ⟨ad.block, ad.off + 3, none⟩ = some (.int .u8 x3)) := hc3
  have HLN := Lib.hid hn
  have HL4 := Lib.hid h4
  have HLG := Lib.hid hlg
  have d0 := below_cell (ri_start w).b HC0.out
  have d1 := below_cell (ri_start w).b HC1.out
  have e2 : (((w.alloc (.cells #[.int .i64 0, .int .u32 0, .int .u64 0, .int .u32 0, .int .u32 0, .int .u32 0, .slice none 0 0, .slice none 0 0, .int .u32 0, .slice none 0 0] 54)).alloc (.cells #[.int .i64 0, .int .u32 0, .int .u64 0, .int .u32 0, .int .u32 0, .int .u32 0, .slice none 0 0, .slice none 0 0, .int .u32 0, .slice none 0 0] 54)).drew).cell? ⟨ad.block, ad.off + 2, none⟩ = some (.int .u8 x2) := below_cell (ri_start w).b HC2.out
  have e3 : (((w.alloc (.cells #[.int .i64 0, .int .u32 0, .int .u64 0, .int .u32 0, .int .u32 0, .int .u32 0, .slice none 0 0, .slice none 0 0, .int .u32 0, .slice none 0 0] 54)).alloc (.cells #[.int .i64 0, .int .u32 0, .int .u64 0, .int .u32 0, .int .u32 0, .int .u32 0, .slice none 0 0, .slice none 0 0, .int .u32 0, .slice none 0 0] 54)).drew).cell? ⟨ad.block, ad.off + 3, none⟩ = some (.int .u8 x3) := below_cell (ri_start w).b HC3.out
  have f2 : ∀ j, (((w.alloc (.cells #[.int .i64 0, .int .u32 0, .int .u64 0, .int .u32 0, .int .u32 0, .int .u32 0, .slice none 0 0, .slice none 0 0, .int .u32 0, .slice none 0 0] 54)).alloc (.cells #[.int .i64 0, .int .u32 0, .int .u64 0, .int .u32 0, .int .u32 0, .int .u32 0, .slice none 0 0, .slice none 0 0, .int .u32 0, .slice none 0 0] 54)).drewN j).cell? ⟨ad.block, ad.off + 2, none⟩ = some (.int .u8 x2) := fun j => below_cell (ri_start w).b HC2.out
  have f3 : ∀ j, (((w.alloc (.cells #[.int .i64 0, .int .u32 0, .int .u64 0, .int .u32 0, .int .u32 0, .int .u32 0, .slice none 0 0, .slice none 0 0, .int .u32 0, .slice none 0 0] 54)).alloc (.cells #[.int .i64 0, .int .u32 0, .int .u64 0, .int .u32 0, .int .u32 0, .int .u32 0, .slice none 0 0, .slice none 0 0, .int .u32 0, .slice none 0 0] 54)).drewN j).cell? ⟨ad.block, ad.off + 3, none⟩ = some (.int .u8 x3) := fun j => below_cell (ri_start w).b HC3.out
  have HRS := Lib.hid (ri_start w)
  clear h h4 hn hv hc0 hc1 hc2 hc3 hm hlg hx2 hx3 hlx h0 h1 h2 h3 h5
  go_enter Try.func94, Try.ntmps94
  go_upto_region 8 with fail
  generalize ((w.alloc (.cells #[.int .i64 0, .int .u32 0, .int .u64 0, .int .u32 0, .int .u32 0, .int .u32 0, .slice none 0 0, .slice none 0 0, .int .u32 0, .slice none 0 0] 54)).alloc (.cells #[.int .i64 0, .int .u32 0, .int .u64 0, .int .u32 0, .int .u32 0, .int .u32 0, .slice none 0 0, .slice none 0 0, .int .u32 0, .slice none 0 0] 54)) = w2 at *
  clear d0 d1
  go_quiet (fail)
  have HRJ := Lib.hid (fun j => HRS.out.drewN j)
  clear e2 e3 f2 f3
  have z0 := fun j => (ten_cells (HRJ.out j).non).1
  have z1 := fun j => (ten_cells (HRJ.out j).non).2.1
  have z2 := fun j => (ten_cells (HRJ.out j).non).2.2.1
  have z3 := fun j => (ten_cells (HRJ.out j).non).2.2.2.1
  have z4 := fun j => (ten_cells (HRJ.out j).non).2.2.2.2.1
  have z5 := fun j => (ten_cells (HRJ.out j).non).2.2.2.2.2.1
  have z6 := fun j => (ten_cells (HRJ.out j).non).2.2.2.2.2.2.1
  have z7 := fun j => (ten_cells (HRJ.out j).non).2.2.2.2.2.2.2.1
  have z8 := fun j => (ten_cells (HRJ.out j).non).2.2.2.2.2.2.2.2.1
  have z9 := fun j => (ten_cells (HRJ.out j).non).2.2.2.2.2.2.2.2.2
  go_wp2_with (refine wpList_store_blk rfl 54 (.tmp 2) (.tmp 43) rfl w.heap.size _ #[.int .i64 0, .int .u32 0, .int .u64 0, .int .u32 0, .int .u32 0, .int .u32 0, .slice none 0 0, .slice none 0 0, .int .u32 0, .slice none 0 0] _ rfl rfl (HRJ.out _).res rfl (by kernel_rfl) (by simp [Value.oneCell']) ?_; intro w5 hi5 hg5; obtain ⟨r0, r1, r2, r3, r4, r5, r6, r7, r8, r9⟩ := ten_cells hi5)
  exact bodyPost_ret (v := .tuple #[.agg #[.int .i64 0, .int .u32 0, .int .u64 0, .int .u32 0, .int .u32 0, .int .u32 0, .slice none 0 0, .slice none 0 0, .int .u32 0, .slice none 0 0], .int .i64 0, .int .i64 4]) (by simp [results, Try.results94, go_sem, r0, r1, r2, r3, r4, r5, r6, r7, r8, r9]) rfl (rc_err 4 (by rw [HE.out]; rfl) (by rw [HE.out]; decide) ((HRJ.out _).b.grown hg5 (HRJ.out _).b.size (fun q hq => by injection hq with hq; omega)))
set_option maxRecDepth 20000 in
set_option maxHeartbeats 8000000 in
theorem rgi_203 (A : Option Addr) (n c : Nat) (l : List UInt8) (w : World) (h : Bts w A n c l) (h4 : 4 ≤ l.length) (hv : byteN l 0 / 32 = 4) (hk : byteN l 1 = 203) :
    Calls Try.prog 94 #[.slice A n c] w fun e w' => RcPost l w e w' := by
  have hn := h.len
  have HB := Lib.hid h
  have g : decide ((n : Int) < 4) = false := by simp; omega
  obtain ⟨ad, rfl, hc0⟩ := bts_byte h (k := 0) (by omega)
  obtain ⟨ad', hA, hc1⟩ := bts_byte h (k := 1) (by omega)
  injection hA with hA; subst hA
  obtain ⟨ad', hA, hc2⟩ := bts_byte h (k := 2) (by omega)
  injection hA with hA; subst hA
  obtain ⟨ad', hA, hc3⟩ := bts_byte h (k := 3) (by omega)
  injection hA with hA; subst hA
  rw [add_zero'] at hc0
  rw [hk] at hc1
  have n0 : 0 < n := by omega
  have n1 : 1 < n := by omega
  have n2 : 2 < n := by omega
  have n3 : 3 < n := by omega
  have n1' : (1 : Int) < n := by omega
  have n2' : (2 : Int) < n := by omega
  have n3' : (3 : Int) < n := by omega
  have hy0 := byteN_lt l 0
  have hy1 := byteN_lt l 1
  have hy2 := byteN_lt l 2
  have hy3 := byteN_lt l 3
  have gv : (((byteN l 0 : Nat) : Int) / 32 != 4) = false := by simp; omega
  obtain ⟨m, hm⟩ : ∃ m, byteN l 0 % 32 = m := ⟨_, rfl⟩
  have hmI : ((byteN l 0 : Nat) : Int) % 32 = (m : Int) := by rw [← hm]; omega
  have hm31 : m ≤ 31 := by omega
  obtain ⟨x2, hx2⟩ : ∃ x2, byteN l 2 = x2 := ⟨_, rfl⟩
  obtain ⟨x3, hx3⟩ : ∃ x3, byteN l 3 = x3 := ⟨_, rfl⟩
  rw [hx2] at hc2 hy2
  rw [hx3] at hc3 hy3
  obtain ⟨lg, hlg⟩ : ∃ lg, getN l 2 2 = lg := ⟨_, rfl⟩
  have hlx : lg = x2 * 256 + x3 := by rw [← hlg, ← hx2, ← hx3]; exact getN_two l h4
  have hlI : (x2 : Int) * 256 + (x3 : Int) = (lg : Int) := by omega
  have hl16 : lg < 65536 := by omega
  have hgE : gE l = if 1 ≤ m ∧ m ≤ 15 ∧ lg = m then (if n < (lg + 1) * 4 then 2 else 0) else 1 := by
    have hgl : gL l = (lg + 1) * 4 := by unfold gL; rw [hlg]
    unfold gE
    rw [if_neg (by omega), if_neg (by omega), known_nat, if_neg (by rw [hk]; decide), if_pos hk, hm, hlg, hn]
    simp only [hgl]
  have HGE := Lib.hid hgE
  have HM := Lib.hid (And.intro hm hk)
  have HC0 := Lib.hid hc0
  have HC1 : Hid (w.cell? ⟨ad.block, ad.off + 1, none⟩ = _) := hc1
  have HC2 : Hid (w.cell? ⟨ad.block, ad.off + 2, none⟩ = some (.int .u8 x2)) := hc2
  have HC3 : Hid (w.cell? ⟨ad.block, ad.off + 3, none⟩ = some (.int .u8 x3)) := hc3
  have HLN := Lib.hid hn
  have HL4 := Lib.hid h4
  have HLG := Lib.hid hlg
  have d0 := below_cell (ri_start w).b HC0.out
  have d1 := below_cell (ri_start w).b HC1.out
  have e2 : (((w.alloc (.cells #[.int .i64 0, .int .u32 0, .int .u64 0, .int .u32 0, .int .u32 0, .int .u32 0, .slice none 0 0, .slice none 0 0, .int .u32 0, .slice none 0 0] 54)).alloc (.cells #[.int .i64 0, .int .u32 0, .int .u64 0, .int .u32 0, .int .u32 0, .int .u32 0, .slice none 0 0, .slice none 0 0, .int .u32 0, .slice none 0 0] 54)).drew).cell? ⟨ad.block, ad.off + 2, none⟩ = some (.int .u8 x2) := below_cell (ri_start w).b HC2.out
  have e3 : (((w.alloc (.cells #[.int .i64 0, .int .u32 0, .int .u64 0, .int .u32 0, .int .u32 0, .int .u32 0, .slice none 0 0, .slice none 0 0, .int .u32 0, .slice none 0 0] 54)).alloc (.cells #[.int .i64 0, .int .u32 0, .int .u64 0, .int .u32 0, .int .u32 0, .int .u32 0, .slice none 0 0, .slice none 0 0, .int .u32 0, .slice none 0 0] 54)).drew).cell? ⟨ad.block, ad.off + 3, none⟩ = some (.int .u8 x3) := below_cell (ri_start w).b HC3.out
  have f2 : ∀ j, (((w.alloc (.cells #[.int .i64 0, .int .u32 0, .int .u64 0, .int .u32 0, .int .u32 0, .int .u32 0, .slice none 0 0, .slice none 0 0, .int .u32 0, .slice none 0 0] 54)).alloc (.cells #[.int .i64 0, .int .u32 0, .int .u64 0, .int .u32 0, .int .u32 0, .int .u32 0, .slice none 0 0, .slice none 0 0, .int .u32 0, .slice none 0 0] 54)).drewN j).cell? ⟨ad.block, ad.off + 2, none⟩ = some (.int .u8 x2) := fun j => below_cell (ri_start w).b HC2.out
  have f3 : ∀ j, (((w.alloc (.cells #[.int .i64 0, .int .u32 0, .int .u64 0, .int .u32 0, .int .u32 0, .int .u32 0, .slice none 0 0, .slice none 0 0, .int .u32 0, .slice none 0 0] 54)).alloc (.cells #[.int .i64 0, .int .u32 0, .int .u64 0, .int .u32 0, .int .u32 0, .int .u32 0, .slice none 0 0, .slice none 0 0, .int .u32 0, .slice none 0 0] 54)).drewN j).cell? ⟨ad.block, ad.off + 3, none⟩ = some (.int .u8 x3) := fun j => below_cell (ri_start w).b HC3.out
  have HRS := Lib.hid (ri_start w)
  clear h h4 hn hv hc0 hc1 hc2 hc3 hm hlg hx2 hx3 hlx hk hgE
  go_enter Try.func94, Try.ntmps94
  go_upto_region 8 with fail
  generalize ((w.alloc (.cells #[.int .i64 0, .int .u32 0, .int .u64 0, .int .u32 0, .int .u32 0, .int .u32 0, .slice none 0 0, .slice none 0 0, .int .u32 0, .slice none 0 0] 54)).alloc (.cells #[.int .i64 0, .int .u32 0, .int .u64 0, .int .u32 0, .int .u32 0, .int .u32 0, .slice none 0 0, .slice none 0 0, .int .u32 0, .slice none 0 0] 54)) = w2 at *
  clear d0 d1
  go_quiet (fail)
  have HRJ := Lib.hid (fun j => HRS.out.drewN j)
  clear e2 e3 f2 f3
  have z0 := fun j => (ten_cells (HRJ.out j).non).1
  have z1 := fun j => (ten_cells (HRJ.out j).non).2.1
  have z2 := fun j => (ten_cells (HRJ.out j).non).2.2.1
  have z3 := fun j => (ten_cells (HRJ.out j).non).2.2.2.1
  have z4 := fun j => (ten_cells (HRJ.out j).non).2.2.2.2.1
  have z5 := fun j => (ten_cells (HRJ.out j).non).2.2.2.2.2.1
  have z6 := fun j => (ten_cells (HRJ.out j).non).2.2.2.2.2.2.1
  have z7 := fun j => (ten_cells (HRJ.out j).non).2.2.2.2.2.2.2.1
  have z8 := fun j => (ten_cells (HRJ.out j).non).2.2.2.2.2.2.2.2.1
  have z9 := fun j => (ten_cells (HRJ.out j).non).2.2.2.2.2.2.2.2.2
  by_cases t1 : m < 1
  · have u1 : decide ((m : Int) < 1) = true := by simp; omega
    have HE : Hid (gE l = 1) := by show _ = _; rw [HGE.out, if_neg (by omega)]
    clear t1
    go_wp2_with (first
      | (refine wpList_store_blk rfl 54 (.tmp 2) (.tmp 74) rfl w.heap.size _ #[.int .i64 0, .int .u32 0, .int .u64 0, .int .u32 0, .int .u32 0, .int .u32 0, .slice none 0 0, .slice none 0 0, .int .u32 0, .slice none 0 0] _ rfl rfl (HRJ.out _).res rfl (by kernel_rfl) (by simp [Value.oneCell']) ?_; intro w5 hi5 hg5; obtain ⟨r0, r1, r2, r3, r4, r5, r6, r7, r8, r9⟩ := ten_cells hi5))
    exact bodyPost_ret (v := .tuple #[.agg #[.int .i64 0, .int .u32 0, .int .u64 0, .int .u32 0, .int .u32 0, .int .u32 0, .slice none 0 0, .slice none 0 0, .int .u32 0, .slice none 0 0], .int .i64 0, .int .i64 1]) (by simp [results, Try.results94, go_sem, r0, r1, r2, r3, r4, r5, r6, r7, r8, r9]) rfl (rc_err 1 (by rw [HE.out]; rfl) (by rw [HE.out]; decide) ((HRJ.out _).b.grown hg5 (HRJ.out _).b.size (fun q hq => by injection hq with hq; omega)))
  have u1 : decide ((m : Int) < 1) = false := by simp; omega
  by_cases t2 : 15 < m
  · have u2 : decide ((15 : Int) < (m : Int)) = true := by simp; omega
    have HE : Hid (gE l = 1) := by show _ = _; rw [HGE.out, if_neg (by omega)]
    clear t1 t2
    go_wp2_with (first
      | (refine wpList_store_blk rfl 54 (.tmp 2) (.tmp 74) rfl w.heap.size _ #[.int .i64 0, .int .u32 0, .int .u64 0, .int .u32 0, .int .u32 0, .int .u32 0, .slice none 0 0, .slice none 0 0, .int .u32 0, .slice none 0 0] _ rfl rfl (HRJ.out _).res rfl (by kernel_rfl) (by simp [Value.oneCell']) ?_; intro w5 hi5 hg5; obtain ⟨r0, r1, r2, r3, r4, r5, r6, r7, r8, r9⟩ := ten_cells hi5))
    exact bodyPost_ret (v := .tuple #[.agg #[.int .i64 0, .int .u32 0, .int .u64 0, .int .u32 0, .int .u32 0, .int .u32 0, .slice none 0 0, .slice none 0 0, .int .u32 0, .slice none 0 0], .int .i64 0, .int .i64 1]) (by simp [results, Try.results94, go_sem, r0, r1, r2, r3, r4, r5, r6, r7, r8, r9]) rfl (rc_err 1 (by rw [HE.out]; rfl) (by rw [HE.out]; decide) ((HRJ.out _).b.grown hg5 (HRJ.out _).b.size (fun q hq => by injection hq with hq; omega)))
  have u2 : decide ((15 : Int) < (m : Int)) = false := by simp; omega
  by_cases t3 : lg = m
  · have u3 : (lg != m) = false := by simp; omega
    have u3' : ((lg : Int) != (m : Int)) = false := by simp; omega
    obtain ⟨s4, hs4⟩ : ∃ s4, 4 * lg = s4 := ⟨_, rfl⟩
    obtain ⟨sz, hsz⟩ : ∃ sz, 4 + s4 = sz := ⟨_, rfl⟩
    have hs4I : (4 : Int) * (lg : Int) = (s4 : Int) := by omega
    have hszI : (4 : Int) + (s4 : Int) = (sz : Int) := by omega
    have hz9 : sz ≤ 1204 ∧ s4 ≤ 1200 := by omega
    have hszw : (lg + 1) * 4 = sz := by omega
    by_cases hns : n < sz
    · have HE : Hid (gE l = 2) := by show _ = _; rw [HGE.out, if_pos (by omega), if_pos (by omega)]
      have hns3 : decide ((n : Int) < (sz : Int)) = true := by simp; omega
      clear t1 t2 t3 hszw hs4 hsz
      go_wp2_with (first
        | (go_at_call 138; ((with_reducible refine (words_v 203 m _ (m : Int) (by omega) (by omega) (by omega) _).mono ?_); rintro e w6 ⟨rfl, rfl⟩))
        | (refine wpList_store_blk rfl 54 (.tmp 2) (.tmp 82) rfl w.heap.size _ #[.int .i64 0, .int .u32 0, .int .u64 0, .int .u32 0, .int .u32 0, .int .u32 0, .slice none 0 0, .slice none 0 0, .int .u32 0, .slice none 0 0] _ rfl rfl (HRJ.out _).res rfl (by kernel_rfl) (by simp [Value.oneCell']) ?_; intro w5 hi5 hg5; obtain ⟨r0, r1, r2, r3, r4, r5, r6, r7, r8, r9⟩ := ten_cells hi5))
      exact bodyPost_ret (v := .tuple #[.agg #[.int .i64 0, .int .u32 0, .int .u64 0, .int .u32 0, .int .u32 0, .int .u32 0, .slice none 0 0, .slice none 0 0, .int .u32 0, .slice none 0 0], .int .i64 0, .int .i64 2]) (by simp [results, Try.results94, go_sem, r0, r1, r2, r3, r4, r5, r6, r7, r8, r9]) rfl (rc_err 2 (by rw [HE.out]; rfl) (by rw [HE.out]; decide) ((HRJ.out _).b.grown hg5 (HRJ.out _).b.size (fun q hq => by injection hq with hq; omega)))
    · have HE : Hid (gE l = 0) := by show _ = _; rw [HGE.out, if_pos (by omega), if_neg (by omega)]
      have hns3 : decide ((n : Int) < (sz : Int)) = false := by simp; omega
      have hcm := HB.out.cm
      have hnc := HB.out.nc
      unfold maxLen at hcm
      have hc4 : ¬ c = 4 := by omega
      have h4s : 4 ≤ sz := by omega
      have h4sI : (4 : Int) ≤ (sz : Int) := by omega
      have hsc : sz ≤ c := by omega
      have hscI : (sz : Int) ≤ (c : Int) := by omega
      have hLN := HLN.out
      have hll : ((l.drop 4).take (sz - 4)).length = sz - 4 := by rw [List.length_take, List.length_drop]; omega
      have HBT : Hid (∀ w', Below w.heap.size w w' → Bts w' (some ⟨ad.block, ad.off + 4, none⟩) (sz - 4) (c - 4) ((l.drop 4).take (sz - 4))) := fun w' hb => ⟨hll, by omega, by unfold maxLen; omega, part_rd (HB.out.below hb) 4 (sz - 4) (by omega)⟩
      have HNN : Hid (gN l = sz) := by show _ = _; unfold gN gL; rw [if_pos HE.out, HLG.out]; exact hszw
      have hcs : csG ((l.drop 4).take (sz - 4)) 0 m = csG l 4 m := by
        unfold csG
        refine List.map_congr_left fun j hj => ?_
        have hj' := List.mem_range.1 hj
        exact getN_shift l (sz - 4) (0 + 4 * j) 4 _ _ 4 rfl (by omega) rfl (by omega) (by omega) (by omega) (by omega)
      have HQ : Hid (getG l = ⟨203, 0, 0, 0, 0, 0, [], csG l 4 m, 0, []⟩) := by
        show _ = _
        unfold getG
        rw [if_neg (by rw [HE.out]; simp), known_nat, if_neg (by rw [HM.out.2]; decide), if_pos HM.out.2, HLG.out]
        rw [show lg = m by omega]
      have HIT : Hid (∀ w', Below w.heap.size w w' → Calls Try.prog 139 #[.int .i64 203, .int .i64 m, .slice (some ⟨ad.block, ad.off + 4, none⟩) (sz - 4) (c - 4)] w' fun e w'' => ∃ A6 c6, e = .returned (.agg #[.int .i64 203, .int .u32 0, .int .u64 0, .int .u32 0, .int .u32 0, .int .u32 0, .slice none 0 0, .slice A6 m c6, .int .u32 0, .slice none 0 0]) ∧ w''.ownsRow w'.heap.size 24 1 (.slice A6 m c6) m (u32s (csG l 4 m)) ∧ Below w'.heap.size w' w'') := by
        intro w' hb
        have := ritem_203 _ _ _ m _ w' (HBT.out w' hb) (by omega)
        rw [hcs] at this
        exact this
      clear t1 t2 t3 hszw hs4 hsz  hll hcm hLN hcs
      go_wp2_with (first
        | (go_at_call 138; ((with_reducible refine (words_v 203 m _ (m : Int) (by omega) (by omega) (by omega) _).mono ?_); rintro e w6 ⟨rfl, rfl⟩))
        | (go_at_call 139; go_loud ((with_reducible refine (HIT.out _ (HRJ.out _).b).mono ?_); rintro e w6 ⟨A6, c6, rfl, ho6, hb6⟩; have HO6 := Lib.hid ho6; clear ho6; have hres6 := blk_below (HRJ.out _).res hb6; have hb7 := (HRJ.out _).b.trans (hb6.mono (HRJ.out _).b.size)))
        | (refine wpList_store_blk rfl 54 (.tmp 2) (.tmp 88) rfl w.heap.size _ #[.int .i64 203, .int .u32 0, .int .u64 0, .int .u32 0, .int .u32 0, .int .u32 0, .slice none 0 0, .slice A6 m c6, .int .u32 0, .slice none 0 0] _ rfl rfl hres6 rfl (by kernel_rfl) (by simp [Value.oneCell']) ?_; intro w5 hi5 hg5; obtain ⟨r0, r1, r2, r3, r4, r5, r6, r7, r8, r9⟩ := ten_cells hi5))
      exact bodyPost_ret (v := .tuple #[.agg #[.int .i64 203, .int .u32 0, .int .u64 0, .int .u32 0, .int .u32 0, .int .u32 0, .slice none 0 0, .slice A6 m c6, .int .u32 0, .slice none 0 0], .int .i64 (sz : Nat), .int .i64 0]) (by simp [results, Try.results94, go_sem, r0, r1, r2, r3, r4, r5, r6, r7, r8, r9]) rfl ⟨none, 0, 0, A6, m, c6, none, 0, 0, by rw [HQ.out, HNN.out, HE.out]; rfl, by rw [HQ.out]; exact ⟨World.ownsRow_nil _ _ _ _, own_mono (HO6.out.kept hg5 (own_off HO6.out hres6 (by decide))) (HRJ.out _).b.size, World.ownsRow_nil _ _ _ _⟩, hb7.grown hg5 hb7.size (fun q hq => by injection hq with hq; omega)⟩
  · have u3 : (lg != m) = true := by simp; omega
    have HE : Hid (gE l = 1) := by show _ = _; rw [HGE.out, if_neg (by omega)]
    clear t1 t2 t3
    go_wp2_with (first
      | (go_at_call 138; ((with_reducible refine (words_v 203 m _ (m : Int) (by omega) (by omega) (by omega) _).mono ?_); rintro e w6 ⟨rfl, rfl⟩))
      | (refine wpList_store_blk rfl 54 (.tmp 2) (.tmp 74) rfl w.heap.size _ #[.int .i64 0, .int .u32 0, .int .u64 0, .int .u32 0, .int .u32 0, .int .u32 0, .slice none 0 0, .slice none 0 0, .int .u32 0, .slice none 0 0] _ rfl rfl (HRJ.out _).res rfl (by kernel_rfl) (by simp [Value.oneCell']) ?_; intro w5 hi5 hg5; obtain ⟨r0, r1, r2, r3, r4, r5, r6, r7, r8, r9⟩ := ten_cells hi5))
    exact bodyPost_ret (v := .tuple #[.agg #[.int .i64 0, .int .u32 0, .int .u64 0, .int .u32 0, .int .u32 0, .int .u32 0, .slice none 0 0, .slice none 0 0, .int .u32 0, .slice none 0 0], .int .i64 0, .int .i64 1]) (by simp [results, Try.results94, go_sem, r0, r1, r2, r3, r4, r5, r6, r7, r8, r9]) rfl (rc_err 1 (by rw [HE.out]; rfl) (by rw [HE.out]; decide) ((HRJ.out _).b.grown hg5 (HRJ.out _).b.size (fun q hq => by injection hq with hq; omega)))
set_option maxRecDepth 20000 in
set_option maxHeartbeats 8000000 in
theorem rgi_205 (A : Option Addr) (n c : Nat) (l : List UInt8) (w : World) (h : Bts w A n c l) (h4 : 4 ≤ l.length) (hv : byteN l 0 / 32 = 4) (hk : byteN l 1 = 205) :
    Calls Try.prog 94 #[.slice A n c] w fun e w' => RcPost l w e w' := by
  have hn := h.len
  have HB := Lib.hid h
  have g : decide ((n : Int) < 4) = false := by simp; omega
  obtain ⟨ad, rfl, hc0⟩ := bts_byte h (k := 0) (by omega)
  obtain ⟨ad', hA, hc1⟩ := bts_byte h (k := 1) (by omega)
  injection hA with hA; subst hA
  obtain ⟨ad', hA, hc2⟩ := bts_byte h (k := 2) (by omega)
  injection hA with hA; subst hA
  obtain ⟨ad', hA, hc3⟩ := bts_byte h (k := 3) (by omega)
  injection hA with hA; subst hA
  rw [add_zero'] at hc0
  rw [hk] at hc1
  have n0 : 0 < n := by omega
  have n1 : 1 < n := by omega
  have n2 : 2 < n := by omega
  have n3 : 3 < n := by omega
  have n1' : (1 : Int) < n := by omega
  have n2' : (2 : Int) < n := by omega
  have n3' : (3 : Int) < n := by omega
  have hy0 := byteN_lt l 0
  have hy1 := byteN_lt l 1
  have hy2 := byteN_lt l 2
  have hy3 := byteN_lt l 3
  have gv : (((byteN l 0 : Nat) : Int) / 32 != 4) = false := by simp; omega
  obtain ⟨m, hm⟩ : ∃ m, byteN l 0 % 32 = m := ⟨_, rfl⟩
  have hmI : ((byteN l 0 : Nat) : Int) % 32 = (m : Int) := by rw [← hm]; omega
  have hm31 : m ≤ 31 := by omega
  obtain ⟨x2, hx2⟩ : ∃ x2, byteN l 2 = x2 := ⟨_, rfl⟩
  obtain ⟨x3, hx3⟩ : ∃ x3, byteN l 3 = x3 := ⟨_, rfl⟩
  rw [hx2] at hc2 hy2
  rw [hx3] at hc3 hy3
  obtain ⟨lg, hlg⟩ : ∃ lg, getN l 2 2 = lg := ⟨_, rfl⟩
  have hlx : lg = x2 * 256 + x3 := by rw [← hlg, ← hx2, ← hx3]; exact getN_two l h4
  have hlI : (x2 : Int) * 256 + (x3 : Int) = (lg : Int) := by omega
  have hl16 : lg < 65536 := by omega
  have hgE : gE l = if m ≠ 1 then 4 else if 3 ≤ lg ∧ lg ≤ 18 then (if n < (lg + 1) * 4 then 2 else 0) else 1 := by
    have hgl : gL l = (lg + 1) * 4 := by unfold gL; rw [hlg]
    unfold gE
    rw [if_neg (by omega), if_neg (by omega), known_nat, if_neg (by rw [hk]; decide), if_neg (by rw [hk]; decide), if_pos hk, hm, hlg, hn]
    simp only [hgl]
  have HGE := Lib.hid hgE
  have HM := Lib.hid (And.intro hm hk)
  have HC0 := Lib.hid hc0
  have HC1 : Hid (w.cell? ⟨ad.block, ad.off + 1, none⟩ = _) := hc1
  have HC2 : Hid (w.cell? ⟨ad.block, ad.off + 2, none⟩ = some (.int .u8 x2)) := hc2
  have HC3 : Hid (w.cell? ⟨ad.block, ad.off + 3, none⟩ = some (.int .u8 x3)) := hc3
  have HLN := Lib.hid hn
  have HL4 := Lib.hid h4
  have HLG := Lib.hid hlg
  have d0 := below_cell (ri_start w).b HC0.out
  have d1 := below_cell (ri_start w).b HC1.out
  have e2 : (((w.alloc (.cells #[.int .i64 0, .int .u32 0, .int .u64 0, .int .u32 0, .int .u32 0, .int .u32 0, .slice none 0 0, .slice none 0 0, .int .u32 0, .slice none 0 0] 54)).alloc (.cells #[.int .i64 0, .int .u32 0, .int .u64 0, .int .u32 0, .int .u32 0, .int .u32 0, .slice none 0 0, .slice none 0 0, .int .u32 0, .slice none 0 0] 54)).drew).cell? ⟨ad.block, ad.off + 2, none⟩ = some (.int .u8 x2) := below_cell (ri_start w).b HC2.out
  have e3 : (((w.alloc (.cells #[.int .i64 0, .int .u32 0, .int .u64 0, .int .u32 0, .int .u32 0, .int .u32 0, .slice none 0 0, .slice none 0 0, .int .u32 0, .slice none 0 0] 54)).alloc (.cells #[.int .i64 0, .int .u32 0, .int .u64 0, .int .u32 0, .int .u32 0, .int .u32 0, .slice none 0 0, .slice none 0 0, .int .u32 0, .slice none 0 0] 54)).drew).cell? ⟨ad.block, ad.off + 3, none⟩ = some (.int .u8 x3) := below_cell (ri_start w).b HC3.out
  have f2 : ∀ j, (((w.alloc (.cells #[.int .i64 0, .int .u32 0, .int .u64 0, .int .u32 0, .int .u32 0, .int .u32 0, .slice none 0 0, .slice none 0 0, .int .u32 0, .slice none 0 0] 54)).alloc (.cells #[.int .i64 0, .int .u32 0, .int .u64 0, .int .u32 0, .int .u32 0, .int .u32 0, .slice none 0 0, .slice none 0 0, .int .u32 0, .slice none 0 0] 54)).drewN j).cell? ⟨ad.block, ad.off + 2, none⟩ = some (.int .u8 x2) := fun j => below_cell (ri_start w).b HC2.out
  have f3 : ∀ j, (((w.alloc (.cells #[.int .i64 0, .int .u32 0, .int .u64 0, .int .u32 0, .int .u32 0, .int .u32 0, .slice none 0 0, .slice none 0 0, .int .u32 0, .slice none 0 0] 54)).alloc (.cells #[.int .i64 0, .int .u32 0, .int .u64 0, .int .u32 0, .int .u32 0, .int .u32 0, .slice none 0 0, .slice none 0 0, .int .u32 0, .slice none 0 0] 54)).drewN j).cell? ⟨ad.block, ad.off + 3, none⟩ = some (.int .u8 x3) := fun j => below_cell (ri_start w).b HC3.out
  have HRS := Lib.hid (ri_start w)
  clear h h4 hn hv hc0 hc1 hc2 hc3 hm hlg hx2 hx3 hlx hk hgE
  go_enter Try.func94, Try.ntmps94
  go_upto_region 8 with fail
  generalize ((w.alloc (.cells #[.int .i64 0, .int .u32 0, .int .u64 0, .int .u32 0, .int .u32 0, .int .u32 0, .slice none 0 0, .slice none 0 0, .int .u32 0, .slice none 0 0] 54)).alloc (.cells #[.int .i64 0, .int .u32 0, .int .u64 0, .int .u32 0, .int .u32 0, .int .u32 0, .slice none 0 0, .slice none 0 0, .int .u32 0, .slice none 0 0] 54)) = w2 at *
  clear d0 d1
  go_quiet (fail)
  have HRJ := Lib.hid (fun j => HRS.out.drewN j)
  clear e2 e3 f2 f3
  have z0 := fun j => (ten_cells (HRJ.out j).non).1
  have z1 := fun j => (ten_cells (HRJ.out j).non).2.1
  have z2 := fun j => (ten_cells (HRJ.out j).non).2.2.1
  have z3 := fun j => (ten_cells (HRJ.out j).non).2.2.2.1
  have z4 := fun j => (ten_cells (HRJ.out j).non).2.2.2.2.1
  have z5 := fun j => (ten_cells (HRJ.out j).non).2.2.2.2.2.1
  have z6 := fun j => (ten_cells (HRJ.out j).non).2.2.2.2.2.2.1
  have z7 := fun j => (ten_cells (HRJ.out j).non).2.2.2.2.2.2.2.1
  have z8 := fun j => (ten_cells (HRJ.out j).non).2.2.2.2.2.2.2.2.1
  have z9 := fun j => (ten_cells (HRJ.out j).non).2.2.2.2.2.2.2.2.2
  by_cases t0 : m = 1
  case neg =>
    have u0 : ((m : Int) != 1) = true := by simp; omega
    have HE : Hid (gE l = 4) := by show _ = _; rw [HGE.out, if_pos t0]
    clear t0
    go_wp2_with (refine wpList_store_blk rfl 54 (.tmp 2) (.tmp 54) rfl w.heap.size _ #[.int .i64 0, .int .u32 0, .int .u64 0, .int .u32 0, .int .u32 0, .int .u32 0, .slice none 0 0, .slice none 0 0, .int .u32 0, .slice none 0 0] _ rfl rfl (HRJ.out _).res rfl (by kernel_rfl) (by simp [Value.oneCell']) ?_; intro w5 hi5 hg5; obtain ⟨r0, r1, r2, r3, r4, r5, r6, r7, r8, r9⟩ := ten_cells hi5)
    exact bodyPost_ret (v := .tuple #[.agg #[.int .i64 0, .int .u32 0, .int .u64 0, .int .u32 0, .int .u32 0, .int .u32 0, .slice none 0 0, .slice none 0 0, .int .u32 0, .slice none 0 0], .int .i64 0, .int .i64 4]) (by simp [results, Try.results94, go_sem, r0, r1, r2, r3, r4, r5, r6, r7, r8, r9]) rfl (rc_err 4 (by rw [HE.out]; rfl) (by rw [HE.out]; decide) ((HRJ.out _).b.grown hg5 (HRJ.out _).b.size (fun q hq => by injection hq with hq; omega)))
  have u0 : ((m : Int) != 1) = false := by simp; omega
  obtain ⟨t, ht⟩ : ∃ t : Int, (lg : Int) - 2 = t := ⟨_, rfl⟩
  have ht9 : -2 ≤ t ∧ t ≤ 70000 := by omega
  by_cases t1 : lg < 3
  · have u1 : decide (t < 1) = true := by simp; omega
    have HE : Hid (gE l = 1) := by show _ = _; rw [HGE.out, if_neg (by omega), if_neg (by omega)]
    clear t1 t0
    go_wp2_with (first
      | (refine wpList_store_blk rfl 54 (.tmp 2) (.tmp 74) rfl w.heap.size _ #[.int .i64 0, .int .u32 0, .int .u64 0, .int .u32 0, .int .u32 0, .int .u32 0, .slice none 0 0, .slice none 0 0, .int .u32 0, .slice none 0 0] _ rfl rfl (HRJ.out _).res rfl (by kernel_rfl) (by simp [Value.oneCell']) ?_; intro w5 hi5 hg5; obtain ⟨r0, r1, r2, r3, r4, r5, r6, r7, r8, r9⟩ := ten_cells hi5))
    exact bodyPost_ret (v := .tuple #[.agg #[.int .i64 0, .int .u32 0, .int .u64 0, .int .u32 0, .int .u32 0, .int .u32 0, .slice none 0 0, .slice none 0 0, .int .u32 0, .slice none 0 0], .int .i64 0, .int .i64 1]) (by simp [results, Try.results94, go_sem, r0, r1, r2, r3, r4, r5, r6, r7, r8, r9]) rfl (rc_err 1 (by rw [HE.out]; rfl) (by rw [HE.out]; decide) ((HRJ.out _).b.grown hg5 (HRJ.out _).b.size (fun q hq => by injection hq with hq; omega)))
  by_cases t2 : 18 < lg
  · have u1 : decide (t < 1) = false := by simp; omega
    have u2 : decide (16 < t) = true := by simp; omega
    have HE : Hid (gE l = 1) := by show _ = _; rw [HGE.out, if_neg (by omega), if_neg (by omega)]
    clear t1 t2 t0
    go_wp2_with (first
      | (refine wpList_store_blk rfl 54 (.tmp 2) (.tmp 74) rfl w.heap.size _ #[.int .i64 0, .int .u32 0, .int .u64 0, .int .u32 0, .int .u32 0, .int .u32 0, .slice none 0 0, .slice none 0 0, .int .u32 0, .slice none 0 0] _ rfl rfl (HRJ.out _).res rfl (by kernel_rfl) (by simp [Value.oneCell']) ?_; intro w5 hi5 hg5; obtain ⟨r0, r1, r2, r3, r4, r5, r6, r7, r8, r9⟩ := ten_cells hi5))
    exact bodyPost_ret (v := .tuple #[.agg #[.int .i64 0, .int .u32 0, .int .u64 0, .int .u32 0, .int .u32 0, .int .u32 0, .slice none 0 0, .slice none 0 0, .int .u32 0, .slice none 0 0], .int .i64 0, .int .i64 1]) (by simp [results, Try.results94, go_sem, r0, r1, r2, r3, r4, r5, r6, r7, r8, r9]) rfl (rc_err 1 (by rw [HE.out]; rfl) (by rw [HE.out]; decide) ((HRJ.out _).b.grown hg5 (HRJ.out _).b.size (fun q hq => by injection hq with hq; omega)))
  obtain ⟨m2, hm2⟩ : ∃ m2, lg - 2 = m2 := ⟨_, rfl⟩
  have hmI2 : (lg : Int) - 2 = (m2 : Int) := by omega
  have u1 : decide ((m2 : Int) < 1) = false := by simp; omega
  have u2 : decide ((16 : Int) < (m2 : Int)) = false := by simp; omega
  have hm16 : m2 ≤ 16 := by omega
  have hlm : (2 : Int) + (m2 : Int) = (lg : Int) := by omega
  clear ht ht9
  obtain ⟨s4, hs4⟩ : ∃ s4, 4 * lg = s4 := ⟨_, rfl⟩
  obtain ⟨sz, hsz⟩ : ∃ sz, 4 + s4 = sz := ⟨_, rfl⟩
  have hs4I : (4 : Int) * (lg : Int) = (s4 : Int) := by omega
  have hszI : (4 : Int) + (s4 : Int) = (sz : Int) := by omega
  have hz9 : sz ≤ 1204 ∧ s4 ≤ 1200 := by omega
  have hszw : (lg + 1) * 4 = sz := by omega
  by_cases hns : n < sz
  · have HE : Hid (gE l = 2) := by show _ = _; rw [HGE.out, if_neg (by omega), if_pos (by omega), if_pos (by omega)]
    have hns3 : decide ((n : Int) < (sz : Int)) = true := by simp; omega
    clear t0 t1 t2 hm2 hlm hszw hs4 hsz
    go_wp2_with (first
      | (go_at_call 138; ((with_reducible refine (words_v 205 m2 _ (lg : Int) (by omega) (by omega) (by omega) _).mono ?_); rintro e w6 ⟨rfl, rfl⟩))
      | (refine wpList_store_blk rfl 54 (.tmp 2) (.tmp 82) rfl w.heap.size _ #[.int .i64 0, .int .u32 0, .int .u64 0, .int .u32 0, .int .u32 0, .int .u32 0, .slice none 0 0, .slice none 0 0, .int .u32 0, .slice none 0 0] _ rfl rfl (HRJ.out _).res rfl (by kernel_rfl) (by simp [Value.oneCell']) ?_; intro w5 hi5 hg5; obtain ⟨r0, r1, r2, r3, r4, r5, r6, r7, r8, r9⟩ := ten_cells hi5))
    exact bodyPost_ret (v := .tuple #[.agg #[.int .i64 0, .int .u32 0, .int .u64 0, .int .u32 0, .int .u32 0, .int .u32 0, .slice none 0 0, .slice none 0 0, .int .u32 0, .slice none 0 0], .int .i64 0, .int .i64 2]) (by simp [results, Try.results94, go_sem, r0, r1, r2, r3, r4, r5, r6, r7, r8, r9]) rfl (rc_err 2 (by rw [HE.out]; rfl) (by rw [HE.out]; decide) ((HRJ.out _).b.grown hg5 (HRJ.out _).b.size (fun q hq => by injection hq with hq; omega)))
  · have HE : Hid (gE l = 0) := by show _ = _; rw [HGE.out, if_neg (by omega), if_pos (by omega), if_neg (by omega)]
    have hns3 : decide ((n : Int) < (sz : Int)) = false := by simp; omega
    have hcm := HB.out.cm
    have hnc := HB.out.nc
    unfold maxLen at hcm
    have hc4 : ¬ c = 4 := by omega
    have h4s : 4 ≤ sz := by omega
    have h4sI : (4 : Int) ≤ (sz : Int) := by omega
    have hsc : sz ≤ c := by omega
    have hscI : (sz : Int) ≤ (c : Int) := by omega
    have hLN := HLN.out
    have hll : ((l.drop 4).take (sz - 4)).length = sz - 4 := by rw [List.length_take, List.length_drop]; omega
    have HBT : Hid (∀ w', Below w.heap.size w w' → Bts w' (some ⟨ad.block, ad.off + 4, none⟩) (sz - 4) (c - 4) ((l.drop 4).take (sz - 4))) := fun w' hb => ⟨hll, by omega, by unfold maxLen; omega, part_rd (HB.out.below hb) 4 (sz - 4) (by omega)⟩
    have HNN : Hid (gN l = sz) := by show _ = _; unfold gN gL; rw [if_pos HE.out, HLG.out]; exact hszw
    have hcs : prG ((l.drop 4).take (sz - 4)) 8 m2 = prG l 12 m2 ∧ getN ((l.drop 4).take (sz - 4)) 0 4 = getN l 4 4 ∧ getN ((l.drop 4).take (sz - 4)) 4 4 = getN l 8 4 := by
      refine ⟨?_, getN_shift l (sz - 4) 0 4 0 4 4 rfl rfl rfl (by omega) (by omega) (by omega) (by omega), getN_shift l (sz - 4) 4 4 4 8 4 rfl rfl rfl (by omega) (by omega) (by omega) (by omega)⟩
      unfold prG
      refine List.map_congr_left fun j hj => ?_
      have hj' := List.mem_range.1 hj
      rw [getN_shift l (sz - 4) (8 + 4 * j) 2 _ (12 + 4 * j : Nat) 2 rfl (by omega) rfl (by omega) (by omega) (by omega) (by omega), getN_shift l (sz - 4) (8 + 4 * j + 2) 2 _ (12 + 4 * j + 2 : Nat) 2 rfl (by omega) rfl (by omega) (by omega) (by omega) (by omega)]
    obtain ⟨y1, hy1'⟩ : ∃ y, getN l 4 4 = y := ⟨_, rfl⟩
    obtain ⟨y2, hy2'⟩ : ∃ y, getN l 8 4 = y := ⟨_, rfl⟩
    have HQ : Hid (getG l = ⟨205, y1, 0, 0, 0, 0, [], [], y2, prG l 12 m2⟩) := by
      show _ = _
      unfold getG
      rw [if_neg (by rw [HE.out]; simp), known_nat, if_neg (by rw [HM.out.2]; decide), if_neg (by rw [HM.out.2]; decide), if_pos HM.out.2, HLG.out, hy1', hy2', hm2]
    have HIT : Hid (∀ w', Below w.heap.size w w' → Calls Try.prog 139 #[.int .i64 205, .int .i64 m2, .slice (some ⟨ad.block, ad.off + 4, none⟩) (sz - 4) (c - 4)] w' fun e w'' => ∃ A6 c6, e = .returned (.agg #[.int .i64 205, .int .u32 y1, .int .u64 0, .int .u32 0, .int .u32 0, .int .u32 0, .slice none 0 0, .slice none 0 0, .int .u32 y2, .slice A6 m2 c6]) ∧ w''.ownsRow w'.heap.size 181 2 (.slice A6 m2 c6) m2 (rowP (prG l 12 m2)) ∧ Below w'.heap.size w' w'') := by
      intro w' hb
      have := ritem_205 _ _ _ m2 _ w' (HBT.out w' hb) (by omega)
      rw [hcs.1, hcs.2.1, hcs.2.2, hy1', hy2'] at this
      exact this
    clear t0 t1 t2 hm2 hlm hszw hs4 hsz  hll hcm hLN hcs hy1' hy2'
    go_wp2_with (first
      | (go_at_call 138; ((with_reducible refine (words_v 205 m2 _ (lg : Int) (by omega) (by omega) (by omega) _).mono ?_); rintro e w6 ⟨rfl, rfl⟩))
      | (go_at_call 139; go_loud ((with_reducible refine (HIT.out _ (HRJ.out _).b).mono ?_); rintro e w6 ⟨A6, c6, rfl, ho6, hb6⟩; have HO6 := Lib.hid ho6; clear ho6; have hres6 := blk_below (HRJ.out _).res hb6; have hb7 := (HRJ.out _).b.trans (hb6.mono (HRJ.out _).b.size)))
      | (refine wpList_store_blk rfl 54 (.tmp 2) (.tmp 88) rfl w.heap.size _ #[.int .i64 205, .int .u32 y1, .int .u64 0, .int .u32 0, .int .u32 0, .int .u32 0, .slice none 0 0, .slice none 0 0, .int .u32 y2, .slice A6 m2 c6] _ rfl rfl hres6 rfl (by kernel_rfl) (by simp [Value.oneCell']) ?_; intro w5 hi5 hg5; obtain ⟨r0, r1, r2, r3, r4, r5, r6, r7, r8, r9⟩ := ten_cells hi5))
    exact bodyPost_ret (v := .tuple #[.agg #[.int .i64 205, .int .u32 y1, .int .u64 0, .int .u32 0, .int .u32 0, .int .u32 0, .slice none 0 0, .slice none 0 0, .int .u32 y2, .slice A6 m2 c6], .int .i64 (sz : Nat), .int .i64 0]) (by simp [results, Try.results94, go_sem, r0, r1, r2, r3, r4, r5, r6, r7, r8, r9]) rfl ⟨none, 0, 0, none, 0, 0, A6, m2, c6, by rw [HQ.out, HNN.out, HE.out]; rfl, by rw [HQ.out]; exact ⟨World.ownsRow_nil _ _ _ _, World.ownsRow_nil _ _ _ _, own_mono (HO6.out.kept hg5 (own_off HO6.out hres6 (by decide))) (HRJ.out _).b.size⟩, hb7.grown hg5 hb7.size (fun q hq => by injection hq with hq; omega)⟩
set_option maxRecDepth 20000 in
set_option maxHeartbeats 8000000 in
theorem rgi_206 (A : Option Addr) (n c : Nat) (l : List UInt8) (w : World) (h : Bts w A n c l) (h4 : 4 ≤ l.length) (hv : byteN l 0 / 32 = 4) (hk : byteN l 1 = 206) :
    Calls Try.prog 94 #[.slice A n c] w fun e w' => RcPost l w e w' := by
  have hn := h.len
  have HB := Lib.hid h
  have g : decide ((n : Int) < 4) = false := by simp; omega
  obtain ⟨ad, rfl, hc0⟩ := bts_byte h (k := 0) (by omega)
  obtain ⟨ad', hA, hc1⟩ := bts_byte h (k := 1) (by omega)
  injection hA with hA; subst hA
  obtain ⟨ad', hA, hc2⟩ := bts_byte h (k := 2) (by omega)
  injection hA with hA; subst hA
  obtain ⟨ad', hA, hc3⟩ := bts_byte h (k := 3) (by omega)
  injection hA with hA; subst hA
  rw [add_zero'] at hc0
  rw [hk] at hc1
  have n0 : 0 < n := by omega
  have n1 : 1 < n := by omega
  have n2 : 2 < n := by omega
  have n3 : 3 < n := by omega
  have n1' : (1 : Int) < n := by omega
  have n2' : (2 : Int) < n := by omega
  have n3' : (3 : Int) < n := by omega
  have hy0 := byteN_lt l 0
  have hy1 := byteN_lt l 1
  have hy2 := byteN_lt l 2
  have hy3 := byteN_lt l 3
  have gv : (((byteN l 0 : Nat) : Int) / 32 != 4) = false := by simp; omega
  obtain ⟨m, hm⟩ : ∃ m, byteN l 0 % 32 = m := ⟨_, rfl⟩
  have hmI : ((byteN l 0 : Nat) : Int) % 32 = (m : Int) := by rw [← hm]; omega
  have hm31 : m ≤ 31 := by omega
  obtain ⟨x2, hx2⟩ : ∃ x2, byteN l 2 = x2 := ⟨_, rfl⟩
  obtain ⟨x3, hx3⟩ : ∃ x3, byteN l 3 = x3 := ⟨_, rfl⟩
  rw [hx2] at hc2 hy2
  rw [hx3] at hc3 hy3
  obtain ⟨lg, hlg⟩ : ∃ lg, getN l 2 2 = lg := ⟨_, rfl⟩
  have hlx : lg = x2 * 256 + x3 := by rw [← hlg, ← hx2, ← hx3]; exact getN_two l h4
  have hlI : (x2 : Int) * 256 + (x3 : Int) = (lg : Int) := by omega
  have hl16 : lg < 65536 := by omega
  have hgE : gE l = if m ≠ 1 then 4 else if lg = 2 then (if n < (lg + 1) * 4 then 2 else 0) else 1 := by
    have hgl : gL l = (lg + 1) * 4 := by unfold gL; rw [hlg]
    unfold gE
    rw [if_neg (by omega), if_neg (by omega), known_nat, if_neg (by rw [hk]; decide), if_neg (by rw [hk]; decide), if_neg (by rw [hk]; decide), if_pos hk, hm, hlg, hn]
    simp only [hgl]
  have HGE := Lib.hid hgE
  have HM := Lib.hid (And.intro hm hk)
  have HC0 := Lib.hid hc0
  have HC1 : Hid (w.cell? ⟨ad.block, ad.off + 1, none⟩ = _) := hc1
  have HC2 : Hid (w.cell? ⟨ad.block, ad.off + 2, none⟩ = some (.int .u8 x2)) := hc2
  have HC3 : Hid (w.cell? ⟨ad.block, ad.off + 3, none⟩ = some (.int .u8 x3)) := hc3
  have HLN := Lib.hid hn
  have HL4 := Lib.hid h4
  have HLG := Lib.hid hlg
  have d0 := below_cell (ri_start w).b HC0.out
  have d1 := below_cell (ri_start w).b HC1.out
  have e2 : (((w.alloc (.cells #[.int .i64 0, .int .u32 0, .int .u64 0, .int .u32 0, .int .u32 0, .int .u32 0, .slice none 0 0, .slice none 0 0, .int .u32 0, .slice none 0 0] 54)).alloc (.cells #[.int .i64 0, .int .u32 0, .int .u64 0, .int .u32 0, .int .u32 0, .int .u32 0, .slice none 0 0, .slice none 0 0, .int .u32 0, .slice none 0 0] 54)).drew).cell? ⟨ad.block, ad.off + 2, none⟩ = some (.int .u8 x2) := below_cell (ri_start w).b HC2.out
  have e3 : (((w.alloc (.cells #[.int .i64 0, .int .u32 0, .int .u64 0, .int .u32 0, .int .u32 0, .int .u32 0, .slice none 0 0, .slice none 0 0, .int .u32 0, .slice none 0 0] 54)).alloc (.cells #[.int .i64 0, .int .u32 0, .int .u64 0, .int .u32 0, .int .u32 0, .int .u32 0, .slice none 0 0, .slice none 0 0, .int .u32 0, .slice none 0 0] 54)).drew).cell? ⟨ad.block, ad.off + 3, none⟩ = some (.int .u8 x3) := below_cell (ri_start w).b HC3.out
  have f2 : ∀ j, (((w.alloc (.cells #[.int .i64 0, .int .u32 0, .int .u64 0, .int .u32 0, .int .u32 0, .int .u32 0, .slice none 0 0, .slice none 0 0, .int .u32 0, .slice none 0 0] 54)).alloc (.cells #[.int .i64 0, .int .u32 0, .int .u64 0, .int .u32 0, .int .u32 0, .int .u32 0, .slice none 0 0, .slice none 0 0, .int .u32 0, .slice none 0 0] 54)).drewN j).cell? ⟨ad.block, ad.off + 2, none⟩ = some (.int .u8 x2) := fun j => below_cell (ri_start w).b HC2.out
  have f3 : ∀ j, (((w.alloc (.cells #[.int .i64 0, .int .u32 0, .int .u64 0, .int .u32 0, .int .u32 0, .int .u32 0, .slice none 0 0, .slice none 0 0, .int .u32 0, .slice none 0 0] 54)).alloc (.cells #[.int .i64 0, .int .u32 0, .int .u64 0, .int .u32 0, .int .u32 0, .int .u32 0, .slice none 0 0, .slice none 0 0, .int .u32 0, .slice none 0 0] 54)).drewN j).cell? ⟨ad.block, ad.off + 3, none⟩ = some (.int .u8 x3) := fun j => below_cell (ri_start w).b HC3.out
  have HRS := Lib.hid (ri_start w)
  clear h h4 hn hv hc0 hc1 hc2 hc3 hm hlg hx2 hx3 hlx hk hgE
  go_enter Try.func94, Try.ntmps94
  go_upto_region 8 with fail
  generalize ((w.alloc (.cells #[.int .i64 0, .int .u32 0, .int .u64 0, .int .u32 0, .int .u32 0, .int .u32 0, .slice none 0 0, .slice none 0 0, .int .u32 0, .slice none 0 0] 54)).alloc (.cells #[.int .i64 0, .int .u32 0, .int .u64 0, .int .u32 0, .int .u32 0, .int .u32 0, .slice none 0 0, .slice none 0 0, .int .u32 0, .slice none 0 0] 54)) = w2 at *
  clear d0 d1
  go_quiet (fail)
  have HRJ := Lib.hid (fun j => HRS.out.drewN j)
  clear e2 e3 f2 f3
  have z0 := fun j => (ten_cells (HRJ.out j).non).1
  have z1 := fun j => (ten_cells (HRJ.out j).non).2.1
  have z2 := fun j => (ten_cells (HRJ.out j).non).2.2.1
  have z3 := fun j => (ten_cells (HRJ.out j).non).2.2.2.1
  have z4 := fun j => (ten_cells (HRJ.out j).non).2.2.2.2.1
  have z5 := fun j => (ten_cells (HRJ.out j).non).2.2.2.2.2.1
  have z6 := fun j => (ten_cells (HRJ.out j).non).2.2.2.2.2.2.1
  have z7 := fun j => (ten_cells (HRJ.out j).non).2.2.2.2.2.2.2.1
  have z8 := fun j => (ten_cells (HRJ.out j).non).2.2.2.2.2.2.2.2.1
  have z9 := fun j => (ten_cells (HRJ.out j).non).2.2.2.2.2.2.2.2.2
  by_cases t0 : m = 1
  case neg =>
    have u0 : ((m : Int) != 1) = true := by simp; omega
    have HE : Hid (gE l = 4) := by show _ = _; rw [HGE.out, if_pos t0]
    clear t0
    go_wp2_with (refine wpList_store_blk rfl 54 (.tmp 2) (.tmp 54) rfl w.heap.size _ #[.int .i64 0, .int .u32 0, .int .u64 0, .int .u32 0, .int .u32 0, .int .u32 0, .slice none 0 0, .slice none 0 0, .int .u32 0, .slice none 0 0] _ rfl rfl (HRJ.out _).res rfl (by kernel_rfl) (by simp [Value.oneCell']) ?_; intro w5 hi5 hg5; obtain ⟨r0, r1, r2, r3, r4, r5, r6, r7, r8, r9⟩ := ten_cells hi5)
    exact bodyPost_ret (v := .tuple #[.agg #[.int .i64 0, .int .u32 0, .int .u64 0, .int .u32 0, .int .u32 0, .int .u32 0, .slice none 0 0, .slice none 0 0, .int .u32 0, .slice none 0 0], .int .i64 0, .int .i64 4]) (by simp [results, Try.results94, go_sem, r0, r1, r2, r3, r4, r5, r6, r7, r8, r9]) rfl (rc_err 4 (by rw [HE.out]; rfl) (by rw [HE.out]; decide) ((HRJ.out _).b.grown hg5 (HRJ.out _).b.size (fun q hq => by injection hq with hq; omega)))
  have u0 : ((m : Int) != 1) = false := by simp; omega
  obtain ⟨t, ht⟩ : ∃ t : Int, (lg : Int) - 2 = t := ⟨_, rfl⟩
  have ht9 : -2 ≤ t ∧ t ≤ 70000 := by omega
  by_cases t1 : lg < 2
  · have u1 : decide (t < 0) = true := by simp; omega
    have HE : Hid (gE l = 1) := by show _ = _; rw [HGE.out, if_neg (by omega), if_neg (by omega)]
    clear t1 t0
    go_wp2_with (first
      | (refine wpList_store_blk rfl 54 (.tmp 2) (.tmp 74) rfl w.heap.size _ #[.int .i64 0, .int .u32 0, .int .u64 0, .int .u32 0, .int .u32 0, .int .u32 0, .slice none 0 0, .slice none 0 0, .int .u32 0, .slice none 0 0] _ rfl rfl (HRJ.out _).res rfl (by kernel_rfl) (by simp [Value.oneCell']) ?_; intro w5 hi5 hg5; obtain ⟨r0, r1, r2, r3, r4, r5, r6, r7, r8, r9⟩ := ten_cells hi5))
    exact bodyPost_ret (v := .tuple #[.agg #[.int .i64 0, .int .u32 0, .int .u64 0, .int .u32 0, .int .u32 0, .int .u32 0, .slice none 0 0, .slice none 0 0, .int .u32 0, .slice none 0 0], .int .i64 0, .int .i64 1]) (by simp [results, Try.results94, go_sem, r0, r1, r2, r3, r4, r5, r6, r7, r8, r9]) rfl (rc_err 1 (by rw [HE.out]; rfl) (by rw [HE.out]; decide) ((HRJ.out _).b.grown hg5 (HRJ.out _).b.size (fun q hq => by injection hq with hq; omega)))
  by_cases t2 : 2 < lg
  · have u1 : decide (t < 0) = false := by simp; omega
    have u2 : decide (0 < t) = true := by simp; omega
    have HE : Hid (gE l = 1) := by show _ = _; rw [HGE.out, if_neg (by omega), if_neg (by omega)]
    clear t1 t2 t0
    go_wp2_with (first
      | (refine wpList_store_blk rfl 54 (.tmp 2) (.tmp 74) rfl w.heap.size _ #[.int .i64 0, .int .u32 0, .int .u64 0, .int .u32 0, .int .u32 0, .int .u32 0, .slice none 0 0, .slice none 0 0, .int .u32 0, .slice none 0 0] _ rfl rfl (HRJ.out _).res rfl (by kernel_rfl) (by simp [Value.oneCell']) ?_; intro w5 hi5 hg5; obtain ⟨r0, r1, r2, r3, r4, r5, r6, r7, r8, r9⟩ := ten_cells hi5))
    exact bodyPost_ret (v := .tuple #[.agg #[.int .i64 0, .int .u32 0, .int .u64 0, .int .u32 0, .int .u32 0, .int .u32 0, .slice none 0 0, .slice none 0 0, .int .u32 0, .slice none 0 0], .int .i64 0, .int .i64 1]) (by simp [results, Try.results94, go_sem, r0, r1, r2, r3, r4, r5, r6, r7, r8, r9]) rfl (rc_err 1 (by rw [HE.out]; rfl) (by rw [HE.out]; decide) ((HRJ.out _).b.grown hg5 (HRJ.out _).b.size (fun q hq => by injection hq with hq; omega)))
  clear ht ht9
  obtain ⟨sz, hsz⟩ : ∃ sz, 12 = sz := ⟨_, rfl⟩
  have hszw : (lg + 1) * 4 = sz := by omega
  have hlg2 : lg = 2 := by omega
  subst hlg2
  subst hsz
  by_cases hns : n < 12
  · have HE : Hid (gE l = 2) := by show _ = _; rw [HGE.out, if_neg (by omega), if_pos (by omega), if_pos (by omega)]
    have hns3 : decide ((n : Int) < 12) = true := by simp; omega
    clear t0 t1 t2 hszw
    go_wp2_with (first
      | (go_at_call 138; ((with_reducible refine (words_v 206 0 _ 2 (by omega) (by omega) (by omega) _).mono ?_); rintro e w6 ⟨rfl, rfl⟩))
      | (refine wpList_store_blk rfl 54 (.tmp 2) (.tmp 82) rfl w.heap.size _ #[.int .i64 0, .int .u32 0, .int .u64 0, .int .u32 0, .int .u32 0, .int .u32 0, .slice none 0 0, .slice none 0 0, .int .u32 0, .slice none 0 0] _ rfl rfl (HRJ.out _).res rfl (by kernel_rfl) (by simp [Value.oneCell']) ?_; intro w5 hi5 hg5; obtain ⟨r0, r1, r2, r3, r4, r5, r6, r7, r8, r9⟩ := ten_cells hi5))
    exact bodyPost_ret (v := .tuple #[.agg #[.int .i64 0, .int .u32 0, .int .u64 0, .int .u32 0, .int .u32 0, .int .u32 0, .slice none 0 0, .slice none 0 0, .int .u32 0, .slice none 0 0], .int .i64 0, .int .i64 2]) (by simp [results, Try.results94, go_sem, r0, r1, r2, r3, r4, r5, r6, r7, r8, r9]) rfl (rc_err 2 (by rw [HE.out]; rfl) (by rw [HE.out]; decide) ((HRJ.out _).b.grown hg5 (HRJ.out _).b.size (fun q hq => by injection hq with hq; omega)))
  · have HE : Hid (gE l = 0) := by show _ = _; rw [HGE.out, if_neg (by omega), if_pos (by omega), if_neg (by omega)]
    have hns3 : decide ((n : Int) < 12) = false := by simp; omega
    have hcm := HB.out.cm
    have hnc := HB.out.nc
    unfold maxLen at hcm
    have hc4 : ¬ c = 4 := by omega
    have h4s : 4 ≤ 12 := by omega
    have h4sI : (4 : Int) ≤ (12 : Int) := by omega
    have hsc : 12 ≤ c := by omega
    have hscI : (12 : Int) ≤ (c : Int) := by omega
    have hLN := HLN.out
    have hll : ((l.drop 4).take (12 - 4)).length = 12 - 4 := by rw [List.length_take, List.length_drop]; omega
    have HBT : Hid (∀ w', Below w.heap.size w w' → Bts w' (some ⟨ad.block, ad.off + 4, none⟩) (12 - 4) (c - 4) ((l.drop 4).take (12 - 4))) := fun w' hb => ⟨hll, by omega, by unfold maxLen; omega, part_rd (HB.out.below hb) 4 (12 - 4) (by omega)⟩
    have HNN : Hid (gN l = 12) := by show _ = _; unfold gN gL; rw [if_pos HE.out, HLG.out]
    have hcs : getN ((l.drop 4).take (12 - 4)) 0 4 = getN l 4 4 ∧ getN ((l.drop 4).take (12 - 4)) 4 4 = getN l 8 4 :=
      ⟨getN_shift l (12 - 4) 0 4 0 4 4 rfl rfl rfl (by omega) (by omega) (by omega) (by omega), getN_shift l (12 - 4) 4 4 4 8 4 rfl rfl rfl (by omega) (by omega) (by omega) (by omega)⟩
    obtain ⟨y1, hy1'⟩ : ∃ y, getN l 4 4 = y := ⟨_, rfl⟩
    obtain ⟨y2, hy2'⟩ : ∃ y, getN l 8 4 = y := ⟨_, rfl⟩
    have HQ : Hid (getG l = ⟨206, y1, 0, 0, 0, 0, [], [], y2, []⟩) := by
      show _ = _
      unfold getG
      rw [if_neg (by rw [HE.out]; simp), known_nat, if_neg (by rw [HM.out.2]; decide), if_neg (by rw [HM.out.2]; decide), if_neg (by rw [HM.out.2]; decide), hy1', hy2']
    have HIT : Hid (∀ w', Below w.heap.size w w' → Calls Try.prog 139 #[.int .i64 206, .int .i64 0, .slice (some ⟨ad.block, ad.off + 4, none⟩) 8 (c - 4)] w' fun e w'' => e = .returned (.agg #[.int .i64 206, .int .u32 y1, .int .u64 0, .int .u32 0, .int .u32 0, .int .u32 0, .slice none 0 0, .slice none 0 0, .int .u32 y2, .slice none 0 0]) ∧ Below w'.heap.size w' w'') := by
      intro w' hb
      have := ritem_206 _ _ _ _ w' (HBT.out w' hb)
      rw [hcs.1, hcs.2, hy1', hy2'] at this
      exact this
    clear t0 t1 t2 hszw hns hll hcm hLN hcs hy1' hy2'
    go_wp2_with (first
      | (go_at_call 138; ((with_reducible refine (words_v 206 0 _ 2 (by omega) (by omega) (by omega) _).mono ?_); rintro e w6 ⟨rfl, rfl⟩))
      | (go_at_call 139; go_loud ((with_reducible refine (HIT.out _ (HRJ.out _).b).mono ?_); rintro e w6 ⟨rfl, hb6⟩; have hres6 := blk_below (HRJ.out _).res hb6; have hb7 := (HRJ.out _).b.trans (hb6.mono (HRJ.out _).b.size)))
      | (refine wpList_store_blk rfl 54 (.tmp 2) (.tmp 88) rfl w.heap.size _ #[.int .i64 206, .int .u32 y1, .int .u64 0, .int .u32 0, .int .u32 0, .int .u32 0, .slice none 0 0, .slice none 0 0, .int .u32 y2, .slice none 0 0] _ rfl rfl hres6 rfl (by kernel_rfl) (by simp [Value.oneCell']) ?_; intro w5 hi5 hg5; obtain ⟨r0, r1, r2, r3, r4, r5, r6, r7, r8, r9⟩ := ten_cells hi5))
    exact bodyPost_ret (v := .tuple #[.agg #[.int .i64 206, .int .u32 y1, .int .u64 0, .int .u32 0, .int .u32 0, .int .u32 0, .slice none 0 0, .slice none 0 0, .int .u32 y2, .slice none 0 0], .int .i64 12, .int .i64 0]) (by simp [results, Try.results94, go_sem, r0, r1, r2, r3, r4, r5, r6, r7, r8, r9]) rfl ⟨none, 0, 0, none, 0, 0, none, 0, 0, by rw [HQ.out, HNN.out, HE.out]; rfl, by rw [HQ.out]; exact ⟨World.ownsRow_nil _ _ _ _, World.ownsRow_nil _ _ _ _, World.ownsRow_nil _ _ _ _⟩, hb7.grown hg5 hb7.size (fun q hq => by injection hq with hq; omega)⟩
/-- The item that bytes begin with. -/
theorem rgi_any (A : Option Addr) (n c : Nat) (l : List UInt8) (w : World) (h : Bts w A n c l) : Calls Try.prog 94 #[.slice A n c] w fun e w' => RcPost l w e w' := by
  by_cases h4 : l.length < 4
  · have e1 : gE l = rightE l := by unfold gE rightE; rw [if_pos h4, if_pos h4]
    have e2 := rep_same e1 (fun h0 => by unfold gE at h0; rw [if_pos h4] at h0; cases h0)
    exact (rgi_short A n c l w h h4).mono fun e w' hp => ri_rc hp e1 e2.1 e2.2
  by_cases hv : byteN l 0 / 32 = 4
  · by_cases h0 : byteN l 1 = 200
    · have hkn : knownB (byteN l 1 : Nat) = true := by rw [known_nat, h0]; decide
      have e1 : gE l = rightE l := by unfold gE; rw [if_neg h4, if_neg (by omega), if_pos hkn]
      have e2 := rep_same e1 (fun _ => hkn)
      exact (rgi_200 A n c l w h (by omega) hv h0).mono fun e w' hp => ri_rc hp e1 e2.1 e2.2
    by_cases h1 : byteN l 1 = 201
    · have hkn : knownB (byteN l 1 : Nat) = true := by rw [known_nat, h1]; decide
      have e1 : gE l = rightE l := by unfold gE; rw [if_neg h4, if_neg (by omega), if_pos hkn]
      have e2 := rep_same e1 (fun _ => hkn)
      exact (rgi_201 A n c l w h (by omega) hv h1).mono fun e w' hp => ri_rc hp e1 e2.1 e2.2
    by_cases h2 : byteN l 1 = 203
    · exact rgi_203 A n c l w h (by omega) hv h2
    by_cases h3 : byteN l 1 = 205
    · exact rgi_205 A n c l w h (by omega) hv h3
    by_cases h5 : byteN l 1 = 206
    · exact rgi_206 A n c l w h (by omega) hv h5
    exact rgi_kind A n c l w h (by omega) hv h0 h1 h2 h3 h5
  · have e1 : gE l = rightE l := by unfold gE rightE; rw [if_neg h4, if_neg h4, if_pos hv, if_pos hv]
    have e2 := rep_same e1 (fun h0 => by rw [e1] at h0; unfold rightE at h0; rw [if_neg h4, if_pos hv] at h0; cases h0)
    exact (rgi_form A n c l w h (by omega) hv).mono fun e w' hp => ri_rc hp e1 e2.1 e2.2
end Go.Proofs.Ytknlkmencdlpcaa
