/-
The item that bytes begin with, as package rtcp reads it.
-/
import Derived.Test.YtknlkmencdlpcaaRc4
import Derived.Test.YtknlkmencdlpcaaRep6
namespace Go.Proofs.Ytknlkmencdlpcaa
set_option linter.unusedVariables false
set_option linter.unusedSimpArgs false
open Go Go.RowKit

set_option maxRecDepth 20000 in
set_option maxHeartbeats 4000000 in
theorem rci_short (A : Option Addr) (n c : Nat) (l : List UInt8) (w : World) (h : Bts w A n c l) (h4 : l.length < 4) :
    Calls Try.prog 93 #[.slice A n c] w fun e w' => RcPost l w e w' := by
  have hn := h.len
  have g : decide ((n : Int) < 4) = true := by simp; omega
  have HE : Hid (gE l = 2) := by show _ = _; unfold gE; rw [if_pos h4]
  have HW := Lib.hid ((Below.refl w.heap.size w).alloc (Nat.le_refl _) (.cells #[.int .i64 0, .int .u32 0, .int .u64 0, .int .u32 0, .int .u32 0, .int .u32 0, .slice none 0 0, .slice none 0 0, .int .u32 0, .slice none 0 0] 54))
  have HZ := Lib.hid (blk_alloc w (.cells #[.int .i64 0, .int .u32 0, .int .u64 0, .int .u32 0, .int .u32 0, .int .u32 0, .slice none 0 0, .slice none 0 0, .int .u32 0, .slice none 0 0] 54))
  clear h h4 hn
  go_enter Try.func93, Try.ntmps93
  go_wp2
  exact bodyPost_ret (v := .tuple #[.agg #[.int .i64 0, .int .u32 0, .int .u64 0, .int .u32 0, .int .u32 0, .int .u32 0, .slice none 0 0, .slice none 0 0, .int .u32 0, .slice none 0 0], .int .i64 0, .int .i64 2]) (by simp [results, Try.results93, go_sem]) rfl (rc_err 2 (by rw [HE.out]; rfl) (by rw [HE.out]; decide) HW.out)
set_option maxRecDepth 20000 in
set_option maxHeartbeats 4000000 in
theorem rci_form (A : Option Addr) (n c : Nat) (l : List UInt8) (w : World) (h : Bts w A n c l) (h4 : 4 ≤ l.length) (hv : byteN l 0 / 32 ≠ 4) :
    Calls Try.prog 93 #[.slice A n c] w fun e w' => RcPost l w e w' := by
  have hn := h.len
  obtain ⟨ad, rfl, hc0⟩ := bts_byte h (k := 0) (by omega)
  rw [add_zero'] at hc0
  have g : decide ((n : Int) < 4) = false := by simp; omega
  have n0 : 0 < n := by omega
  have hy0 := byteN_lt l 0
  have gv : (((byteN l 0 : Nat) : Int) / 32 != 4) = true := by simp; omega
  have HE : Hid (gE l = 1) := by show _ = _; unfold gE; rw [if_neg (by omega), if_pos hv]
  have HW := Lib.hid ((Below.refl w.heap.size w).alloc (Nat.le_refl _) (.cells #[.int .i64 0, .int .u32 0, .int .u64 0, .int .u32 0, .int .u32 0, .int .u32 0, .slice none 0 0, .slice none 0 0, .int .u32 0, .slice none 0 0] 54))
  have HZ := Lib.hid (blk_alloc w (.cells #[.int .i64 0, .int .u32 0, .int .u64 0, .int .u32 0, .int .u32 0, .int .u32 0, .slice none 0 0, .slice none 0 0, .int .u32 0, .slice none 0 0] 54))
  have d0 := below_cell HW.out hc0
  clear h h4 hn hv
  go_enter Try.func93, Try.ntmps93
  go_wp2
  exact bodyPost_ret (v := .tuple #[.agg #[.int .i64 0, .int .u32 0, .int .u64 0, .int .u32 0, .int .u32 0, .int .u32 0, .slice none 0 0, .slice none 0 0, .int .u32 0, .slice none 0 0], .int .i64 0, .int .i64 1]) (by simp [results, Try.results93, go_sem]) rfl (rc_err 1 (by rw [HE.out]; rfl) (by rw [HE.out]; decide) HW.out)
set_option maxRecDepth 20000 in
set_option maxHeartbeats 4000000 in
theorem rci_kind (A : Option Addr) (n c : Nat) (l : List UInt8) (w : World) (h : Bts w A n c l) (h4 : 4 ≤ l.length) (hv : byteN l 0 / 32 = 4) (h0 : byteN l 1 ≠ 200) (h1 : byteN l 1 ≠ 201) (h2 : byteN l 1 ≠ 203) (h3 : byteN l 1 ≠ 205) (h5 : byteN l 1 ≠ 206) :
    Calls Try.prog 93 #[.slice A n c] w fun e w' => RcPost l w e w' := by
  have hn := h.len
  obtain ⟨ad, rfl, hc0⟩ := bts_byte h (k := 0) (by omega)
  rw [add_zero'] at hc0
  have HB := Lib.hid h
  have g : decide ((n : Int) < 4) = false := by simp; omega
  have n0 : 0 < n := by omega
  have m1 := h.nc
  have m2 := h.cm
  unfold maxLen at m2
  have HLN := Lib.hid hn
  have HL4 := Lib.hid h4
  have hy0 := byteN_lt l 0
  have gv : (((byteN l 0 : Nat) : Int) / 32 != 4) = false := by simp; omega
  have HV := Lib.hid hv
  have HW := Lib.hid ((Below.refl w.heap.size w).alloc (Nat.le_refl _) (.cells #[.int .i64 0, .int .u32 0, .int .u64 0, .int .u32 0, .int .u32 0, .int .u32 0, .slice none 0 0, .slice none 0 0, .int .u32 0, .slice none 0 0] 54))
  have HZ := Lib.hid (blk_alloc w (.cells #[.int .i64 0, .int .u32 0, .int .u64 0, .int .u32 0, .int .u32 0, .int .u32 0, .slice none 0 0, .slice none 0 0, .int .u32 0, .slice none 0 0] 54))
  have d0 := below_cell HW.out hc0
  have HE : Hid (gE l = 4) := by
    show _ = _
    unfold gE
    rw [if_neg (by omega), if_neg (by omega), known_nat, if_neg (by simp; omega), if_neg h2, if_neg h3, if_neg h5]
  have HKD := fun w' h' => kind_no (some ad) n c l w' h' h4 h0 h1 h2 h3 h5
  replace HKD := Lib.hid HKD
  clear h h4 hn hv
  go_enter Try.func93, Try.ntmps93
  go_wp2_with (first
    | (go_at_call 134; ((with_reducible refine (HKD.out _ (HB.out.below HW.out)).mono ?_); rintro e w1 ⟨rfl, hb1⟩; have HW1 := Lib.hid (HW.out.trans (hb1.mono HW.out.size)); have HZ1 := Lib.hid (blk_below HZ.out hb1)))
    | (refine wpList_store_blk rfl 54 (.tmp 2) (.tmp 27) rfl w.heap.size _ #[.int .i64 0, .int .u32 0, .int .u64 0, .int .u32 0, .int .u32 0, .int .u32 0, .slice none 0 0, .slice none 0 0, .int .u32 0, .slice none 0 0] _ rfl rfl HZ1.out rfl (by kernel_rfl) (by simp [Value.oneCell']) ?_; intro w5 hi5 hg5))
  obtain ⟨r0, r1, r2, r3, r4, r5, r6, r7, r8, r9⟩ := ten_cells hi5
  exact bodyPost_ret (v := .tuple #[.agg #[.int .i64 0, .int .u32 0, .int .u64 0, .int .u32 0, .int .u32 0, .int .u32 0, .slice none 0 0, .slice none 0 0, .int .u32 0, .slice none 0 0], .int .i64 0, .int .i64 4]) (by simp [results, Try.results93, go_sem, r0, r1, r2, r3, r4, r5, r6, r7, r8, r9]) rfl (rc_err 4 (by rw [HE.out]; rfl) (by rw [HE.out]; decide) (HW1.out.grown hg5 HW1.out.size (fun q hq => by injection hq with hq; omega)))
set_option maxRecDepth 20000 in
set_option maxHeartbeats 4000000 in
theorem rci_205n (A : Option Addr) (n c : Nat) (l : List UInt8) (w : World) (h : Bts w A n c l) (h4 : 4 ≤ l.length) (hv : byteN l 0 / 32 = 4) (hk : byteN l 1 = 205) (hm : byteN l 0 % 32 ≠ 1) :
    Calls Try.prog 93 #[.slice A n c] w fun e w' => RcPost l w e w' := by
  have hn := h.len
  obtain ⟨ad, rfl, hc0⟩ := bts_byte h (k := 0) (by omega)
  rw [add_zero'] at hc0
  have HB := Lib.hid h
  have g : decide ((n : Int) < 4) = false := by simp; omega
  have n0 : 0 < n := by omega
  have m1 := h.nc
  have m2 := h.cm
  unfold maxLen at m2
  have HLN := Lib.hid hn
  have HL4 := Lib.hid h4
  have hy0 := byteN_lt l 0
  have gv : (((byteN l 0 : Nat) : Int) / 32 != 4) = false := by simp; omega
  have HV := Lib.hid hv
  have HW := Lib.hid ((Below.refl w.heap.size w).alloc (Nat.le_refl _) (.cells #[.int .i64 0, .int .u32 0, .int .u64 0, .int .u32 0, .int .u32 0, .int .u32 0, .slice none 0 0, .slice none 0 0, .int .u32 0, .slice none 0 0] 54))
  have HZ := Lib.hid (blk_alloc w (.cells #[.int .i64 0, .int .u32 0, .int .u64 0, .int .u32 0, .int .u32 0, .int .u32 0, .slice none 0 0, .slice none 0 0, .int .u32 0, .slice none 0 0] 54))
  have d0 := below_cell HW.out hc0
  have HE : Hid (gE l = 4) := by
    show _ = _
    unfold gE
    rw [if_neg (by omega), if_neg (by omega), known_nat, if_neg (by rw [hk]; decide), if_neg (by rw [hk]; decide), if_pos hk, if_pos hm]
  have HKD := fun w' h' => kind_205n (some ad) n c l w' h' h4 hk hm
  replace HKD := Lib.hid HKD
  clear h h4 hn hv
  go_enter Try.func93, Try.ntmps93
  go_wp2_with (first
    | (go_at_call 134; ((with_reducible refine (HKD.out _ (HB.out.below HW.out)).mono ?_); rintro e w1 ⟨rfl, hb1⟩; have HW1 := Lib.hid (HW.out.trans (hb1.mono HW.out.size)); have HZ1 := Lib.hid (blk_below HZ.out hb1)))
    | (refine wpList_store_blk rfl 54 (.tmp 2) (.tmp 27) rfl w.heap.size _ #[.int .i64 0, .int .u32 0, .int .u64 0, .int .u32 0, .int .u32 0, .int .u32 0, .slice none 0 0, .slice none 0 0, .int .u32 0, .slice none 0 0] _ rfl rfl HZ1.out rfl (by kernel_rfl) (by simp [Value.oneCell']) ?_; intro w5 hi5 hg5))
  obtain ⟨r0, r1, r2, r3, r4, r5, r6, r7, r8, r9⟩ := ten_cells hi5
  exact bodyPost_ret (v := .tuple #[.agg #[.int .i64 0, .int .u32 0, .int .u64 0, .int .u32 0, .int .u32 0, .int .u32 0, .slice none 0 0, .slice none 0 0, .int .u32 0, .slice none 0 0], .int .i64 0, .int .i64 4]) (by simp [results, Try.results93, go_sem, r0, r1, r2, r3, r4, r5, r6, r7, r8, r9]) rfl (rc_err 4 (by rw [HE.out]; rfl) (by rw [HE.out]; decide) (HW1.out.grown hg5 HW1.out.size (fun q hq => by injection hq with hq; omega)))
set_option maxRecDepth 20000 in
set_option maxHeartbeats 4000000 in
theorem rci_206n (A : Option Addr) (n c : Nat) (l : List UInt8) (w : World) (h : Bts w A n c l) (h4 : 4 ≤ l.length) (hv : byteN l 0 / 32 = 4) (hk : byteN l 1 = 206) (hm : byteN l 0 % 32 ≠ 1) :
    Calls Try.prog 93 #[.slice A n c] w fun e w' => RcPost l w e w' := by
  have hn := h.len
  obtain ⟨ad, rfl, hc0⟩ := bts_byte h (k := 0) (by omega)
  rw [add_zero'] at hc0
  have HB := Lib.hid h
  have g : decide ((n : Int) < 4) = false := by simp; omega
  have n0 : 0 < n := by omega
  have m1 := h.nc
  have m2 := h.cm
  unfold maxLen at m2
  have HLN := Lib.hid hn
  have HL4 := Lib.hid h4
  have hy0 := byteN_lt l 0
  have gv : (((byteN l 0 : Nat) : Int) / 32 != 4) = false := by simp; omega
  have HV := Lib.hid hv
  have HW := Lib.hid ((Below.refl w.heap.size w).alloc (Nat.le_refl _) (.cells #[.int .i64 0, .int .u32 0, .int .u64 0, .int .u32 0, .int .u32 0, .int .u32 0, .slice none 0 0, .slice none 0 0, .int .u32 0, .slice none 0 0] 54))
  have HZ := Lib.hid (blk_alloc w (.cells #[.int .i64 0, .int .u32 0, .int .u64 0, .int .u32 0, .int .u32 0, .int .u32 0, .slice none 0 0, .slice none 0 0, .int .u32 0, .slice none 0 0] 54))
  have d0 := below_cell HW.out hc0
  have HE : Hid (gE l = 4) := by
    show _ = _
    unfold gE
    rw [if_neg (by omega), if_neg (by omega), known_nat, if_neg (by rw [hk]; decide), if_neg (by rw [hk]; decide), if_neg (by rw [hk]; decide), if_pos hk, if_pos hm]
  have HKD := fun w' h' => kind_206n (some ad) n c l w' h' h4 hk hm
  replace HKD := Lib.hid HKD
  clear h h4 hn hv
  go_enter Try.func93, Try.ntmps93
  go_wp2_with (first
    | (go_at_call 134; ((with_reducible refine (HKD.out _ (HB.out.below HW.out)).mono ?_); rintro e w1 ⟨rfl, hb1⟩; have HW1 := Lib.hid (HW.out.trans (hb1.mono HW.out.size)); have HZ1 := Lib.hid (blk_below HZ.out hb1)))
    | (refine wpList_store_blk rfl 54 (.tmp 2) (.tmp 27) rfl w.heap.size _ #[.int .i64 0, .int .u32 0, .int .u64 0, .int .u32 0, .int .u32 0, .int .u32 0, .slice none 0 0, .slice none 0 0, .int .u32 0, .slice none 0 0] _ rfl rfl HZ1.out rfl (by kernel_rfl) (by simp [Value.oneCell']) ?_; intro w5 hi5 hg5))
  obtain ⟨r0, r1, r2, r3, r4, r5, r6, r7, r8, r9⟩ := ten_cells hi5
  exact bodyPost_ret (v := .tuple #[.agg #[.int .i64 0, .int .u32 0, .int .u64 0, .int .u32 0, .int .u32 0, .int .u32 0, .slice none 0 0, .slice none 0 0, .int .u32 0, .slice none 0 0], .int .i64 0, .int .i64 4]) (by simp [results, Try.results93, go_sem, r0, r1, r2, r3, r4, r5, r6, r7, r8, r9]) rfl (rc_err 4 (by rw [HE.out]; rfl) (by rw [HE.out]; decide) (HW1.out.grown hg5 HW1.out.size (fun q hq => by injection hq with hq; omega)))
set_option maxRecDepth 20000 in
set_option maxHeartbeats 4000000 in
theorem rci_200 (A : Option Addr) (n c : Nat) (l : List UInt8) (w : World) (h : Bts w A n c l) (h4 : 4 ≤ l.length) (hv : byteN l 0 / 32 = 4) (hk : byteN l 1 = 200) :
    Calls Try.prog 93 #[.slice A n c] w fun e w' => RcPost l w e w' := by
  have hn := h.len
  obtain ⟨ad, rfl, hc0⟩ := bts_byte h (k := 0) (by omega)
  rw [add_zero'] at hc0
  have HB := Lib.hid h
  have g : decide ((n : Int) < 4) = false := by simp; omega
  have n0 : 0 < n := by omega
  have m1 := h.nc
  have m2 := h.cm
  unfold maxLen at m2
  have HLN := Lib.hid hn
  have HL4 := Lib.hid h4
  have hy0 := byteN_lt l 0
  have gv : (((byteN l 0 : Nat) : Int) / 32 != 4) = false := by simp; omega
  have HV := Lib.hid hv
  have HW := Lib.hid ((Below.refl w.heap.size w).alloc (Nat.le_refl _) (.cells #[.int .i64 0, .int .u32 0, .int .u64 0, .int .u32 0, .int .u32 0, .int .u32 0, .slice none 0 0, .slice none 0 0, .int .u32 0, .slice none 0 0] 54))
  have HZ := Lib.hid (blk_alloc w (.cells #[.int .i64 0, .int .u32 0, .int .u64 0, .int .u32 0, .int .u32 0, .int .u32 0, .slice none 0 0, .slice none 0 0, .int .u32 0, .slice none 0 0] 54))
  have d0 := below_cell HW.out hc0
  have hkn : knownB (byteN l 1 : Nat) = true := by rw [known_nat, hk]; decide
  have hE : gE l = rightE l := by
    unfold gE
    rw [if_neg (by omega), if_neg (by omega), if_pos hkn]
  have hN : gN l = rightN l := by
    unfold gN
    by_cases he : rightE l = 0
    · have hr := right_ok he
      unfold rightN gL
      rw [if_pos (by rw [hE]; exact he), if_pos he, hr.2.2.2.2.2]
    · unfold rightN
      rw [if_neg (by rw [hE]; exact he), if_neg he]
  have hG : getG l = getI l := by
    by_cases he : rightE l = 0
    · unfold getG
      rw [if_neg (by rw [hE, he]; simp), if_pos hkn]
    · unfold getG getI
      rw [if_pos (by rw [hE]; exact he), if_pos he]
  have hgo : (getI l).go = [] ∧ (getI l).pr = [] ∧ (getI l).me = 0 := by
    unfold getI
    by_cases he : rightE l ≠ 0
    · rw [if_pos he]; exact ⟨rfl, rfl, rfl⟩
    · rw [if_neg he, hk]; exact ⟨rfl, rfl, rfl⟩
  have HX := Lib.hid (And.intro hE (And.intro hN (And.intro hG hgo)))
  have HKD := fun w' h' => kind_200 (some ad) n c l w' h' h4 hk
  replace HKD := Lib.hid HKD
  clear h h4 hn hv hk hkn hE hN hG hgo
  go_enter Try.func93, Try.ntmps93
  go_wp2_with (first
    | (go_at_call 134; ((with_reducible refine (HKD.out _ (HB.out.below HW.out)).mono ?_); rintro e w1 ⟨rfl, hb1⟩; have HW1 := Lib.hid (HW.out.trans (hb1.mono HW.out.size)); have HZ1 := Lib.hid (blk_below HZ.out hb1)))
    | (go_at_call 135; ((with_reducible refine (reget_any _ (some ad) n c l (HB.out.below HW1.out)).mono ?_); rintro e w2 ⟨A2, k2, c2, rfl, ho2, hb2⟩; have HO2 := Lib.hid ho2; clear ho2; have HW2 := Lib.hid (HW1.out.trans (hb2.mono HW1.out.size)); have HZ2 := Lib.hid (blk_below HZ1.out hb2)))
    | (refine wpList_store_blk rfl 54 (.tmp 2) (.tmp 36) rfl w.heap.size _ #[.int .i64 (getI l).k, .int .u32 (getI l).s, .int .u64 (getI l).ntp, .int .u32 (getI l).tm, .int .u32 (getI l).pk, .int .u32 (getI l).oc, .slice A2 k2 c2, .slice none 0 0, .int .u32 0, .slice none 0 0] _ rfl rfl HZ2.out rfl (by kernel_rfl) (by simp [Value.oneCell']) ?_; intro w5 hi5 hg5))
  obtain ⟨r0, r1, r2, r3, r4, r5, r6, r7, r8, r9⟩ := ten_cells hi5
  refine bodyPost_ret (v := .tuple #[.agg #[.int .i64 (getI l).k, .int .u32 (getI l).s, .int .u64 (getI l).ntp, .int .u32 (getI l).tm, .int .u32 (getI l).pk, .int .u32 (getI l).oc, .slice A2 k2 c2, .slice none 0 0, .int .u32 0, .slice none 0 0], .int .i64 (rightN l : Nat), .int .i64 (rightE l : Nat)]) (by simp [results, Try.results93, go_sem, r0, r1, r2, r3, r4, r5, r6, r7, r8, r9]) rfl ⟨A2, k2, c2, none, 0, 0, none, 0, 0, ?_, ?_, (HW2.out.grown hg5 HW2.out.size (fun q hq => by injection hq with hq; omega))⟩
  · rw [HX.out.1, HX.out.2.1, HX.out.2.2.1, HX.out.2.2.2.2.2]; rfl
  · rw [HX.out.2.2.1]
    refine ⟨own_base (HO2.out.kept hg5 (own_off HO2.out HZ2.out (by decide))) HW1.out.size, ?_, ?_⟩
    · rw [HX.out.2.2.2.1]; exact World.ownsRow_nil _ _ _ _
    · rw [HX.out.2.2.2.2.1]; exact World.ownsRow_nil _ _ _ _
set_option maxRecDepth 20000 in
set_option maxHeartbeats 4000000 in
theorem rci_201 (A : Option Addr) (n c : Nat) (l : List UInt8) (w : World) (h : Bts w A n c l) (h4 : 4 ≤ l.length) (hv : byteN l 0 / 32 = 4) (hk : byteN l 1 = 201) :
    Calls Try.prog 93 #[.slice A n c] w fun e w' => RcPost l w e w' := by
  have hn := h.len
  obtain ⟨ad, rfl, hc0⟩ := bts_byte h (k := 0) (by omega)
  rw [add_zero'] at hc0
  have HB := Lib.hid h
  have g : decide ((n : Int) < 4) = false := by simp; omega
  have n0 : 0 < n := by omega
  have m1 := h.nc
  have m2 := h.cm
  unfold maxLen at m2
  have HLN := Lib.hid hn
  have HL4 := Lib.hid h4
  have hy0 := byteN_lt l 0
  have gv : (((byteN l 0 : Nat) : Int) / 32 != 4) = false := by simp; omega
  have HV := Lib.hid hv
  have HW := Lib.hid ((Below.refl w.heap.size w).alloc (Nat.le_refl _) (.cells #[.int .i64 0, .int .u32 0, .int .u64 0, .int .u32 0, .int .u32 0, .int .u32 0, .slice none 0 0, .slice none 0 0, .int .u32 0, .slice none 0 0] 54))
  have HZ := Lib.hid (blk_alloc w (.cells #[.int .i64 0, .int .u32 0, .int .u64 0, .int .u32 0, .int .u32 0, .int .u32 0, .slice none 0 0, .slice none 0 0, .int .u32 0, .slice none 0 0] 54))
  have d0 := below_cell HW.out hc0
  have hkn : knownB (byteN l 1 : Nat) = true := by rw [known_nat, hk]; decide
  have hE : gE l = rightE l := by
    unfold gE
    rw [if_neg (by omega), if_neg (by omega), if_pos hkn]
  have hN : gN l = rightN l := by
    unfold gN
    by_cases he : rightE l = 0
    · have hr := right_ok he
      unfold rightN gL
      rw [if_pos (by rw [hE]; exact he), if_pos he, hr.2.2.2.2.2]
    · unfold rightN
      rw [if_neg (by rw [hE]; exact he), if_neg he]
  have hG : getG l = getI l := by
    by_cases he : rightE l = 0
    · unfold getG
      rw [if_neg (by rw [hE, he]; simp), if_pos hkn]
    · unfold getG getI
      rw [if_pos (by rw [hE]; exact he), if_pos he]
  have hgo : (getI l).go = [] ∧ (getI l).pr = [] ∧ (getI l).me = 0 := by
    unfold getI
    by_cases he : rightE l ≠ 0
    · rw [if_pos he]; exact ⟨rfl, rfl, rfl⟩
    · rw [if_neg he, hk]; exact ⟨rfl, rfl, rfl⟩
  have HX := Lib.hid (And.intro hE (And.intro hN (And.intro hG hgo)))
  have HKD := fun w' h' => kind_201 (some ad) n c l w' h' h4 hk
  replace HKD := Lib.hid HKD
  clear h h4 hn hv hk hkn hE hN hG hgo
  go_enter Try.func93, Try.ntmps93
  go_wp2_with (first
    | (go_at_call 134; ((with_reducible refine (HKD.out _ (HB.out.below HW.out)).mono ?_); rintro e w1 ⟨rfl, hb1⟩; have HW1 := Lib.hid (HW.out.trans (hb1.mono HW.out.size)); have HZ1 := Lib.hid (blk_below HZ.out hb1)))
    | (go_at_call 135; ((with_reducible refine (reget_any _ (some ad) n c l (HB.out.below HW1.out)).mono ?_); rintro e w2 ⟨A2, k2, c2, rfl, ho2, hb2⟩; have HO2 := Lib.hid ho2; clear ho2; have HW2 := Lib.hid (HW1.out.trans (hb2.mono HW1.out.size)); have HZ2 := Lib.hid (blk_below HZ1.out hb2)))
    | (refine wpList_store_blk rfl 54 (.tmp 2) (.tmp 36) rfl w.heap.size _ #[.int .i64 (getI l).k, .int .u32 (getI l).s, .int .u64 (getI l).ntp, .int .u32 (getI l).tm, .int .u32 (getI l).pk, .int .u32 (getI l).oc, .slice A2 k2 c2, .slice none 0 0, .int .u32 0, .slice none 0 0] _ rfl rfl HZ2.out rfl (by kernel_rfl) (by simp [Value.oneCell']) ?_; intro w5 hi5 hg5))
  obtain ⟨r0, r1, r2, r3, r4, r5, r6, r7, r8, r9⟩ := ten_cells hi5
  refine bodyPost_ret (v := .tuple #[.agg #[.int .i64 (getI l).k, .int .u32 (getI l).s, .int .u64 (getI l).ntp, .int .u32 (getI l).tm, .int .u32 (getI l).pk, .int .u32 (getI l).oc, .slice A2 k2 c2, .slice none 0 0, .int .u32 0, .slice none 0 0], .int .i64 (rightN l : Nat), .int .i64 (rightE l : Nat)]) (by simp [results, Try.results93, go_sem, r0, r1, r2, r3, r4, r5, r6, r7, r8, r9]) rfl ⟨A2, k2, c2, none, 0, 0, none, 0, 0, ?_, ?_, (HW2.out.grown hg5 HW2.out.size (fun q hq => by injection hq with hq; omega))⟩
  · rw [HX.out.1, HX.out.2.1, HX.out.2.2.1, HX.out.2.2.2.2.2]; rfl
  · rw [HX.out.2.2.1]
    refine ⟨own_base (HO2.out.kept hg5 (own_off HO2.out HZ2.out (by decide))) HW1.out.size, ?_, ?_⟩
    · rw [HX.out.2.2.2.1]; exact World.ownsRow_nil _ _ _ _
    · rw [HX.out.2.2.2.2.1]; exact World.ownsRow_nil _ _ _ _
set_option maxRecDepth 20000 in
set_option maxHeartbeats 4000000 in
theorem rci_203 (A : Option Addr) (n c : Nat) (l : List UInt8) (w : World) (h : Bts w A n c l) (h4 : 4 ≤ l.length) (hv : byteN l 0 / 32 = 4) (hk : byteN l 1 = 203) :
    Calls Try.prog 93 #[.slice A n c] w fun e w' => RcPost l w e w' := by
  have hn := h.len
  obtain ⟨ad, rfl, hc0⟩ := bts_byte h (k := 0) (by omega)
  rw [add_zero'] at hc0
  have HB := Lib.hid h
  have g : decide ((n : Int) < 4) = false := by simp; omega
  have n0 : 0 < n := by omega
  have m1 := h.nc
  have m2 := h.cm
  unfold maxLen at m2
  have HLN := Lib.hid hn
  have HL4 := Lib.hid h4
  have hy0 := byteN_lt l 0
  have gv : (((byteN l 0 : Nat) : Int) / 32 != 4) = false := by simp; omega
  have HV := Lib.hid hv
  have HW := Lib.hid ((Below.refl w.heap.size w).alloc (Nat.le_refl _) (.cells #[.int .i64 0, .int .u32 0, .int .u64 0, .int .u32 0, .int .u32 0, .int .u32 0, .slice none 0 0, .slice none 0 0, .int .u32 0, .slice none 0 0] 54))
  have HZ := Lib.hid (blk_alloc w (.cells #[.int .i64 0, .int .u32 0, .int .u64 0, .int .u32 0, .int .u32 0, .int .u32 0, .slice none 0 0, .slice none 0 0, .int .u32 0, .slice none 0 0] 54))
  have d0 := below_cell HW.out hc0
  have HKD := fun w' h' => kind_203 (some ad) n c l w' h' h4 hk
  replace HKD := Lib.hid HKD
  obtain ⟨N, hN⟩ : ∃ N, gL l = N := ⟨_, rfl⟩
  have HLE := fun w' h' b hb => length_203 (some ad) n c l w' h' h4 b hb N hN
  replace HLE := Lib.hid HLE
  have hgE : gE l = if 1 ≤ byteN l 0 % 32 ∧ byteN l 0 % 32 ≤ 15 ∧ getN l 2 2 = byteN l 0 % 32 then (if n < N then 2 else 0) else 1 := by
    unfold gE
    rw [if_neg (by omega), if_neg (by omega), known_nat, if_neg (by rw [hk]; decide), if_pos hk]
    simp only [hn, hN]
  have HGE := Lib.hid hgE
  have HN := Lib.hid hN
  have HK := Lib.hid hk
  have hz : getN l 2 2 < 65536 := getN_ltS l 2 2
  have hNB : 4 ≤ N ∧ N ≤ 262144 := by rw [← hN]; unfold gL; omega
  by_cases hok : 1 ≤ byteN l 0 % 32 ∧ byteN l 0 % 32 ≤ 15 ∧ getN l 2 2 = byteN l 0 % 32
  · have HOK := Lib.hid (decide_eq_true hok)
    by_cases hlt : n < N
    · have HE : Hid (gE l = 2) := by show _ = _; rw [HGE.out, if_pos hok, if_pos hlt]
      clear h h4 hn hv hk hgE hok hN
      go_enter Try.func93, Try.ntmps93
      go_wp2_with (first
        | (go_at_call 134; ((with_reducible refine (HKD.out _ (HB.out.below HW.out)).mono ?_); rintro e w1 ⟨rfl, hb1⟩; have HW1 := Lib.hid (HW.out.trans (hb1.mono HW.out.size)); have HZ1 := Lib.hid (blk_below HZ.out hb1)))
        | (go_at_call 136; ((with_reducible refine (HLE.out w1 (HB.out.below HW1.out) true HOK.out).mono ?_); rintro e w2 ⟨rfl, rfl⟩))
        | (refine wpList_store_blk rfl 54 (.tmp 2) (.tmp 54) rfl w.heap.size _ #[.int .i64 0, .int .u32 0, .int .u64 0, .int .u32 0, .int .u32 0, .int .u32 0, .slice none 0 0, .slice none 0 0, .int .u32 0, .slice none 0 0] _ rfl rfl HZ1.out rfl (by kernel_rfl) (by simp [Value.oneCell']) ?_; intro w5 hi5 hg5))
      obtain ⟨r0, r1, r2, r3, r4, r5, r6, r7, r8, r9⟩ := ten_cells hi5
      exact bodyPost_ret (v := .tuple #[.agg #[.int .i64 0, .int .u32 0, .int .u64 0, .int .u32 0, .int .u32 0, .int .u32 0, .slice none 0 0, .slice none 0 0, .int .u32 0, .slice none 0 0], .int .i64 0, .int .i64 2]) (by simp [results, Try.results93, go_sem, r0, r1, r2, r3, r4, r5, r6, r7, r8, r9]) rfl (rc_err 2 (by rw [HE.out]; rfl) (by rw [HE.out]; decide) (HW1.out.grown hg5 HW1.out.size (fun q hq => by injection hq with hq; omega)))
    · have HE : Hid (gE l = 0) := by show _ = _; rw [HGE.out, if_pos hok, if_neg hlt]
      have hN1 : N ≤ n := by omega
      have hNc : N ≤ c := by omega
      have hNcI : (N : Int) ≤ (c : Int) := by omega
      have hgN : gN l = N := by unfold gN; rw [if_pos HE.out, hN]
      obtain ⟨m, hm⟩ : ∃ m, getN l 2 2 = m := ⟨_, rfl⟩
      have hNm : N = 4 + 4 * m := by rw [← hN, ← hm]; unfold gL; omega
      have hm15 : m ≤ 15 := by omega
      have hcs : csG (l.take N) 4 m = csG l 4 m := by
        unfold csG
        refine List.map_congr_left fun j hj => ?_
        have hj' := List.mem_range.1 hj
        exact getN_take l N (4 + 4 * j) 4 _ 4 rfl rfl (by omega) (by omega) (by omega) (by omega)
      have hG : getG l = ⟨203, 0, 0, 0, 0, 0, [], csG l 4 m, 0, []⟩ := by unfold getG; rw [if_neg (by rw [HE.out]; simp), known_nat, if_neg (by rw [hk]; decide), if_pos hk, hm]
      have HPT : Hid (∀ w', Bts w' (some ad) n c l → Calls Try.prog 137 #[.slice (some ad) N c, .int .i64 203] w' fun e w'' => ∃ A cA, e = .returned (.agg #[.int .i64 203, .int .u32 0, .int .u64 0, .int .u32 0, .int .u32 0, .int .u32 0, .slice none 0 0, .slice A m cA, .int .u32 0, .slice none 0 0]) ∧ w''.ownsRow w'.heap.size 24 1 (.slice A m cA) m (u32s (csG l 4 m)) ∧ Below w'.heap.size w' w'') := by
        intro w' h'
        have := parts_203 (some ad) N c m (l.take N) w' ⟨by rw [List.length_take]; omega, hNc, h'.cm, by rw [← bys_take]; exact h'.rd.take N⟩ hNm (by omega)
        rw [hcs] at this
        exact this
      have HX := Lib.hid (And.intro hgN hG)
      have g3 : ¬ n < N := hlt
      clear h h4 hn hv hk hgE hok hN hgN hG hm hNm hm15 hcs
      go_enter Try.func93, Try.ntmps93
      go_wp2_with (first
        | (go_at_call 134; ((with_reducible refine (HKD.out _ (HB.out.below HW.out)).mono ?_); rintro e w1 ⟨rfl, hb1⟩; have HW1 := Lib.hid (HW.out.trans (hb1.mono HW.out.size)); have HZ1 := Lib.hid (blk_below HZ.out hb1)))
        | (go_at_call 136; ((with_reducible refine (HLE.out w1 (HB.out.below HW1.out) true HOK.out).mono ?_); rintro e w2 ⟨rfl, rfl⟩))
        | (go_at_call 137; ((with_reducible refine (HPT.out _ (HB.out.below HW1.out)).mono ?_); rintro e w3 ⟨A3, c3, rfl, ho3, hb3⟩; have HO3 := Lib.hid ho3; clear ho3; have HW3 := Lib.hid (HW1.out.trans (hb3.mono HW1.out.size)); have HZ3 := Lib.hid (blk_below HZ1.out hb3)))
        | (refine wpList_store_blk rfl 54 (.tmp 2) (.tmp 59) rfl w.heap.size _ #[.int .i64 203, .int .u32 0, .int .u64 0, .int .u32 0, .int .u32 0, .int .u32 0, .slice none 0 0, .slice A3 m c3, .int .u32 0, .slice none 0 0] _ rfl rfl HZ3.out rfl (by kernel_rfl) (by simp [Value.oneCell']) ?_; intro w5 hi5 hg5))
      obtain ⟨r0, r1, r2, r3, r4, r5, r6, r7, r8, r9⟩ := ten_cells hi5
      refine bodyPost_ret (v := .tuple #[.agg #[.int .i64 203, .int .u32 0, .int .u64 0, .int .u32 0, .int .u32 0, .int .u32 0, .slice none 0 0, .slice A3 m c3, .int .u32 0, .slice none 0 0], .int .i64 (N : Nat), .int .i64 0]) (by simp [results, Try.results93, go_sem, r0, r1, r2, r3, r4, r5, r6, r7, r8, r9]) rfl ⟨none, 0, 0, A3, m, c3, none, 0, 0, ?_, ?_, (HW3.out.grown hg5 HW3.out.size (fun q hq => by injection hq with hq; omega))⟩
      · rw [HE.out, HX.out.1, HX.out.2]; rfl
      · rw [HX.out.2]
        exact ⟨World.ownsRow_nil _ _ _ _, own_base (HO3.out.kept hg5 (own_off HO3.out HZ3.out (by decide))) HW1.out.size, World.ownsRow_nil _ _ _ _⟩
  · have HOK := Lib.hid (decide_eq_false hok)
    have HE : Hid (gE l = 1) := by show _ = _; rw [HGE.out, if_neg hok]
    clear h h4 hn hv hk hgE hok hN
    go_enter Try.func93, Try.ntmps93
    go_wp2_with (first
      | (go_at_call 134; ((with_reducible refine (HKD.out _ (HB.out.below HW.out)).mono ?_); rintro e w1 ⟨rfl, hb1⟩; have HW1 := Lib.hid (HW.out.trans (hb1.mono HW.out.size)); have HZ1 := Lib.hid (blk_below HZ.out hb1)))
      | (go_at_call 136; ((with_reducible refine (HLE.out w1 (HB.out.below HW1.out) false HOK.out).mono ?_); rintro e w2 ⟨rfl, rfl⟩))
      | (refine wpList_store_blk rfl 54 (.tmp 2) (.tmp 48) rfl w.heap.size _ #[.int .i64 0, .int .u32 0, .int .u64 0, .int .u32 0, .int .u32 0, .int .u32 0, .slice none 0 0, .slice none 0 0, .int .u32 0, .slice none 0 0] _ rfl rfl HZ1.out rfl (by kernel_rfl) (by simp [Value.oneCell']) ?_; intro w5 hi5 hg5))
    obtain ⟨r0, r1, r2, r3, r4, r5, r6, r7, r8, r9⟩ := ten_cells hi5
    exact bodyPost_ret (v := .tuple #[.agg #[.int .i64 0, .int .u32 0, .int .u64 0, .int .u32 0, .int .u32 0, .int .u32 0, .slice none 0 0, .slice none 0 0, .int .u32 0, .slice none 0 0], .int .i64 0, .int .i64 1]) (by simp [results, Try.results93, go_sem, r0, r1, r2, r3, r4, r5, r6, r7, r8, r9]) rfl (rc_err 1 (by rw [HE.out]; rfl) (by rw [HE.out]; decide) (HW1.out.grown hg5 HW1.out.size (fun q hq => by injection hq with hq; omega)))
set_option maxRecDepth 20000 in
set_option maxHeartbeats 4000000 in
theorem rci_205 (A : Option Addr) (n c : Nat) (l : List UInt8) (w : World) (h : Bts w A n c l) (h4 : 4 ≤ l.length) (hv : byteN l 0 / 32 = 4) (hk : byteN l 1 = 205) (hm : byteN l 0 % 32 = 1) :
    Calls Try.prog 93 #[.slice A n c] w fun e w' => RcPost l w e w' := by
  have hn := h.len
  obtain ⟨ad, rfl, hc0⟩ := bts_byte h (k := 0) (by omega)
  rw [add_zero'] at hc0
  have HB := Lib.hid h
  have g : decide ((n : Int) < 4) = false := by simp; omega
  have n0 : 0 < n := by omega
  have m1 := h.nc
  have m2 := h.cm
  unfold maxLen at m2
  have HLN := Lib.hid hn
  have HL4 := Lib.hid h4
  have hy0 := byteN_lt l 0
  have gv : (((byteN l 0 : Nat) : Int) / 32 != 4) = false := by simp; omega
  have HV := Lib.hid hv
  have HW := Lib.hid ((Below.refl w.heap.size w).alloc (Nat.le_refl _) (.cells #[.int .i64 0, .int .u32 0, .int .u64 0, .int .u32 0, .int .u32 0, .int .u32 0, .slice none 0 0, .slice none 0 0, .int .u32 0, .slice none 0 0] 54))
  have HZ := Lib.hid (blk_alloc w (.cells #[.int .i64 0, .int .u32 0, .int .u64 0, .int .u32 0, .int .u32 0, .int .u32 0, .slice none 0 0, .slice none 0 0, .int .u32 0, .slice none 0 0] 54))
  have d0 := below_cell HW.out hc0
  have HKD := fun w' h' => kind_205y (some ad) n c l w' h' h4 hk hm
  replace HKD := Lib.hid HKD
  obtain ⟨N, hN⟩ : ∃ N, gL l = N := ⟨_, rfl⟩
  have HLE := fun w' h' b hb => length_205 (some ad) n c l w' h' h4 b hb N hN
  replace HLE := Lib.hid HLE
  have hgE : gE l = if 3 ≤ getN l 2 2 ∧ getN l 2 2 ≤ 18 then (if n < N then 2 else 0) else 1 := by
    unfold gE
    rw [if_neg (by omega), if_neg (by omega), known_nat, if_neg (by rw [hk]; decide), if_neg (by rw [hk]; decide), if_pos hk, if_neg (by omega)]
    simp only [hn, hN]
  have HGE := Lib.hid hgE
  have HN := Lib.hid hN
  have HK := Lib.hid hk
  have hz : getN l 2 2 < 65536 := getN_ltS l 2 2
  have hNB : 4 ≤ N ∧ N ≤ 262144 := by rw [← hN]; unfold gL; omega
  by_cases hok : 3 ≤ getN l 2 2 ∧ getN l 2 2 ≤ 18
  · have HOK := Lib.hid (decide_eq_true hok)
    by_cases hlt : n < N
    · have HE : Hid (gE l = 2) := by show _ = _; rw [HGE.out, if_pos hok, if_pos hlt]
      clear h h4 hn hv hk hgE hok hN
      go_enter Try.func93, Try.ntmps93
      go_wp2_with (first
        | (go_at_call 134; ((with_reducible refine (HKD.out _ (HB.out.below HW.out)).mono ?_); rintro e w1 ⟨rfl, hb1⟩; have HW1 := Lib.hid (HW.out.trans (hb1.mono HW.out.size)); have HZ1 := Lib.hid (blk_below HZ.out hb1)))
        | (go_at_call 136; ((with_reducible refine (HLE.out w1 (HB.out.below HW1.out) true HOK.out).mono ?_); rintro e w2 ⟨rfl, rfl⟩))
        | (refine wpList_store_blk rfl 54 (.tmp 2) (.tmp 54) rfl w.heap.size _ #[.int .i64 0, .int .u32 0, .int .u64 0, .int .u32 0, .int .u32 0, .int .u32 0, .slice none 0 0, .slice none 0 0, .int .u32 0, .slice none 0 0] _ rfl rfl HZ1.out rfl (by kernel_rfl) (by simp [Value.oneCell']) ?_; intro w5 hi5 hg5))
      obtain ⟨r0, r1, r2, r3, r4, r5, r6, r7, r8, r9⟩ := ten_cells hi5
      exact bodyPost_ret (v := .tuple #[.agg #[.int .i64 0, .int .u32 0, .int .u64 0, .int .u32 0, .int .u32 0, .int .u32 0, .slice none 0 0, .slice none 0 0, .int .u32 0, .slice none 0 0], .int .i64 0, .int .i64 2]) (by simp [results, Try.results93, go_sem, r0, r1, r2, r3, r4, r5, r6, r7, r8, r9]) rfl (rc_err 2 (by rw [HE.out]; rfl) (by rw [HE.out]; decide) (HW1.out.grown hg5 HW1.out.size (fun q hq => by injection hq with hq; omega)))
    · have HE : Hid (gE l = 0) := by show _ = _; rw [HGE.out, if_pos hok, if_neg hlt]
      have hN1 : N ≤ n := by omega
      have hNc : N ≤ c := by omega
      have hNcI : (N : Int) ≤ (c : Int) := by omega
      have hgN : gN l = N := by unfold gN; rw [if_pos HE.out, hN]
      obtain ⟨m, hm2⟩ : ∃ m, getN l 2 2 - 2 = m := ⟨_, rfl⟩
      have hNm : N = 12 + 4 * m := by rw [← hN, ← hm2]; unfold gL; omega
      have hm15 : m ≤ 16 := by omega
      have hcs : prG (l.take N) 12 m = prG l 12 m ∧ getN (l.take N) 4 4 = getN l 4 4 ∧ getN (l.take N) 8 4 = getN l 8 4 := by
        refine ⟨?_, getN_take l N 4 4 4 4 rfl rfl (by omega) (by omega) (by omega) (by omega), getN_take l N 8 4 8 4 rfl rfl (by omega) (by omega) (by omega) (by omega)⟩
        unfold prG
        refine List.map_congr_left fun j hj => ?_
        have hj' := List.mem_range.1 hj
        rw [getN_take l N (12 + 4 * j) 2 _ 2 rfl rfl (by omega) (by omega) (by omega) (by omega), getN_take l N (12 + 4 * j + 2) 2 _ 2 rfl rfl (by omega) (by omega) (by omega) (by omega)]
      obtain ⟨y1, hy1⟩ : ∃ y, getN l 4 4 = y := ⟨_, rfl⟩
      obtain ⟨y2, hy2⟩ : ∃ y, getN l 8 4 = y := ⟨_, rfl⟩
      have hG : getG l = ⟨205, y1, 0, 0, 0, 0, [], [], y2, prG l 12 m⟩ := by unfold getG; rw [if_neg (by rw [HE.out]; simp), known_nat, if_neg (by rw [hk]; decide), if_neg (by rw [hk]; decide), if_pos hk, hm2, hy1, hy2]
      have HPT : Hid (∀ w', Bts w' (some ad) n c l → Calls Try.prog 137 #[.slice (some ad) N c, .int .i64 205] w' fun e w'' => ∃ A cA, e = .returned (.agg #[.int .i64 205, .int .u32 y1, .int .u64 0, .int .u32 0, .int .u32 0, .int .u32 0, .slice none 0 0, .slice none 0 0, .int .u32 y2, .slice A m cA]) ∧ w''.ownsRow w'.heap.size 181 2 (.slice A m cA) m (rowP (prG l 12 m)) ∧ Below w'.heap.size w' w'') := by
        intro w' h'
        have := parts_205 (some ad) N c m (l.take N) w' ⟨by rw [List.length_take]; omega, hNc, h'.cm, by rw [← bys_take]; exact h'.rd.take N⟩ hNm (by omega)
        rw [hcs.1, hcs.2.1, hcs.2.2, hy1, hy2] at this
        exact this
      have HX := Lib.hid (And.intro hgN hG)
      have g3 : ¬ n < N := hlt
      clear h h4 hn hv hk hgE hok hN hgN hG hm2 hNm hm15 hcs hy1 hy2
      go_enter Try.func93, Try.ntmps93
      go_wp2_with (first
        | (go_at_call 134; ((with_reducible refine (HKD.out _ (HB.out.below HW.out)).mono ?_); rintro e w1 ⟨rfl, hb1⟩; have HW1 := Lib.hid (HW.out.trans (hb1.mono HW.out.size)); have HZ1 := Lib.hid (blk_below HZ.out hb1)))
        | (go_at_call 136; ((with_reducible refine (HLE.out w1 (HB.out.below HW1.out) true HOK.out).mono ?_); rintro e w2 ⟨rfl, rfl⟩))
        | (go_at_call 137; ((with_reducible refine (HPT.out _ (HB.out.below HW1.out)).mono ?_); rintro e w3 ⟨A3, c3, rfl, ho3, hb3⟩; have HO3 := Lib.hid ho3; clear ho3; have HW3 := Lib.hid (HW1.out.trans (hb3.mono HW1.out.size)); have HZ3 := Lib.hid (blk_below HZ1.out hb3)))
        | (refine wpList_store_blk rfl 54 (.tmp 2) (.tmp 59) rfl w.heap.size _ #[.int .i64 205, .int .u32 y1, .int .u64 0, .int .u32 0, .int .u32 0, .int .u32 0, .slice none 0 0, .slice none 0 0, .int .u32 y2, .slice A3 m c3] _ rfl rfl HZ3.out rfl (by kernel_rfl) (by simp [Value.oneCell']) ?_; intro w5 hi5 hg5))
      obtain ⟨r0, r1, r2, r3, r4, r5, r6, r7, r8, r9⟩ := ten_cells hi5
      refine bodyPost_ret (v := .tuple #[.agg #[.int .i64 205, .int .u32 y1, .int .u64 0, .int .u32 0, .int .u32 0, .int .u32 0, .slice none 0 0, .slice none 0 0, .int .u32 y2, .slice A3 m c3], .int .i64 (N : Nat), .int .i64 0]) (by simp [results, Try.results93, go_sem, r0, r1, r2, r3, r4, r5, r6, r7, r8, r9]) rfl ⟨none, 0, 0, none, 0, 0, A3, m, c3, ?_, ?_, (HW3.out.grown hg5 HW3.out.size (fun q hq => by injection hq with hq; omega))⟩
      · rw [HE.out, HX.out.1, HX.out.2]; rfl
      · rw [HX.out.2]
        exact ⟨World.ownsRow_nil _ _ _ _, World.ownsRow_nil _ _ _ _, own_base (HO3.out.kept hg5 (own_off HO3.out HZ3.out (by decide))) HW1.out.size⟩
  · have HOK := Lib.hid (decide_eq_false hok)
    have HE : Hid (gE l = 1) := by show _ = _; rw [HGE.out, if_neg hok]
    clear h h4 hn hv hk hgE hok hN
    go_enter Try.func93, Try.ntmps93
    go_wp2_with (first
      | (go_at_call 134; ((with_reducible refine (HKD.out _ (HB.out.below HW.out)).mono ?_); rintro e w1 ⟨rfl, hb1⟩; have HW1 := Lib.hid (HW.out.trans (hb1.mono HW.out.size)); have HZ1 := Lib.hid (blk_below HZ.out hb1)))
      | (go_at_call 136; ((with_reducible refine (HLE.out w1 (HB.out.below HW1.out) false HOK.out).mono ?_); rintro e w2 ⟨rfl, rfl⟩))
      | (refine wpList_store_blk rfl 54 (.tmp 2) (.tmp 48) rfl w.heap.size _ #[.int .i64 0, .int .u32 0, .int .u64 0, .int .u32 0, .int .u32 0, .int .u32 0, .slice none 0 0, .slice none 0 0, .int .u32 0, .slice none 0 0] _ rfl rfl HZ1.out rfl (by kernel_rfl) (by simp [Value.oneCell']) ?_; intro w5 hi5 hg5))
    obtain ⟨r0, r1, r2, r3, r4, r5, r6, r7, r8, r9⟩ := ten_cells hi5
    exact bodyPost_ret (v := .tuple #[.agg #[.int .i64 0, .int .u32 0, .int .u64 0, .int .u32 0, .int .u32 0, .int .u32 0, .slice none 0 0, .slice none 0 0, .int .u32 0, .slice none 0 0], .int .i64 0, .int .i64 1]) (by simp [results, Try.results93, go_sem, r0, r1, r2, r3, r4, r5, r6, r7, r8, r9]) rfl (rc_err 1 (by rw [HE.out]; rfl) (by rw [HE.out]; decide) (HW1.out.grown hg5 HW1.out.size (fun q hq => by injection hq with hq; omega)))
set_option maxRecDepth 20000 in
set_option maxHeartbeats 4000000 in
theorem rci_206 (A : Option Addr) (n c : Nat) (l : List UInt8) (w : World) (h : Bts w A n c l) (h4 : 4 ≤ l.length) (hv : byteN l 0 / 32 = 4) (hk : byteN l 1 = 206) (hm : byteN l 0 % 32 = 1) :
    Calls Try.prog 93 #[.slice A n c] w fun e w' => RcPost l w e w' := by
  have hn := h.len
  obtain ⟨ad, rfl, hc0⟩ := bts_byte h (k := 0) (by omega)
  rw [add_zero'] at hc0
  have HB := Lib.hid h
  have g : decide ((n : Int) < 4) = false := by simp; omega
  have n0 : 0 < n := by omega
  have m1 := h.nc
  have m2 := h.cm
  unfold maxLen at m2
  have HLN := Lib.hid hn
  have HL4 := Lib.hid h4
  have hy0 := byteN_lt l 0
  have gv : (((byteN l 0 : Nat) : Int) / 32 != 4) = false := by simp; omega
  have HV := Lib.hid hv
  have HW := Lib.hid ((Below.refl w.heap.size w).alloc (Nat.le_refl _) (.cells #[.int .i64 0, .int .u32 0, .int .u64 0, .int .u32 0, .int .u32 0, .int .u32 0, .slice none 0 0, .slice none 0 0, .int .u32 0, .slice none 0 0] 54))
  have HZ := Lib.hid (blk_alloc w (.cells #[.int .i64 0, .int .u32 0, .int .u64 0, .int .u32 0, .int .u32 0, .int .u32 0, .slice none 0 0, .slice none 0 0, .int .u32 0, .slice none 0 0] 54))
  have d0 := below_cell HW.out hc0
  have HKD := fun w' h' => kind_206y (some ad) n c l w' h' h4 hk hm
  replace HKD := Lib.hid HKD
  obtain ⟨N, hN⟩ : ∃ N, gL l = N := ⟨_, rfl⟩
  have HLE := fun w' h' b hb => length_206 (some ad) n c l w' h' h4 b hb N hN
  replace HLE := Lib.hid HLE
  have hgE : gE l = if getN l 2 2 = 2 then (if n < N then 2 else 0) else 1 := by
    unfold gE
    rw [if_neg (by omega), if_neg (by omega), known_nat, if_neg (by rw [hk]; decide), if_neg (by rw [hk]; decide), if_neg (by rw [hk]; decide), if_pos hk, if_neg (by omega)]
    simp only [hn, hN]
  have HGE := Lib.hid hgE
  have HN := Lib.hid hN
  have HK := Lib.hid hk
  have hz : getN l 2 2 < 65536 := getN_ltS l 2 2
  have hNB : 4 ≤ N ∧ N ≤ 262144 := by rw [← hN]; unfold gL; omega
  by_cases hok : getN l 2 2 = 2
  · have HOK := Lib.hid (decide_eq_true hok)
    by_cases hlt : n < N
    · have HE : Hid (gE l = 2) := by show _ = _; rw [HGE.out, if_pos hok, if_pos hlt]
      clear h h4 hn hv hk hgE hok hN
      go_enter Try.func93, Try.ntmps93
      go_wp2_with (first
        | (go_at_call 134; ((with_reducible refine (HKD.out _ (HB.out.below HW.out)).mono ?_); rintro e w1 ⟨rfl, hb1⟩; have HW1 := Lib.hid (HW.out.trans (hb1.mono HW.out.size)); have HZ1 := Lib.hid (blk_below HZ.out hb1)))
        | (go_at_call 136; ((with_reducible refine (HLE.out w1 (HB.out.below HW1.out) true HOK.out).mono ?_); rintro e w2 ⟨rfl, rfl⟩))
        | (refine wpList_store_blk rfl 54 (.tmp 2) (.tmp 54) rfl w.heap.size _ #[.int .i64 0, .int .u32 0, .int .u64 0, .int .u32 0, .int .u32 0, .int .u32 0, .slice none 0 0, .slice none 0 0, .int .u32 0, .slice none 0 0] _ rfl rfl HZ1.out rfl (by kernel_rfl) (by simp [Value.oneCell']) ?_; intro w5 hi5 hg5))
      obtain ⟨r0, r1, r2, r3, r4, r5, r6, r7, r8, r9⟩ := ten_cells hi5
      exact bodyPost_ret (v := .tuple #[.agg #[.int .i64 0, .int .u32 0, .int .u64 0, .int .u32 0, .int .u32 0, .int .u32 0, .slice none 0 0, .slice none 0 0, .int .u32 0, .slice none 0 0], .int .i64 0, .int .i64 2]) (by simp [results, Try.results93, go_sem, r0, r1, r2, r3, r4, r5, r6, r7, r8, r9]) rfl (rc_err 2 (by rw [HE.out]; rfl) (by rw [HE.out]; decide) (HW1.out.grown hg5 HW1.out.size (fun q hq => by injection hq with hq; omega)))
    · have HE : Hid (gE l = 0) := by show _ = _; rw [HGE.out, if_pos hok, if_neg hlt]
      have hN1 : N ≤ n := by omega
      have hNc : N ≤ c := by omega
      have hNcI : (N : Int) ≤ (c : Int) := by omega
      have hgN : gN l = N := by unfold gN; rw [if_pos HE.out, hN]
      have hN12 : N = 12 := by rw [← hN]; unfold gL; omega
      have hcs : getN (l.take 12) 4 4 = getN l 4 4 ∧ getN (l.take 12) 8 4 = getN l 8 4 := ⟨getN_take l 12 4 4 4 4 rfl rfl (by omega) (by omega) (by omega) (by omega), getN_take l 12 8 4 8 4 rfl rfl (by omega) (by omega) (by omega) (by omega)⟩
      obtain ⟨y1, hy1⟩ : ∃ y, getN l 4 4 = y := ⟨_, rfl⟩
      obtain ⟨y2, hy2⟩ : ∃ y, getN l 8 4 = y := ⟨_, rfl⟩
      have hG : getG l = ⟨206, y1, 0, 0, 0, 0, [], [], y2, []⟩ := by unfold getG; rw [if_neg (by rw [HE.out]; simp), known_nat, if_neg (by rw [hk]; decide), if_neg (by rw [hk]; decide), if_neg (by rw [hk]; decide), hy1, hy2]
      have HPT : Hid (∀ w', Bts w' (some ad) n c l → Calls Try.prog 137 #[.slice (some ad) N c, .int .i64 206] w' fun e w'' => e = .returned (.agg #[.int .i64 206, .int .u32 y1, .int .u64 0, .int .u32 0, .int .u32 0, .int .u32 0, .slice none 0 0, .slice none 0 0, .int .u32 y2, .slice none 0 0]) ∧ Below w'.heap.size w' w'') := by
        intro w' h'
        have := parts_206 (some ad) c (l.take 12) w' ⟨by rw [List.length_take]; omega, by omega, h'.cm, by rw [← bys_take]; exact h'.rd.take 12⟩
        rw [hcs.1, hcs.2, hy1, hy2] at this
        rw [hN12]
        exact this
      have HX := Lib.hid (And.intro hgN hG)
      have g3 : ¬ n < N := hlt
      clear h h4 hn hv hk hgE hok hN hgN hG hN12 hcs hy1 hy2
      go_enter Try.func93, Try.ntmps93
      go_wp2_with (first
        | (go_at_call 134; ((with_reducible refine (HKD.out _ (HB.out.below HW.out)).mono ?_); rintro e w1 ⟨rfl, hb1⟩; have HW1 := Lib.hid (HW.out.trans (hb1.mono HW.out.size)); have HZ1 := Lib.hid (blk_below HZ.out hb1)))
        | (go_at_call 136; ((with_reducible refine (HLE.out w1 (HB.out.below HW1.out) true HOK.out).mono ?_); rintro e w2 ⟨rfl, rfl⟩))
        | (go_at_call 137; ((with_reducible refine (HPT.out _ (HB.out.below HW1.out)).mono ?_); rintro e w3 ⟨rfl, hb3⟩; have HW3 := Lib.hid (HW1.out.trans (hb3.mono HW1.out.size)); have HZ3 := Lib.hid (blk_below HZ1.out hb3)))
        | (refine wpList_store_blk rfl 54 (.tmp 2) (.tmp 59) rfl w.heap.size _ #[.int .i64 206, .int .u32 y1, .int .u64 0, .int .u32 0, .int .u32 0, .int .u32 0, .slice none 0 0, .slice none 0 0, .int .u32 y2, .slice none 0 0] _ rfl rfl HZ3.out rfl (by kernel_rfl) (by simp [Value.oneCell']) ?_; intro w5 hi5 hg5))
      obtain ⟨r0, r1, r2, r3, r4, r5, r6, r7, r8, r9⟩ := ten_cells hi5
      refine bodyPost_ret (v := .tuple #[.agg #[.int .i64 206, .int .u32 y1, .int .u64 0, .int .u32 0, .int .u32 0, .int .u32 0, .slice none 0 0, .slice none 0 0, .int .u32 y2, .slice none 0 0], .int .i64 (N : Nat), .int .i64 0]) (by simp [results, Try.results93, go_sem, r0, r1, r2, r3, r4, r5, r6, r7, r8, r9]) rfl ⟨none, 0, 0, none, 0, 0, none, 0, 0, ?_, ?_, (HW3.out.grown hg5 HW3.out.size (fun q hq => by injection hq with hq; omega))⟩
      · rw [HE.out, HX.out.1, HX.out.2]; rfl
      · rw [HX.out.2]
        exact ⟨World.ownsRow_nil _ _ _ _, World.ownsRow_nil _ _ _ _, World.ownsRow_nil _ _ _ _⟩
  · have HOK := Lib.hid (decide_eq_false hok)
    have HE : Hid (gE l = 1) := by show _ = _; rw [HGE.out, if_neg hok]
    clear h h4 hn hv hk hgE hok hN
    go_enter Try.func93, Try.ntmps93
    go_wp2_with (first
      | (go_at_call 134; ((with_reducible refine (HKD.out _ (HB.out.below HW.out)).mono ?_); rintro e w1 ⟨rfl, hb1⟩; have HW1 := Lib.hid (HW.out.trans (hb1.mono HW.out.size)); have HZ1 := Lib.hid (blk_below HZ.out hb1)))
      | (go_at_call 136; ((with_reducible refine (HLE.out w1 (HB.out.below HW1.out) false HOK.out).mono ?_); rintro e w2 ⟨rfl, rfl⟩))
      | (refine wpList_store_blk rfl 54 (.tmp 2) (.tmp 48) rfl w.heap.size _ #[.int .i64 0, .int .u32 0, .int .u64 0, .int .u32 0, .int .u32 0, .int .u32 0, .slice none 0 0, .slice none 0 0, .int .u32 0, .slice none 0 0] _ rfl rfl HZ1.out rfl (by kernel_rfl) (by simp [Value.oneCell']) ?_; intro w5 hi5 hg5))
    obtain ⟨r0, r1, r2, r3, r4, r5, r6, r7, r8, r9⟩ := ten_cells hi5
    exact bodyPost_ret (v := .tuple #[.agg #[.int .i64 0, .int .u32 0, .int .u64 0, .int .u32 0, .int .u32 0, .int .u32 0, .slice none 0 0, .slice none 0 0, .int .u32 0, .slice none 0 0], .int .i64 0, .int .i64 1]) (by simp [results, Try.results93, go_sem, r0, r1, r2, r3, r4, r5, r6, r7, r8, r9]) rfl (rc_err 1 (by rw [HE.out]; rfl) (by rw [HE.out]; decide) (HW1.out.grown hg5 HW1.out.size (fun q hq => by injection hq with hq; omega)))
/-- The item that bytes begin with. -/
theorem rci_any (A : Option Addr) (n c : Nat) (l : List UInt8) (w : World) (h : Bts w A n c l) : Calls Try.prog 93 #[.slice A n c] w fun e w' => RcPost l w e w' := by
  by_cases h4 : l.length < 4
  · exact rci_short A n c l w h h4
  by_cases hv : byteN l 0 / 32 = 4
  · by_cases h0 : byteN l 1 = 200
    · exact rci_200 A n c l w h (by omega) hv h0
    by_cases h1 : byteN l 1 = 201
    · exact rci_201 A n c l w h (by omega) hv h1
    by_cases h2 : byteN l 1 = 203
    · exact rci_203 A n c l w h (by omega) hv h2
    by_cases h3 : byteN l 1 = 205
    · by_cases hm : byteN l 0 % 32 = 1
      · exact rci_205 A n c l w h (by omega) hv h3 hm
      · exact rci_205n A n c l w h (by omega) hv h3 hm
    by_cases h5 : byteN l 1 = 206
    · by_cases hm : byteN l 0 % 32 = 1
      · exact rci_206 A n c l w h (by omega) hv h5 hm
      · exact rci_206n A n c l w h (by omega) hv h5 hm
    exact rci_kind A n c l w h (by omega) hv h0 h1 h2 h3 h5
  · exact rci_form A n c l w h (by omega) hv
end Go.Proofs.Ytknlkmencdlpcaa
