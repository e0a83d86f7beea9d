/-
How many bytes items have, and these bytes: package rtcp and the reference.
-/
import Derived.Test.YtaomdinddccpeaaRc2
import Derived.Test.YtaomdinddccpeaaFeed4
import Derived.Deep.CutBlock
namespace Go.Proofs.Ytaomdinddccpeaa
set_option linter.unusedVariables false
set_option linter.unusedSimpArgs false
open Go Go.RowKit

theorem itemL_le {i : Itm} (h : mayG i = true) : (itemL i).length ≤ 604 := by
  have := bodyL_length (mayG_few h)
  unfold itemL
  rw [List.length_append]
  simp only [List.length_cons, List.length_nil]
  omega
theorem itsL_le {l : List Itm} (h : allG l = true) : (itsL l).length ≤ 604 * l.length := by
  induction l with
  | nil => simp [itsL]
  | cons i l ih =>
    simp only [allG, List.all_cons, Bool.and_eq_true] at h
    have h1 := itemL_le h.1
    have h2 := ih h.2
    rw [itsL_cons, List.length_append, List.length_cons]
    omega
theorem allG_snoc {l : List Itm} {i : Itm} (h : allG l = true) : allG (l ++ [i]) = mayG i := by
  unfold allG at *
  rw [List.all_append, h]
  simp
theorem allG_take {l : List Itm} {k : Nat} {i : Itm} (hi : l[k]? = some i) (h : mayG i = false) : allG l = false := by
  rw [← Bool.not_eq_true]
  intro ha
  unfold allG at ha
  rw [List.all_eq_true] at ha
  have := ha i (List.mem_of_getElem? hi)
  rw [h] at this
  cases this
theorem itsL_snoc (l : List Itm) (i : Itm) : itsL (l ++ [i]) = itsL l ++ itemL i := by simp [itsL]
theorem itsL_take_le (l : List Itm) (k : Nat) : (itsL (l.take k)).length ≤ (itsL l).length := by
  have : itsL l = itsL (l.take k) ++ itsL (l.drop k) := by rw [← itsL_append, List.take_append_drop]
  rw [this, List.length_append]
  omega
theorem itm_take' (xs : List Sl) (k : Nat) : (itm xs).take k = itm (xs.take k) := by simp [itm]
/-- What is written so far. -/
structure OutS (w0 w : World) (B : Option Addr) (m c : Nat) (L : List UInt8) : Prop where
  own : w.ownsRow w0.heap.size 5 1 (.slice B m c) m (bys L)
  b : Below w0.heap.size w0 w
theorem OutS.below {w0 w w' : World} {B : Option Addr} {m c : Nat} {L : List UInt8} (h : OutS w0 w B m c L) (hb : Below w.heap.size w w') : OutS w0 w' B m c L :=
  ⟨h.own.kept (own_below hb) (own_none _), h.b.trans (hb.mono h.b.size)⟩
theorem OutS.app {w0 w w' : World} {B B' : Option Addr} {m c m' c' : Nat} {L L' : List UInt8} (h : OutS w0 w B m c L) (ho : w'.ownsRow w0.heap.size 5 1 (.slice B' m' c') m' (bys L')) (hg : w.grownBy w' (B.map Addr.block)) : OutS w0 w' B' m' c' L' :=
  ⟨ho, h.b.grown hg h.b.size (own_from h.own)⟩
set_option maxRecDepth 20000 in
set_option maxHeartbeats 4000000 in
theorem rcsizes_any (A : Option Addr) (n c : Nat) (xs : List Sl) (w : World) (h : Its w A n c xs) (hn : n ≤ 140737488351232) :
    Calls Try.prog 34 #[.slice A n c] w fun e w' => e = .returned (.int .i64 (sizG (itm xs) : Nat)) ∧ Below w.heap.size w w' := by
  have HI := Lib.hid h
  have HL := Lib.hid h.len
  have m1 := h.nc
  have m2 := h.cm
  unfold maxLen at m2
  have hw := Below.refl w.heap.size w
  clear h
  go_enter Try.func34, Try.ntmps34
  go_wp2
  go_loopw [3, 8] (fun s3 ix wr => ∃ (k m : Nat), ix = .int .i64 k ∧ s3 = .int .i64 m ∧ k ≤ n ∧ Hid (m = (itsL (itm (xs.take k))).length) ∧ Hid (allG (itm (xs.take k)) = true) ∧ Hid (Below w.heap.size w wr)) (fun _ ix _ => n - (intOf ix).toNat)
  case atStart => exact ⟨0, 0, rfl, rfl, Nat.zero_le _, rfl, rfl, hw⟩
  case round =>
    obtain ⟨k, m, rfl, rfl, hkn, HM, HG, HB⟩ := hrel
    have hm : m ≤ 604 * 140737488351232 := by
      have h1 := itsL_le HG.out
      rw [← HM.out, itm_len, List.length_take, HL.out] at h1
      omega
    by_cases hlt : k < n
    · have hk : k < xs.length := by rw [HL.out]; exact hlt
      obtain ⟨ad, rfl, a0, a1, a2, a3, a4, a5, a6, a7, a8, a9⟩ := rd_sl (HI.out.below HB.out).rd hk
      have HX := Lib.hid ((HI.out.below HB.out).rows _ (List.getElem_mem hk))
      have HT := Lib.hid (itm_take hk)
      have HK : Hid ((itm xs)[k]? = some (xs[k]).i) := by show _ = _; simp [itm, hk]
      generalize xs[k] = x at *
      have HXL : Hid (x.i.go.length = x.gn ∧ x.i.pr.length = x.pn) := ⟨by have := HX.out.rg.len; rw [u32s_length] at this; omega, by have := HX.out.rp.len; rw [rowP_length] at this; omega⟩
      have HA := Lib.hid ((Below.refl wr.heap.size wr).alloc (Nat.le_refl _) (.cells #[.int .i64 x.i.k, .int .u32 x.i.s, .int .u64 x.i.ntp, .int .u32 x.i.tm, .int .u32 x.i.pk, .int .u32 x.i.oc, .slice x.A x.n x.c, .slice x.G x.gn x.gc, .int .u32 x.i.me, .slice x.P x.pn x.pc] 64))
      have HAW := Lib.hid (HB.out.alloc HB.out.size (.cells #[.int .i64 x.i.k, .int .u32 x.i.s, .int .u64 x.i.ntp, .int .u32 x.i.tm, .int .u32 x.i.pk, .int .u32 x.i.oc, .slice x.A x.n x.c, .slice x.G x.gn x.gc, .int .u32 x.i.me, .slice x.P x.pn x.pc] 64))
      have HAX := Lib.hid (blk_alloc wr (.cells #[.int .i64 x.i.k, .int .u32 x.i.s, .int .u64 x.i.ntp, .int .u32 x.i.tm, .int .u32 x.i.pk, .int .u32 x.i.oc, .slice x.A x.n x.c, .slice x.G x.gn x.gc, .int .u32 x.i.me, .slice x.P x.pn x.pc] 64))
      cases hmy : mayG x.i
      · have HF : Hid (sizG (itm xs) = 0) := by show _ = _; unfold sizG; rw [allG_take HK.out hmy]; rfl
        go_wp2_with (go_at_call 32; ((with_reducible refine (rcmay_any x.i x.A x.n x.c x.G x.gn x.gc x.P x.pn x.pc _ (HX.out.ra.below HA.out) (HX.out.rg.below HA.out) (HX.out.rp.below HA.out)).mono ?_); rintro e w2 ⟨rfl, hb2⟩; rw [hmy]; have hw2 := HAW.out.trans (hb2.mono HAW.out.size)))
        go_ret
        exact ⟨by rw [HF.out]; rfl, hw2⟩
      · have HMY := Lib.hid hmy
        clear hmy
        go_wp2_with (first
          | (go_at_call 32; ((with_reducible refine (rcmay_any x.i x.A x.n x.c x.G x.gn x.gc x.P x.pn x.pc _ (HX.out.ra.below HA.out) (HX.out.rg.below HA.out) (HX.out.rp.below HA.out)).mono ?_); rintro e w2 ⟨rfl, hb2⟩; rw [HMY.out]; have HA2 := Lib.hid (HA.out.trans (hb2.mono HA.out.size)); have hw2 := Lib.hid (HAW.out.trans (hb2.mono HAW.out.size)); obtain ⟨x0, x1, x2, x3, x4, x5, x6, x7, x8, x9⟩ := ten_cells (blk_below HAX.out hb2)))
          | (go_at_call 51; ((with_reducible refine (one_any x.i x.A x.n x.c x.G x.gn x.gc x.P x.pn x.pc _ (HX.out.ra.below HA2.out) (HX.out.rg.below HA2.out) (HX.out.rp.below HA2.out) HX.out.ok HMY.out).mono ?_); rintro e w3 ⟨B3, m3, c3, rfl, hm3, ho3, hb3⟩; have hm3l : m3 ≤ 604 := (by rw [hm3.out]; exact itemL_le HMY.out); have hw3 := Lib.hid (hw2.out.trans (hb3.mono hw2.out.size)))))
        refine ⟨⟨k + 1, m + m3, rfl, rfl, by omega, ?_, ?_, hw3⟩, by simp [intOf]; omega⟩
        · show _ = _
          rw [HT.out, itsL_snoc, List.length_append, ← HM.out, ← hm3.out]
        · show _ = _
          rw [HT.out, allG_snoc HG.out, HMY.out]
    · have e1 : xs.take k = xs := List.take_of_length_le (by rw [HL.out]; omega)
      rw [e1] at HM HG
      have HF : Hid (sizG (itm xs) = m) := by show _ = _; unfold sizG; rw [if_pos HG.out, HM.out]
      go_wp2
      go_ret
      exact ⟨by rw [HF.out]; rfl, HB.out⟩
set_option maxRecDepth 20000 in
set_option maxHeartbeats 4000000 in
theorem rsizeI_any (A : Option Addr) (n c : Nat) (xs : List Sl) (w : World) (h : Its w A n c xs) (hn : n ≤ 140737488351232) :
    Calls Try.prog 35 #[.slice A n c] w fun e w' => e = .returned (.int .i64 (sizG (itm xs) : Nat)) ∧ Below w.heap.size w w' := by
  have HI := Lib.hid h
  have HL := Lib.hid h.len
  have m1 := h.nc
  have m2 := h.cm
  unfold maxLen at m2
  have hw := Below.refl w.heap.size w
  clear h
  go_enter Try.func35, Try.ntmps35
  go_wp2
  go_loopw [3, 8] (fun s3 ix wr => ∃ (k m : Nat), ix = .int .i64 k ∧ s3 = .int .i64 m ∧ k ≤ n ∧ Hid (m = (itsL (itm (xs.take k))).length) ∧ Hid (allG (itm (xs.take k)) = true) ∧ Hid (Below w.heap.size w wr)) (fun _ ix _ => n - (intOf ix).toNat)
  case atStart => exact ⟨0, 0, rfl, rfl, Nat.zero_le _, rfl, rfl, hw⟩
  case round =>
    obtain ⟨k, m, rfl, rfl, hkn, HM, HG, HB⟩ := hrel
    have hm : m ≤ 604 * 140737488351232 := by
      have h1 := itsL_le HG.out
      rw [← HM.out, itm_len, List.length_take, HL.out] at h1
      omega
    by_cases hlt : k < n
    · have hk : k < xs.length := by rw [HL.out]; exact hlt
      obtain ⟨ad, rfl, a0, a1, a2, a3, a4, a5, a6, a7, a8, a9⟩ := rd_sl (HI.out.below HB.out).rd hk
      have HX := Lib.hid ((HI.out.below HB.out).rows _ (List.getElem_mem hk))
      have HT := Lib.hid (itm_take hk)
      have HK : Hid ((itm xs)[k]? = some (xs[k]).i) := by show _ = _; simp [itm, hk]
      generalize xs[k] = x at *
      have HXL : Hid (x.i.go.length = x.gn ∧ x.i.pr.length = x.pn) := ⟨by have := HX.out.rg.len; rw [u32s_length] at this; omega, by have := HX.out.rp.len; rw [rowP_length] at this; omega⟩
      have HA := Lib.hid ((Below.refl wr.heap.size wr).alloc (Nat.le_refl _) (.cells #[.int .i64 x.i.k, .int .u32 x.i.s, .int .u64 x.i.ntp, .int .u32 x.i.tm, .int .u32 x.i.pk, .int .u32 x.i.oc, .slice x.A x.n x.c, .slice x.G x.gn x.gc, .int .u32 x.i.me, .slice x.P x.pn x.pc] 64))
      have HAW := Lib.hid (HB.out.alloc HB.out.size (.cells #[.int .i64 x.i.k, .int .u32 x.i.s, .int .u64 x.i.ntp, .int .u32 x.i.tm, .int .u32 x.i.pk, .int .u32 x.i.oc, .slice x.A x.n x.c, .slice x.G x.gn x.gc, .int .u32 x.i.me, .slice x.P x.pn x.pc] 64))
      have HAX := Lib.hid (blk_alloc wr (.cells #[.int .i64 x.i.k, .int .u32 x.i.s, .int .u64 x.i.ntp, .int .u32 x.i.tm, .int .u32 x.i.pk, .int .u32 x.i.oc, .slice x.A x.n x.c, .slice x.G x.gn x.gc, .int .u32 x.i.me, .slice x.P x.pn x.pc] 64))
      cases hmy : mayG x.i
      · have HF : Hid (sizG (itm xs) = 0) := by show _ = _; unfold sizG; rw [allG_take HK.out hmy]; rfl
        go_wp2_with (go_at_call 33; ((with_reducible refine (rmayI_any x.i x.A x.n x.c x.G x.gn x.gc x.P x.pn x.pc _ (HX.out.ra.below HA.out) HXL.out.1 HXL.out.2).mono ?_); rintro e w2 ⟨rfl, hb2⟩; rw [hmy]; have hw2 := HAW.out.trans (hb2.mono HAW.out.size)))
        go_ret
        exact ⟨by rw [HF.out]; rfl, hw2⟩
      · have HMY := Lib.hid hmy
        clear hmy
        go_wp2_with (first
          | (go_at_call 33; ((with_reducible refine (rmayI_any x.i x.A x.n x.c x.G x.gn x.gc x.P x.pn x.pc _ (HX.out.ra.below HA.out) HXL.out.1 HXL.out.2).mono ?_); rintro e w2 ⟨rfl, hb2⟩; rw [HMY.out]; have HA2 := Lib.hid (HA.out.trans (hb2.mono HA.out.size)); have hw2 := Lib.hid (HAW.out.trans (hb2.mono HAW.out.size)); obtain ⟨x0, x1, x2, x3, x4, x5, x6, x7, x8, x9⟩ := ten_cells (blk_below HAX.out hb2)))
          | (go_at_call 52; ((with_reducible refine (item_any x.i x.A x.n x.c x.G x.gn x.gc x.P x.pn x.pc _ (HX.out.ra.below HA2.out) (HX.out.rg.below HA2.out) (HX.out.rp.below HA2.out) HX.out.ok (mayG_few HMY.out)).mono ?_); rintro e w3 ⟨B3, m3, c3, rfl, hm3, ho3, hb3⟩; have hm3l : m3 ≤ 604 := (by rw [hm3.out]; exact itemL_le HMY.out); have hw3 := Lib.hid (hw2.out.trans (hb3.mono hw2.out.size)))))
        refine ⟨⟨k + 1, m + m3, rfl, rfl, by omega, ?_, ?_, hw3⟩, by simp [intOf]; omega⟩
        · show _ = _
          rw [HT.out, itsL_snoc, List.length_append, ← HM.out, ← hm3.out]
        · show _ = _
          rw [HT.out, allG_snoc HG.out, HMY.out]
    · have e1 : xs.take k = xs := List.take_of_length_le (by rw [HL.out]; omega)
      rw [e1] at HM HG
      have HF : Hid (sizG (itm xs) = m) := by show _ = _; unfold sizG; rw [if_pos HG.out, HM.out]
      go_wp2
      go_ret
      exact ⟨by rw [HF.out]; rfl, HB.out⟩
theorem putsL_no {l : List Itm} (h : putsE l ≠ 0) : putsL l = [] := by unfold putsL; rw [if_neg h]
set_option maxRecDepth 20000 in
set_option maxHeartbeats 4000000 in
theorem rcput_any (A : Option Addr) (n c : Nat) (xs : List Sl) (w : World) (h : Its w A n c xs) (hn : n ≤ 140737488351232) :
    Calls Try.prog 30 #[.slice A n c] w fun e w' => ∃ B m c', e = .returned (.tuple #[.slice B m c', .int .i64 (putsE (itm xs) : Nat)]) ∧ Hid (m = (putsL (itm xs)).length) ∧ w'.ownsRow w.heap.size 5 1 (.slice B m c') m (bys (putsL (itm xs))) ∧ Below w.heap.size w w' := by
  have HI := Lib.hid h
  have HL := Lib.hid h.len
  have HIL : Hid ((itm xs).length = n) := by show _ = _; rw [itm_len]; exact h.len
  have m1 := h.nc
  have m2 := h.cm
  unfold maxLen at m2
  have hw := Below.refl w.heap.size w
  obtain ⟨S, hS⟩ : ∃ S, sizG (itm xs) = S := ⟨_, rfl⟩
  have HS := Lib.hid hS
  have SZ := rcsizes_any A n c xs
  have SZ2 : ∀ w', Its w' A n c xs → Calls Try.prog 34 #[.slice A n c] w' fun e w'' => e = .returned (.int .i64 (S : Int)) ∧ Below w'.heap.size w' w'' := by
    intro w' h'
    rw [← hS]
    exact SZ w' h' hn
  have HSZ := Lib.hid SZ2
  have hS63 : S ≤ 604 * 140737488351232 := by
    rw [← hS]
    unfold sizG
    split
    · rename_i ha
      have := itsL_le ha
      rw [HIL.out] at this
      omega
    · omega
  clear h hS SZ SZ2
  by_cases h8 : 8 < n
  · have HE : Hid (putsE (itm xs) = 1) := by show _ = _; unfold putsE; rw [if_pos (.inl (by rw [HIL.out]; exact h8))]
    have HP : Hid (putsL (itm xs) = []) := putsL_no (by rw [HE.out]; decide)
    go_enter Try.func30, Try.ntmps30
    go_wp2
    go_ret2
    exact ⟨none, 0, 0, by rw [HE.out]; rfl, (by rw [HP.out]; rfl), by rw [HP.out]; exact World.ownsRow_nil _ _ _ _, hw⟩
  by_cases h0 : S = 0
  · have HE : Hid (putsE (itm xs) = 1) := by show _ = _; unfold putsE; rw [if_pos (.inr (by rw [HS.out]; exact h0))]
    have HP : Hid (putsL (itm xs) = []) := putsL_no (by rw [HE.out]; decide)
    subst h0
    go_enter Try.func30, Try.ntmps30
    go_wp2_with (go_at_call 34; ((with_reducible refine (HSZ.out _ HI.out).mono ?_); rintro e w2 ⟨rfl, hb2⟩))
    go_ret2
    exact ⟨none, 0, 0, by rw [HE.out]; rfl, (by rw [HP.out]; rfl), by rw [HP.out]; exact World.ownsRow_nil _ _ _ _, hb2⟩
  have hS0 : ((S : Int) == 0) = false := by simp; omega
  by_cases h5 : 512 < S
  · have HE : Hid (putsE (itm xs) = 5) := by show _ = _; unfold putsE; rw [HS.out, if_neg (by rw [HIL.out]; omega), if_pos h5]
    have HP : Hid (putsL (itm xs) = []) := putsL_no (by rw [HE.out]; decide)
    clear h0
    go_enter Try.func30, Try.ntmps30
    go_wp2_with (first
      | (go_at_call 34; (fail_if_success have := hb2); ((with_reducible refine (HSZ.out _ HI.out).mono ?_); rintro e w2 ⟨rfl, hb2⟩))
      | (go_at_call 34; ((with_reducible refine (HSZ.out _ (HI.out.below hb2)).mono ?_); rintro e w3 ⟨rfl, hb3⟩; have hw3 := hb2.trans (hb3.mono hb2.size))))
    go_ret2
    exact ⟨none, 0, 0, by rw [HE.out]; rfl, (by rw [HP.out]; rfl), by rw [HP.out]; exact World.ownsRow_nil _ _ _ _, hw3⟩
  have HE : Hid (putsE (itm xs) = 0) := by show _ = _; unfold putsE; rw [HS.out, if_neg (by rw [HIL.out]; omega), if_neg h5]
  obtain ⟨q1, q2, q3, q4, q5, q6⟩ := puts_ok HE.out
  have HQ := Lib.hid (And.intro q1 (And.intro q4 q5))
  clear h0 q1 q2 q3 q4 q5 q6
  go_enter Try.func30, Try.ntmps30
  go_wp2_with (first
    | (go_at_call 34; (fail_if_success have := hb2); ((with_reducible refine (HSZ.out _ HI.out).mono ?_); rintro e w2 ⟨rfl, hb2⟩))
    | (go_at_call 34; ((with_reducible refine (HSZ.out _ (HI.out.below hb2)).mono ?_); rintro e w3 ⟨rfl, hb3⟩; have hw3 := hb2.trans (hb3.mono hb2.size))))
  go_loopw [4, 20] (fun s4 ix wr => ∃ (k m : Nat) (B : Option Addr) (c' : Nat), ix = .int .i64 k ∧ s4 = .slice B m c' ∧ k ≤ n ∧ m ≤ 512 ∧ Hid (m = (itsL (itm (xs.take k))).length) ∧ Hid (allG (itm (xs.take k)) = true) ∧ Hid (OutS w wr B m c' (itsL (itm (xs.take k))))) (fun _ ix _ => n - (intOf ix).toNat)
  case atStart => exact ⟨0, 0, none, 0, rfl, rfl, Nat.zero_le _, by omega, rfl, rfl, ⟨World.ownsRow_nil _ _ _ _, hw3⟩⟩
  case round =>
    obtain ⟨k, m, B, c', rfl, rfl, hkn, hm, HM, HG, HOU⟩ := hrel
    have HB := Lib.hid HOU.out.b
    by_cases hlt : k < n
    · have hk : k < xs.length := by rw [HL.out]; exact hlt
      obtain ⟨ad, rfl, a0, a1, a2, a3, a4, a5, a6, a7, a8, a9⟩ := rd_sl (HI.out.below HB.out).rd hk
      have HX := Lib.hid ((HI.out.below HB.out).rows _ (List.getElem_mem hk))
      have HT := Lib.hid (itm_take hk)
      have HK : Hid ((itm xs)[k]? = some (xs[k]).i) := by show _ = _; simp [itm, hk]
      generalize xs[k] = x at *
      have HXL : Hid (x.i.go.length = x.gn ∧ x.i.pr.length = x.pn) := ⟨by have := HX.out.rg.len; rw [u32s_length] at this; omega, by have := HX.out.rp.len; rw [rowP_length] at this; omega⟩
      have HA := Lib.hid ((Below.refl wr.heap.size wr).alloc (Nat.le_refl _) (.cells #[.int .i64 x.i.k, .int .u32 x.i.s, .int .u64 x.i.ntp, .int .u32 x.i.tm, .int .u32 x.i.pk, .int .u32 x.i.oc, .slice x.A x.n x.c, .slice x.G x.gn x.gc, .int .u32 x.i.me, .slice x.P x.pn x.pc] 64))
      have HAW := Lib.hid (HB.out.alloc HB.out.size (.cells #[.int .i64 x.i.k, .int .u32 x.i.s, .int .u64 x.i.ntp, .int .u32 x.i.tm, .int .u32 x.i.pk, .int .u32 x.i.oc, .slice x.A x.n x.c, .slice x.G x.gn x.gc, .int .u32 x.i.me, .slice x.P x.pn x.pc] 64))
      have HAX := Lib.hid (blk_alloc wr (.cells #[.int .i64 x.i.k, .int .u32 x.i.s, .int .u64 x.i.ntp, .int .u32 x.i.tm, .int .u32 x.i.pk, .int .u32 x.i.oc, .slice x.A x.n x.c, .slice x.G x.gn x.gc, .int .u32 x.i.me, .slice x.P x.pn x.pc] 64))
      have HMY : Hid (mayG x.i = true) := by
        show _ = _
        cases hq : mayG x.i
        · have := allG_take HK.out hq
          rw [HQ.out.1] at this; cases this
        · rfl
      have HLT : Hid (itsL (itm (xs.take k)) ++ itemL x.i = itsL (itm (xs.take (k + 1)))) := by show _ = _; rw [HT.out, itsL_snoc]
      have HLE : Hid ((itsL (itm (xs.take (k + 1)))).length ≤ 512) := by
        have h1 := itsL_take_le (itm xs) (k + 1)
        rw [itm_take'] at h1
        have h2 := HQ.out.2.1
        show _ ≤ _
        omega
      go_wp2_with (first
        | (go_at_call 51; ((with_reducible refine (one_any x.i x.A x.n x.c x.G x.gn x.gc x.P x.pn x.pc _ (HX.out.ra.below HA.out) (HX.out.rg.below HA.out) (HX.out.rp.below HA.out) HX.out.ok HMY.out).mono ?_); rintro e w3 ⟨B3, m3, c3, rfl, hm3, ho3, hb3⟩; have hm3l : m3 ≤ 604 := (by rw [hm3.out]; exact itemL_le HMY.out); have HO4 := Lib.hid ((HOU.out.below HA.out).below hb3)))
        | (at_builtin; (refine wpList_app slU8 rfl _ _ rfl w.heap.size B m c' (bys (itsL (itm (xs.take k)))) rfl HO4.out.own B3 m3 c3 (bys (itemL x.i)) rfl (by rw [bys_length, Nat.mul_one, hm3.out]) (Rd.own ho3) (bys_one _) (by omega) HO4.out.b.size ?_; intro B4 c4 w4 ho4 hg4 hA4; rw [bys_append] at ho4; have HO5 := Lib.hid (HO4.out.app ho4 hg4); clear ho4 hg4 hA4)))
      rw [HLT.out] at HO5
      refine ⟨⟨k + 1, m + m3, B4, c4, rfl, rfl, by omega, ?_, ?_, ?_, HO5⟩, by simp [intOf]; omega⟩
      · have h1 := HO5.out.own.1
        rw [bys_length] at h1
        have h2 := HLE.out
        omega
      · show _ = _
        rw [← HLT.out, List.length_append, ← HM.out, ← hm3.out]
      · show _ = _
        rw [HT.out, allG_snoc HG.out, HMY.out]
    · have e1 : xs.take k = xs := List.take_of_length_le (by rw [HL.out]; omega)
      rw [e1] at HM HOU
      go_wp2
      go_ret2
      exact ⟨B, m, c', by rw [HE.out]; rfl, (by rw [HQ.out.2.2]; exact HM), by rw [HQ.out.2.2]; exact HOU.out.own, HOU.out.b⟩
set_option maxRecDepth 20000 in
set_option maxHeartbeats 4000000 in
theorem rputI_any (A : Option Addr) (n c : Nat) (xs : List Sl) (w : World) (h : Its w A n c xs) (hn : n ≤ 140737488351232) :
    Calls Try.prog 31 #[.slice A n c] w fun e w' => ∃ B m c', e = .returned (.tuple #[.slice B m c', .int .i64 (putsE (itm xs) : Nat)]) ∧ Hid (m = (putsL (itm xs)).length) ∧ w'.ownsRow w.heap.size 5 1 (.slice B m c') m (bys (putsL (itm xs))) ∧ Below w.heap.size w w' := by
  have HI := Lib.hid h
  have HL := Lib.hid h.len
  have HIL : Hid ((itm xs).length = n) := by show _ = _; rw [itm_len]; exact h.len
  have m1 := h.nc
  have m2 := h.cm
  unfold maxLen at m2
  have hw := Below.refl w.heap.size w
  clear h
  by_cases h1 : n < 1
  · have HE : Hid (putsE (itm xs) = 1) := by
      show _ = _
      have : itm xs = [] := List.eq_nil_of_length_eq_zero (by rw [HIL.out]; omega)
      rw [this]; rfl
    have HP : Hid (putsL (itm xs) = []) := putsL_no (by rw [HE.out]; decide)
    go_enter Try.func31, Try.ntmps31
    go_wp2
    go_ret2
    exact ⟨none, 0, 0, by rw [HE.out]; rfl, (by rw [HP.out]; rfl), by rw [HP.out]; exact World.ownsRow_nil _ _ _ _, hw⟩
  by_cases h8 : 8 < n
  · have HE : Hid (putsE (itm xs) = 1) := by show _ = _; unfold putsE; rw [if_pos (.inl (by rw [HIL.out]; exact h8))]
    have HP : Hid (putsL (itm xs) = []) := putsL_no (by rw [HE.out]; decide)
    go_enter Try.func31, Try.ntmps31
    go_wp2
    go_ret2
    exact ⟨none, 0, 0, by rw [HE.out]; rfl, (by rw [HP.out]; rfl), by rw [HP.out]; exact World.ownsRow_nil _ _ _ _, hw⟩
  go_enter Try.func31, Try.ntmps31
  go_wp2
  go_loopw [4, 17] (fun s4 ix wr => ∃ (k m : Nat) (B : Option Addr) (c' : Nat), ix = .int .i64 k ∧ s4 = .slice B m c' ∧ k ≤ n ∧ m ≤ 604 * k ∧ Hid (m = (itsL (itm (xs.take k))).length) ∧ Hid (allG (itm (xs.take k)) = true) ∧ Hid (OutS w wr B m c' (itsL (itm (xs.take k))))) (fun _ ix _ => n - (intOf ix).toNat)
  case atStart => exact ⟨0, 0, none, 0, rfl, rfl, Nat.zero_le _, by omega, rfl, rfl, ⟨World.ownsRow_nil _ _ _ _, hw⟩⟩
  case round =>
    obtain ⟨k, m, B, c', rfl, rfl, hkn, hm, HM, HG, HOU⟩ := hrel
    have HB := Lib.hid HOU.out.b
    by_cases hlt : k < n
    · have hk : k < xs.length := by rw [HL.out]; exact hlt
      obtain ⟨ad, rfl, a0, a1, a2, a3, a4, a5, a6, a7, a8, a9⟩ := rd_sl (HI.out.below HB.out).rd hk
      have HX := Lib.hid ((HI.out.below HB.out).rows _ (List.getElem_mem hk))
      have HT := Lib.hid (itm_take hk)
      have HK : Hid ((itm xs)[k]? = some (xs[k]).i) := by show _ = _; simp [itm, hk]
      generalize xs[k] = x at *
      have HXL : Hid (x.i.go.length = x.gn ∧ x.i.pr.length = x.pn) := ⟨by have := HX.out.rg.len; rw [u32s_length] at this; omega, by have := HX.out.rp.len; rw [rowP_length] at this; omega⟩
      have HA := Lib.hid ((Below.refl wr.heap.size wr).alloc (Nat.le_refl _) (.cells #[.int .i64 x.i.k, .int .u32 x.i.s, .int .u64 x.i.ntp, .int .u32 x.i.tm, .int .u32 x.i.pk, .int .u32 x.i.oc, .slice x.A x.n x.c, .slice x.G x.gn x.gc, .int .u32 x.i.me, .slice x.P x.pn x.pc] 64))
      have HAW := Lib.hid (HB.out.alloc HB.out.size (.cells #[.int .i64 x.i.k, .int .u32 x.i.s, .int .u64 x.i.ntp, .int .u32 x.i.tm, .int .u32 x.i.pk, .int .u32 x.i.oc, .slice x.A x.n x.c, .slice x.G x.gn x.gc, .int .u32 x.i.me, .slice x.P x.pn x.pc] 64))
      have HAX := Lib.hid (blk_alloc wr (.cells #[.int .i64 x.i.k, .int .u32 x.i.s, .int .u64 x.i.ntp, .int .u32 x.i.tm, .int .u32 x.i.pk, .int .u32 x.i.oc, .slice x.A x.n x.c, .slice x.G x.gn x.gc, .int .u32 x.i.me, .slice x.P x.pn x.pc] 64))
      cases hmy : mayG x.i
      · have HE : Hid (putsE (itm xs) = 1) := by
          show _ = _
          unfold putsE
          rw [if_pos (.inr (by unfold sizG; rw [allG_take HK.out hmy]; rfl))]
        have HP : Hid (putsL (itm xs) = []) := putsL_no (by rw [HE.out]; decide)
        go_wp2_with (go_at_call 33; ((with_reducible refine (rmayI_any x.i x.A x.n x.c x.G x.gn x.gc x.P x.pn x.pc _ (HX.out.ra.below HA.out) HXL.out.1 HXL.out.2).mono ?_); rintro e w2 ⟨rfl, hb2⟩; rw [hmy]; have hw2 := HAW.out.trans (hb2.mono HAW.out.size)))
        go_ret2
        exact ⟨none, 0, 0, by rw [HE.out]; rfl, (by rw [HP.out]; rfl), by rw [HP.out]; exact World.ownsRow_nil _ _ _ _, hw2⟩
      · have HMY := Lib.hid hmy
        clear hmy
        have HLT : Hid (itsL (itm (xs.take k)) ++ itemL x.i = itsL (itm (xs.take (k + 1)))) := by show _ = _; rw [HT.out, itsL_snoc]
        go_wp2_with (first
          | (go_at_call 33; ((with_reducible refine (rmayI_any x.i x.A x.n x.c x.G x.gn x.gc x.P x.pn x.pc _ (HX.out.ra.below HA.out) HXL.out.1 HXL.out.2).mono ?_); rintro e w2 ⟨rfl, hb2⟩; rw [HMY.out]; have HA2 := Lib.hid (HA.out.trans (hb2.mono HA.out.size)); obtain ⟨x0, x1, x2, x3, x4, x5, x6, x7, x8, x9⟩ := ten_cells (blk_below HAX.out hb2)))
          | (go_at_call 52; ((with_reducible refine (item_any x.i x.A x.n x.c x.G x.gn x.gc x.P x.pn x.pc _ (HX.out.ra.below HA2.out) (HX.out.rg.below HA2.out) (HX.out.rp.below HA2.out) HX.out.ok (mayG_few HMY.out)).mono ?_); rintro e w3 ⟨B3, m3, c3, rfl, hm3, ho3, hb3⟩; have hm3l : m3 ≤ 604 := (by rw [hm3.out]; exact itemL_le HMY.out); have HO4 := Lib.hid ((HOU.out.below HA2.out).below hb3)))
          | (at_builtin; (refine wpList_app slU8 rfl _ _ rfl w.heap.size B m c' (bys (itsL (itm (xs.take k)))) rfl HO4.out.own B3 m3 c3 (bys (itemL x.i)) rfl (by rw [bys_length, Nat.mul_one, hm3.out]) (Rd.own ho3) (bys_one _) (by omega) HO4.out.b.size ?_; intro B4 c4 w4 ho4 hg4 hA4; rw [bys_append] at ho4; have HO5 := Lib.hid (HO4.out.app ho4 hg4); clear ho4 hg4 hA4)))
        rw [HLT.out] at HO5
        refine ⟨⟨k + 1, m + m3, B4, c4, rfl, rfl, by omega, by omega, ?_, ?_, HO5⟩, by simp [intOf]; omega⟩
        · show _ = _
          rw [← HLT.out, List.length_append, ← HM.out, ← hm3.out]
        · show _ = _
          rw [HT.out, allG_snoc HG.out, HMY.out]
    · have e1 : xs.take k = xs := List.take_of_length_le (by rw [HL.out]; omega)
      rw [e1] at HM HOU HG
      have HS : Hid (sizG (itm xs) = m) := by show _ = _; unfold sizG; rw [if_pos HG.out, HM.out]
      have hm4 : 4 ≤ m := by
        rw [HM.out]
        refine itsL_pos ?_
        intro hn0
        have := HIL.out
        rw [hn0] at this
        simp at this
        omega
      by_cases h5 : 512 < m
      · have HE : Hid (putsE (itm xs) = 5) := by show _ = _; unfold putsE; rw [HS.out, if_neg (by rw [HIL.out]; omega), if_pos h5]
        have HP : Hid (putsL (itm xs) = []) := putsL_no (by rw [HE.out]; decide)
        go_wp2
        go_ret2
        exact ⟨none, 0, 0, by rw [HE.out]; rfl, (by rw [HP.out]; rfl), by rw [HP.out]; exact World.ownsRow_nil _ _ _ _, HOU.out.b⟩
      · have HE : Hid (putsE (itm xs) = 0) := by show _ = _; unfold putsE; rw [HS.out, if_neg (by rw [HIL.out]; omega), if_neg h5]
        have HP : Hid (putsL (itm xs) = itsL (itm xs)) := by show _ = _; unfold putsL; rw [if_pos HE.out]
        go_wp2
        go_ret2
        exact ⟨B, m, c', by rw [HE.out]; rfl, (by rw [HP.out]; exact HM), by rw [HP.out]; exact HOU.out.own, HOU.out.b⟩
end Go.Proofs.Ytaomdinddccpeaa
