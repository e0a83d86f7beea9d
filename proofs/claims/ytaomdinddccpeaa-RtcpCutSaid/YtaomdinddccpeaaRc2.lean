/-
What one of package rtcp writes: an item's bytes.
-/
import Derived.Test.YtaomdinddccpeaaRc1
import Derived.Test.YtaomdinddccpeaaFeed3
import Derived.Test.YtaomdinddccpeaaRep3
import Derived.Test.YtaomdinddccpeaaSameItm
namespace Go.Proofs.Ytaomdinddccpeaa
set_option linter.unusedVariables false
set_option linter.unusedSimpArgs false
open Go Go.RowKit

theorem fappend_fit (X : Option Addr) (n c : Nat) (l : List UInt8) (s num : Nat) (w : World) (base : Nat) (hown : w.ownsRow base 5 1 (.slice X n c) n (bys l)) (hb : n + 8 ≤ 140737488355328) (h1 : 1 ≤ s ∧ s ≤ 8) (h2 : num < 256 ^ s) :
    Calls Try.prog 73 #[.slice X n c, .int .i64 s, .int .u64 num] w fun e w' => ∃ A c', e = .returned (.slice A (n + s) c') ∧
      w'.ownsRow w.heap.size 5 1 (.slice A (n + s) c') (n + s) (bys (l ++ enc s num)) ∧ Below w.heap.size w w' := by
  have hl : l.length = n := by have := hown.1; rw [bys_length] at this; omega
  have hf : fitsB (s : Int) num = true := by rw [fitsB_iff]; exact ⟨by omega, by omega, by rw [Int.toNat_natCast]; exact h2⟩
  have h3 : num ≤ 18446744073709551615 := by
    have := pow_le_8 s (by omega)
    rw [Int.toNat_natCast] at this
    omega
  have e1 : appL l s ((num : Int).toNat) = l ++ enc s num := by rw [Int.toNat_natCast]; unfold appL; rw [if_pos hf, Int.toNat_natCast]
  refine (append_any X n c l s num w hl hb (own_nil hown) (Rd.own hown) (by omega) (by omega) (by omega)).mono ?_
  rintro e w' ⟨A, m, c', rfl, hm, ho, hbl⟩
  rw [e1] at ho
  rw [Hid, e1, List.length_append, enc_length, hl] at hm
  subst hm
  exact ⟨A, c', rfl, ho, hbl⟩
theorem fapp_S (w0 w : World) (it : Obj) (B : Option Addr) (m c : Nat) (L : List UInt8) (h : BodyS w0 w it B m c L) (hm : m ≤ 2000) (S : Int) (s : Nat) (hS : S = s) (Z : Int) (z : Nat) (hZ : Z = z) (h1 : 1 ≤ s ∧ s ≤ 8) (h2 : z < 256 ^ s) (m2 : Nat) (hm2 : m + s = m2) :
    Calls Try.prog 73 #[.slice B m c, .int .i64 S, .int .u64 Z] w fun e w' => ∃ B' c', e = .returned (.slice B' m2 c') ∧ BodyS w0 w' it B' m2 c' (L ++ enc s z) ∧ Below w.heap.size w w' := by
  subst hS hZ hm2
  refine (fappend_fit B m c L s z w w0.heap.size h.own (by omega) h1 h2).mono ?_
  rintro e w' ⟨B', c', rfl, ho, hb⟩
  exact ⟨B', c', rfl, ⟨blk_below h.it hb, own_base ho h.b.size, h.b.trans (hb.mono h.b.size)⟩, hb⟩
theorem or128i : ∀ k : Nat, k < 16 → bits .or .i64 128 (k : Int) = ((128 + k : Nat) : Int) := by
  have h : (List.range 16).all (fun k => decide (bits .or .i64 128 (k : Int) = ((128 + k : Nat) : Int))) = true := by decide +kernel
  intro k hk
  exact of_decide_eq_true (List.all_eq_true.1 h k (List.mem_range.2 hk))
theorem two_lit (w : World) (it : Obj) (x y : UInt8) (X Y : Int) (hX : X = x.toNat) (hY : Y = y.toNat) : BodyS w ((w.alloc it).alloc (.cells #[.int .u8 X, .int .u8 Y] 5)) it (some ⟨w.heap.size + 1, 0, none⟩) 2 2 [x, y] := by
  subst hX hY
  have h1 := blk_alloc w it
  have hb := (Below.refl (w.alloc it).heap.size (w.alloc it)).alloc (Nat.le_refl _) (.cells #[.int .u8 x.toNat, .int .u8 y.toNat] 5)
  refine ⟨blk_below h1 hb, ?_, ((Below.refl w.heap.size w).alloc (Nat.le_refl _) it).trans (hb.mono (by simp))⟩
  have := World.ownsRow_lit (base := w.heap.size) (e := 5) (size := 1) (w.alloc it) #[.int .u8 x.toNat, .int .u8 y.toNat] 2 (by simp) (by unfold maxLen; omega) rfl
  simpa [bys, u8v] using this
set_option maxRecDepth 20000 in
set_option maxHeartbeats 8000000 in
theorem one_203 (i : Itm) (A : Option Addr) (n c : Nat) (G : Option Addr) (gn gc : Nat) (P : Option Addr) (pn pc : Nat) (w : World) (ra : Row w A n c 7 28 (rowK i.bl)) (rg : Row w G gn gc 1 4 (u32s i.go)) (rp : Row w P pn pc 2 4 (rowP i.pr)) (ok : i.Ok) (hm : mayG i = true) (hk : i.k = 203) :
    Calls Try.prog 51 #[.agg #[.int .i64 i.k, .int .u32 i.s, .int .u64 i.ntp, .int .u32 i.tm, .int .u32 i.pk, .int .u32 i.oc, .slice A n c, .slice G gn gc, .int .u32 i.me, .slice P pn pc]] w fun e w' => ∃ B m c', e = .returned (.slice B m c') ∧ Hid (m = (itemL i).length) ∧ w'.ownsRow w.heap.size 5 1 (.slice B m c') m (bys (itemL i)) ∧ Below w.heap.size w w' := by
  have hs : 1 ≤ i.go.length ∧ i.go.length ≤ 15 ∧ i.pr = [] ∧ itemL i = [UInt8.ofNat (128 + i.go.length), 203] ++ (enc 2 i.go.length ++ foursL i.go) := by
    rcases item_shape hm (by rw [hk]; rfl) with ⟨k, c1, c2, hi, hl⟩ | ⟨k, c1, c2, hi, hl⟩ | ⟨k, hi, hl⟩
    · exact ⟨c1, c2, by rw [hi], hl⟩
    · omega
    · omega
  have HGL : Hid (i.go.length = gn) := by have := rg.len; rw [u32s_length] at this; show _ = _; omega
  have HPL : Hid (i.pr.length = pn) := by have := rp.len; rw [rowP_length] at this; show _ = _; omega
  have m2 := rg.nc
  have m3 := rp.nc
  have m5 := rg.cm
  have m6 := rp.cm
  unfold maxLen at m5 m6
  have HRG := Lib.hid rg
  have HRP := Lib.hid rp
  have HO := Lib.hid ok
  obtain ⟨h1, h2, h3, h4⟩ := hs
  rw [HGL.out] at h1 h2 h4
  have hp0 : pn = 0 := by rw [← HPL.out, h3]; rfl
  subst hp0

  have HI := Lib.hid h4
  have o1 : bits .or .i64 128 (gn : Int) = ((128 + gn : Nat) : Int) := or128i gn (by omega)
  have HK := Lib.hid hk
  have H0 := Lib.hid (two_lit w (.cells #[.int .i64 i.k, .int .u32 i.s, .int .u64 i.ntp, .int .u32 i.tm, .int .u32 i.pk, .int .u32 i.oc, .slice A n c, .slice G gn gc, .int .u32 i.me, .slice P 0 pc] 64) (UInt8.ofNat (128 + gn)) 203 (bits .or .i64 128 (gn : Int) % 256) 203 (by rw [o1, UInt8.toNat_ofNat']; omega) rfl)
  have hz1 : ((4 : Int) + 4 * (gn : Int)) / 4 - 1 = (gn : Nat) := by omega
  have HZ1 := Lib.hid hz1
  rw [hk] at H0 ⊢
  clear ra rg rp ok hm h3 h4 hk o1 hz1
  go_enter Try.func51, Try.ntmps51
  go_wp2_with (first
    | (go_at_call 74; ((with_reducible refine (rcsize_any 203 gn _ ((4 + 4 * gn : Nat) : Int) (by omega) (by unfold szK; rw [if_pos rfl]) _ (by omega)).mono ?_); rintro e w2 ⟨rfl, rfl⟩))
    | (go_at_call 73; go_loud ((with_reducible refine (fapp_S w _ _ _ 2 _ _ H0.out (by omega) 2 2 rfl _ gn HZ1.out (by omega) (by omega) 4 rfl).mono ?_); rintro e w3 ⟨B3, c3, rfl, h, hb⟩; have HS0 := Lib.hid h; clear h; obtain ⟨x0, x1, x2, x3, x4, x5, x6, x7, x8, x9⟩ := ten_cells HS0.out.it)))
  go_loopw [3, 64] (fun s3 ix wr => ∃ (k m : Nat) (B : Option Addr) (c' : Nat), ix = .int .i64 k ∧ s3 = .slice B m c' ∧ k ≤ gn ∧ m = 4 + 4 * k ∧ Hid (BodyS w wr (.cells #[.int .i64 203, .int .u32 i.s, .int .u64 i.ntp, .int .u32 i.tm, .int .u32 i.pk, .int .u32 i.oc, .slice A n c, .slice G gn gc, .int .u32 i.me, .slice P 0 pc] 64) B m c' (([UInt8.ofNat (128 + gn), 203] ++ enc 2 gn) ++ foursL (i.go.take k)))) (fun _ ix _ => gn - (intOf ix).toNat)
  case atStart => exact ⟨0, 4, B3, c3, rfl, rfl, Nat.zero_le _, by omega, by simpa [foursL] using HS0⟩
  case round =>
    obtain ⟨k, m, B, c', rfl, rfl, hkn, hmk, HSk⟩ := hrel
    have hmle : m ≤ 500 := by omega
    have HMK := Lib.hid hmk
    clear hmk
    by_cases hlt : k < gn
    · have hk : k < i.go.length := by rw [HGL.out]; exact hlt
      obtain ⟨ad, rfl, a0⟩ := rd_u32 (HRG.out.rd.below HSk.out.b) hk
      have hbk := HO.out.go _ (List.getElem_mem hk)
      have HST := Lib.hid (foursL_take i.go hk)
      generalize i.go[k] = z at *
      go_wp2_with (go_at_call 73; (with_reducible refine (fapp_S w _ _ _ m _ _ HSk.out (by omega) 4 4 rfl _ z rfl (by omega) (by omega) (m + 4) rfl).mono ?_); rintro e w2 ⟨B2, c2, rfl, h, hb⟩; have HS2 := Lib.hid h; clear h)
      exact ⟨⟨k + 1, m + 4, B2, c2, rfl, rfl, by omega, by rw [HMK.out]; omega, by rw [HST.out, ← List.append_assoc]; exact HS2⟩, by simp [intOf]; omega⟩
    · have e1 : i.go.take k = i.go := List.take_of_length_le (by rw [HGL.out]; omega)
      rw [e1] at HSk
      clear e1 HMK
      obtain ⟨x0, x1, x2, x3, x4, x5, x6, x7, x8, x9⟩ := ten_cells HSk.out.it
      go_wp2
      go_loopw [3, 76] (fun s3 ix wr => s3 = .slice B m c' ∧ ix = .int .i64 0 ∧ Hid (BodyS w wr (.cells #[.int .i64 203, .int .u32 i.s, .int .u64 i.ntp, .int .u32 i.tm, .int .u32 i.pk, .int .u32 i.oc, .slice A n c, .slice G gn gc, .int .u32 i.me, .slice P 0 pc] 64) B m c' (([UInt8.ofNat (128 + gn), 203] ++ enc 2 gn) ++ foursL i.go))) (fun _ _ _ => 0)
      case atStart => exact ⟨rfl, rfl, HSk⟩
      case round =>
        obtain ⟨rfl, rfl, HSk⟩ := hrel
        go_wp2
        go_ret
        have hL : [UInt8.ofNat (128 + gn), 203] ++ enc 2 gn ++ foursL i.go = itemL i := by rw [HI.out]; simp only [List.append_assoc]
        rw [hL] at HSk
        exact ⟨B, m, c', rfl, (by have := HSk.out.own.1; rw [bys_length] at this; show _ = _; omega), HSk.out.own, HSk.out.b⟩
set_option maxRecDepth 20000 in
set_option maxHeartbeats 8000000 in
theorem one_205 (i : Itm) (A : Option Addr) (n c : Nat) (G : Option Addr) (gn gc : Nat) (P : Option Addr) (pn pc : Nat) (w : World) (ra : Row w A n c 7 28 (rowK i.bl)) (rg : Row w G gn gc 1 4 (u32s i.go)) (rp : Row w P pn pc 2 4 (rowP i.pr)) (ok : i.Ok) (hm : mayG i = true) (hk : i.k = 205) :
    Calls Try.prog 51 #[.agg #[.int .i64 i.k, .int .u32 i.s, .int .u64 i.ntp, .int .u32 i.tm, .int .u32 i.pk, .int .u32 i.oc, .slice A n c, .slice G gn gc, .int .u32 i.me, .slice P pn pc]] w fun e w' => ∃ B m c', e = .returned (.slice B m c') ∧ Hid (m = (itemL i).length) ∧ w'.ownsRow w.heap.size 5 1 (.slice B m c') m (bys (itemL i)) ∧ Below w.heap.size w w' := by
  have hs : 1 ≤ i.pr.length ∧ i.pr.length ≤ 16 ∧ i.go = [] ∧ itemL i = [129, 205] ++ (enc 2 (2 + i.pr.length) ++ (enc 4 i.s ++ (enc 4 i.me ++ prsL i.pr))) := by
    rcases item_shape hm (by rw [hk]; rfl) with ⟨k, c1, c2, hi, hl⟩ | ⟨k, c1, c2, hi, hl⟩ | ⟨k, hi, hl⟩
    · omega
    · exact ⟨c1, c2, by rw [hi], hl⟩
    · omega
  have HGL : Hid (i.go.length = gn) := by have := rg.len; rw [u32s_length] at this; show _ = _; omega
  have HPL : Hid (i.pr.length = pn) := by have := rp.len; rw [rowP_length] at this; show _ = _; omega
  have m2 := rg.nc
  have m3 := rp.nc
  have m5 := rg.cm
  have m6 := rp.cm
  unfold maxLen at m5 m6
  have HRG := Lib.hid rg
  have HRP := Lib.hid rp
  have HO := Lib.hid ok
  obtain ⟨h1, h2, h3, h4⟩ := hs
  have hg0 : gn = 0 := by rw [← HGL.out, h3]; rfl
  subst hg0
  rw [HPL.out] at h1 h2 h4
  have HI := Lib.hid h4
  have HK := Lib.hid hk
  have H0 := Lib.hid (two_lit w (.cells #[.int .i64 i.k, .int .u32 i.s, .int .u64 i.ntp, .int .u32 i.tm, .int .u32 i.pk, .int .u32 i.oc, .slice A n c, .slice G 0 gc, .int .u32 i.me, .slice P pn pc] 64) 129 205 129 205 rfl rfl)
  have hz1 : ((12 : Int) + 4 * (pn : Int)) / 4 - 1 = (2 + pn : Nat) := by omega
  have HZ1 := Lib.hid hz1
  clear hz1
  have oks : i.s < 4294967296 := HO.out.s
  have okm : i.me < 4294967296 := HO.out.me
  rw [hk] at H0 ⊢
  clear ra rg rp ok hm h3 h4 hk
  go_enter Try.func51, Try.ntmps51
  go_upto_if 51 with (first
    | (go_at_call 74; ((with_reducible refine (rcsize_any 205 pn _ ((12 + 4 * pn : Nat) : Int) (by omega) (by unfold szK; rw [if_neg (by decide), if_pos rfl]) _ (by omega)).mono ?_); rintro e w2 ⟨rfl, rfl⟩))
    | (go_at_call 73; go_loud ((with_reducible refine (fapp_S w _ _ _ 2 _ _ H0.out (by omega) 2 2 rfl _ (2 + pn) HZ1.out (by omega) (by omega) 4 rfl).mono ?_); rintro e w3 ⟨B3, c3, rfl, h, hb⟩; have HS0 := Lib.hid h; clear h; obtain ⟨x0, x1, x2, x3, x4, x5, x6, x7, x8, x9⟩ := ten_cells HS0.out.it)))
  go_cut [3] from 52 to 60 (fun s3 wx => ∃ B c', s3 = .slice B 12 c' ∧ Hid (BodyS w wx (.cells #[.int .i64 205, .int .u32 i.s, .int .u64 i.ntp, .int .u32 i.tm, .int .u32 i.pk, .int .u32 i.oc, .slice A n c, .slice G 0 gc, .int .u32 i.me, .slice P pn pc] 64) B 12 c' (((([129, 205] ++ enc 2 (2 + pn))) ++ enc 4 i.s) ++ enc 4 i.me)))
  case first =>
    go_wp2
    refine region_planA (calmB_sound _) (.fork [0, 1, 5] (.check [6] 7 (.leaf [7, 2, 3, 4, 8, 9])) (.check [2] 3 (.fork [3] (.check [6] 7 (.leaf [7, 4, 8, 9])) (.leaf [4, 6, 7, 8, 9])))) (by kernel_rfl) (by kernel_rfl) (by kernel_rfl) ?_
    have HSd := Lib.hid (HS0.out.below ((Below.refl _ _).drew))
    generalize w3.drew = wd at *
    clear x0 x1 x2 x3 x4 x5 x6 x7 x8 x9
    obtain ⟨x0, x1, x2, x3, x4, x5, x6, x7, x8, x9⟩ := ten_cells HSd.out.it
    refine wpPlan_fork fun P1 hP1 => ?_
    simp only [List.filterMap_cons, List.filterMap_nil, List.getElem?_toArray, List.getElem?_cons_succ, List.getElem?_cons_zero]
    change wpList _ _ _ [_, _, _] _ _
    go_wp2
    refine hP1 _ _ ?_ ?_
    · refine wpPlan_check fun P2 hP2 => ?_
      simp only [List.filterMap_cons, List.filterMap_nil, List.getElem?_toArray, List.getElem?_cons_succ, List.getElem?_cons_zero]
      change wpList _ _ _ [_] _ _
      go_wp2
      refine hP2 _ _ (by first | exact fun _ => .inl ⟨_, _, _, _, rfl, rfl⟩ | exact fun _ => ⟨_, _, rfl⟩) ?_
      refine wpPlan_leaf fun P3 hP3 => ?_
      simp only [List.filterMap_cons, List.filterMap_nil, List.getElem?_toArray, List.getElem?_cons_succ, List.getElem?_cons_zero]
      change wpList _ _ _ [_, _, _, _, _, _] _ _
      go_wp2_with (first | (go_at_call 73; ((with_reducible refine (fapp_S w _ _ _ 4 _ _ HSd.out (by omega) 4 4 rfl _ i.s rfl (by omega) (by omega) 8 rfl).mono ?_); rintro e w4 ⟨B4, c4, rfl, h, hb⟩; have HS4 := Lib.hid h; clear h; obtain ⟨x0, x1, x2, x3, x4, x5, x6, x7, x8, x9⟩ := ten_cells HS4.out.it)) | (go_at_call 73; ((with_reducible refine (fapp_S w _ _ _ 8 _ _ HS4.out (by omega) 4 4 rfl _ i.me rfl (by omega) (by omega) 12 rfl).mono ?_); rintro e w5 ⟨B5, c5, rfl, h, hb⟩; have HS5 := Lib.hid h; clear h)))
      go_meet
      exact ⟨B5, c5, rfl, HS5⟩
    · refine wpPlan_check fun P4 hP4 => ?_
      simp only [List.filterMap_cons, List.filterMap_nil, List.getElem?_toArray, List.getElem?_cons_succ, List.getElem?_cons_zero]
      change wpList _ _ _ [_] _ _
      go_wp2
      refine hP4 _ _ (by first | exact fun _ => .inl ⟨_, _, _, _, rfl, rfl⟩ | exact fun _ => ⟨_, _, rfl⟩) ?_
      refine wpPlan_fork fun P5 hP5 => ?_
      simp only [List.filterMap_cons, List.filterMap_nil, List.getElem?_toArray, List.getElem?_cons_succ, List.getElem?_cons_zero]
      change wpList _ _ _ [_] _ _
      go_wp2
      refine hP5 _ _ ?_ ?_
      · refine wpPlan_check fun P6 hP6 => ?_
        simp only [List.filterMap_cons, List.filterMap_nil, List.getElem?_toArray, List.getElem?_cons_succ, List.getElem?_cons_zero]
        change wpList _ _ _ [_] _ _
        go_wp2
        refine hP6 _ _ (by first | exact fun _ => .inl ⟨_, _, _, _, rfl, rfl⟩ | exact fun _ => ⟨_, _, rfl⟩) ?_
        refine wpPlan_leaf fun P7 hP7 => ?_
        simp only [List.filterMap_cons, List.filterMap_nil, List.getElem?_toArray, List.getElem?_cons_succ, List.getElem?_cons_zero]
        change wpList _ _ _ [_, _, _, _] _ _
        go_wp2_with (first | (go_at_call 73; ((with_reducible refine (fapp_S w _ _ _ 4 _ _ HSd.out (by omega) 4 4 rfl _ i.s rfl (by omega) (by omega) 8 rfl).mono ?_); rintro e w4 ⟨B4, c4, rfl, h, hb⟩; have HS4 := Lib.hid h; clear h; obtain ⟨x0, x1, x2, x3, x4, x5, x6, x7, x8, x9⟩ := ten_cells HS4.out.it)) | (go_at_call 73; ((with_reducible refine (fapp_S w _ _ _ 8 _ _ HS4.out (by omega) 4 4 rfl _ i.me rfl (by omega) (by omega) 12 rfl).mono ?_); rintro e w5 ⟨B5, c5, rfl, h, hb⟩; have HS5 := Lib.hid h; clear h)))
        go_meet
        exact ⟨B5, c5, rfl, HS5⟩
      · refine wpPlan_leaf fun P8 hP8 => ?_
        simp only [List.filterMap_cons, List.filterMap_nil, List.getElem?_toArray, List.getElem?_cons_succ, List.getElem?_cons_zero]
        change wpList _ _ _ [_, _, _, _, _] _ _
        go_wp2_with (first | (go_at_call 73; ((with_reducible refine (fapp_S w _ _ _ 4 _ _ HSd.out (by omega) 4 4 rfl _ i.s rfl (by omega) (by omega) 8 rfl).mono ?_); rintro e w4 ⟨B4, c4, rfl, h, hb⟩; have HS4 := Lib.hid h; clear h; obtain ⟨x0, x1, x2, x3, x4, x5, x6, x7, x8, x9⟩ := ten_cells HS4.out.it)) | (go_at_call 73; ((with_reducible refine (fapp_S w _ _ _ 8 _ _ HS4.out (by omega) 4 4 rfl _ i.me rfl (by omega) (by omega) 12 rfl).mono ?_); rintro e w5 ⟨B5, c5, rfl, h, hb⟩; have HS5 := Lib.hid h; clear h)))
        go_meet
        exact ⟨B5, c5, rfl, HS5⟩
  case rest =>
  clear HS0 x0 x1 x2 x3 x4 x5 x6 x7 x8 x9
  obtain ⟨B3, c3, rfl, HS0⟩ := hcut
  obtain ⟨x0, x1, x2, x3, x4, x5, x6, x7, x8, x9⟩ := ten_cells HS0.out.it
  go_wp2
  go_loopw [3, 64] (fun s3 ix wr => s3 = .slice B3 12 c3 ∧ ix = .int .i64 0 ∧ Hid (BodyS w wr (.cells #[.int .i64 205, .int .u32 i.s, .int .u64 i.ntp, .int .u32 i.tm, .int .u32 i.pk, .int .u32 i.oc, .slice A n c, .slice G 0 gc, .int .u32 i.me, .slice P pn pc] 64) B3 12 c3 (((([129, 205] ++ enc 2 (2 + pn))) ++ enc 4 i.s) ++ enc 4 i.me))) (fun _ _ _ => 0)
  case atStart => exact ⟨rfl, rfl, HS0⟩
  case round =>
    obtain ⟨rfl, rfl, HSk⟩ := hrel
    clear HS0 x0 x1 x2 x3 x4 x5 x6 x7 x8 x9
    obtain ⟨x0, x1, x2, x3, x4, x5, x6, x7, x8, x9⟩ := ten_cells HSk.out.it
    go_wp2
    go_loopw [3, 76] (fun s3 ix wr => ∃ (k m : Nat) (B : Option Addr) (c' : Nat), ix = .int .i64 k ∧ s3 = .slice B m c' ∧ k ≤ pn ∧ m = 12 + 4 * k ∧ Hid (BodyS w wr (.cells #[.int .i64 205, .int .u32 i.s, .int .u64 i.ntp, .int .u32 i.tm, .int .u32 i.pk, .int .u32 i.oc, .slice A n c, .slice G 0 gc, .int .u32 i.me, .slice P pn pc] 64) B m c' ((((([129, 205] ++ enc 2 (2 + pn))) ++ enc 4 i.s) ++ enc 4 i.me) ++ prsL (i.pr.take k)))) (fun _ ix _ => pn - (intOf ix).toNat)
    case atStart => exact ⟨0, 12, B3, c3, rfl, rfl, Nat.zero_le _, by omega, by simpa [prsL] using HSk⟩
    case round =>
      clear HSk
      obtain ⟨k, m, B, c', rfl, rfl, hkn, hmk, HSk⟩ := hrel
      have hmle : m ≤ 500 := by omega
      have HMK := Lib.hid hmk
      clear hmk x0 x1 x2 x3 x4 x5 x6 x7 x8 x9
      by_cases hlt : k < pn
      · have hk : k < i.pr.length := by rw [HPL.out]; exact hlt
        obtain ⟨ad, rfl, a0, a1⟩ := rd_pr (HRP.out.rd.below HSk.out.b) hk
        obtain ⟨hz1, hz2⟩ := HO.out.pr _ (List.getElem_mem hk)
        have HST := Lib.hid (prsL_take i.pr hk)
        generalize i.pr[k] = z at *
        go_wp2
        refine region_planA (calmB_sound _) (.fork [0, 1, 5] (.check [6] 7 (.leaf [7, 2, 3, 4, 8, 9])) (.check [2] 3 (.fork [3] (.check [6] 7 (.leaf [7, 4, 8, 9])) (.leaf [4, 6, 7, 8, 9])))) (by kernel_rfl) (by kernel_rfl) (by kernel_rfl) ?_
        have hx2 := blk_alloc wr (.cells #[.int .u16 z.1, .int .u16 z.2] 111)
        have HSd := Lib.hid ((HSk.out.alloc (.cells #[.int .u16 z.1, .int .u16 z.2] 111)).below ((Below.refl _ _).drew))
        replace hx2 : ((wr.alloc (.cells #[.int .u16 z.1, .int .u16 z.2] 111)).drew).heap[wr.heap.size]? = _ := hx2
        obtain ⟨y0, y1⟩ := two_cells hx2
        generalize (wr.alloc (.cells #[.int .u16 z.1, .int .u16 z.2] 111)).drew = wd at *
        refine wpPlan_fork fun P1 hP1 => ?_
        simp only [List.filterMap_cons, List.filterMap_nil, List.getElem?_toArray, List.getElem?_cons_succ, List.getElem?_cons_zero]
        change wpList _ _ _ [_, _, _] _ _
        go_wp2
        refine hP1 _ _ ?_ ?_
        · refine wpPlan_check fun P2 hP2 => ?_
          simp only [List.filterMap_cons, List.filterMap_nil, List.getElem?_toArray, List.getElem?_cons_succ, List.getElem?_cons_zero]
          change wpList _ _ _ [_] _ _
          go_wp2
          refine hP2 _ _ (by first | exact fun _ => .inl ⟨_, _, _, _, rfl, rfl⟩ | exact fun _ => ⟨_, _, rfl⟩) ?_
          refine wpPlan_leaf fun P3 hP3 => ?_
          simp only [List.filterMap_cons, List.filterMap_nil, List.getElem?_toArray, List.getElem?_cons_succ, List.getElem?_cons_zero]
          change wpList _ _ _ [_, _, _, _, _, _] _ _
          go_wp2_with (first | (go_at_call 73; ((with_reducible refine (fapp_S w _ _ _ m _ _ HSd.out (by omega) 2 2 rfl _ z.1 rfl (by omega) (by omega) (m + 2) rfl).mono ?_); rintro e w4 ⟨B4, c4, rfl, h, hb⟩; have HS4 := Lib.hid h; clear h; obtain ⟨y0, y1⟩ := two_cells (blk_below hx2 hb))) | (go_at_call 73; ((with_reducible refine (fapp_S w _ _ _ (m + 2) _ _ HS4.out (by omega) 2 2 rfl _ z.2 rfl (by omega) (by omega) (m + 4) rfl).mono ?_); rintro e w5 ⟨B5, c5, rfl, h, hb⟩; have HS5 := Lib.hid h; clear h)))
          exact ⟨⟨k + 1, m + 4, B5, c5, rfl, rfl, by omega, by rw [HMK.out]; omega, by rw [HST.out]; simpa only [List.append_assoc] using HS5⟩, by simp [intOf]; omega⟩
        · refine wpPlan_check fun P4 hP4 => ?_
          simp only [List.filterMap_cons, List.filterMap_nil, List.getElem?_toArray, List.getElem?_cons_succ, List.getElem?_cons_zero]
          change wpList _ _ _ [_] _ _
          go_wp2
          refine hP4 _ _ (by first | exact fun _ => .inl ⟨_, _, _, _, rfl, rfl⟩ | exact fun _ => ⟨_, _, rfl⟩) ?_
          refine wpPlan_fork fun P5 hP5 => ?_
          simp only [List.filterMap_cons, List.filterMap_nil, List.getElem?_toArray, List.getElem?_cons_succ, List.getElem?_cons_zero]
          change wpList _ _ _ [_] _ _
          go_wp2
          refine hP5 _ _ ?_ ?_
          · refine wpPlan_check fun P6 hP6 => ?_
            simp only [List.filterMap_cons, List.filterMap_nil, List.getElem?_toArray, List.getElem?_cons_succ, List.getElem?_cons_zero]
            change wpList _ _ _ [_] _ _
            go_wp2
            refine hP6 _ _ (by first | exact fun _ => .inl ⟨_, _, _, _, rfl, rfl⟩ | exact fun _ => ⟨_, _, rfl⟩) ?_
            refine wpPlan_leaf fun P7 hP7 => ?_
            simp only [List.filterMap_cons, List.filterMap_nil, List.getElem?_toArray, List.getElem?_cons_succ, List.getElem?_cons_zero]
            change wpList _ _ _ [_, _, _, _] _ _
            go_wp2_with (first | (go_at_call 73; ((with_reducible refine (fapp_S w _ _ _ m _ _ HSd.out (by omega) 2 2 rfl _ z.1 rfl (by omega) (by omega) (m + 2) rfl).mono ?_); rintro e w4 ⟨B4, c4, rfl, h, hb⟩; have HS4 := Lib.hid h; clear h; obtain ⟨y0, y1⟩ := two_cells (blk_below hx2 hb))) | (go_at_call 73; ((with_reducible refine (fapp_S w _ _ _ (m + 2) _ _ HS4.out (by omega) 2 2 rfl _ z.2 rfl (by omega) (by omega) (m + 4) rfl).mono ?_); rintro e w5 ⟨B5, c5, rfl, h, hb⟩; have HS5 := Lib.hid h; clear h)))
            exact ⟨⟨k + 1, m + 4, B5, c5, rfl, rfl, by omega, by rw [HMK.out]; omega, by rw [HST.out]; simpa only [List.append_assoc] using HS5⟩, by simp [intOf]; omega⟩
          · refine wpPlan_leaf fun P8 hP8 => ?_
            simp only [List.filterMap_cons, List.filterMap_nil, List.getElem?_toArray, List.getElem?_cons_succ, List.getElem?_cons_zero]
            change wpList _ _ _ [_, _, _, _, _] _ _
            go_wp2_with (first | (go_at_call 73; ((with_reducible refine (fapp_S w _ _ _ m _ _ HSd.out (by omega) 2 2 rfl _ z.1 rfl (by omega) (by omega) (m + 2) rfl).mono ?_); rintro e w4 ⟨B4, c4, rfl, h, hb⟩; have HS4 := Lib.hid h; clear h; obtain ⟨y0, y1⟩ := two_cells (blk_below hx2 hb))) | (go_at_call 73; ((with_reducible refine (fapp_S w _ _ _ (m + 2) _ _ HS4.out (by omega) 2 2 rfl _ z.2 rfl (by omega) (by omega) (m + 4) rfl).mono ?_); rintro e w5 ⟨B5, c5, rfl, h, hb⟩; have HS5 := Lib.hid h; clear h)))
            exact ⟨⟨k + 1, m + 4, B5, c5, rfl, rfl, by omega, by rw [HMK.out]; omega, by rw [HST.out]; simpa only [List.append_assoc] using HS5⟩, by simp [intOf]; omega⟩
      · have e1 : i.pr.take k = i.pr := List.take_of_length_le (by rw [HPL.out]; omega)
        rw [e1] at HSk
        have hL : (((([129, 205] ++ enc 2 (2 + pn))) ++ enc 4 i.s) ++ enc 4 i.me) ++ prsL i.pr = itemL i := by rw [HI.out]; simp only [List.append_assoc]
        rw [hL] at HSk
        clear e1 hL
        go_wp2
        go_ret
        exact ⟨B, m, c', rfl, (by have := HSk.out.own.1; rw [bys_length] at this; show _ = _; omega), HSk.out.own, HSk.out.b⟩
set_option maxRecDepth 20000 in
set_option maxHeartbeats 8000000 in
theorem one_206 (i : Itm) (A : Option Addr) (n c : Nat) (G : Option Addr) (gn gc : Nat) (P : Option Addr) (pn pc : Nat) (w : World) (ra : Row w A n c 7 28 (rowK i.bl)) (rg : Row w G gn gc 1 4 (u32s i.go)) (rp : Row w P pn pc 2 4 (rowP i.pr)) (ok : i.Ok) (hm : mayG i = true) (hk : i.k = 206) :
    Calls Try.prog 51 #[.agg #[.int .i64 i.k, .int .u32 i.s, .int .u64 i.ntp, .int .u32 i.tm, .int .u32 i.pk, .int .u32 i.oc, .slice A n c, .slice G gn gc, .int .u32 i.me, .slice P pn pc]] w fun e w' => ∃ B m c', e = .returned (.slice B m c') ∧ Hid (m = (itemL i).length) ∧ w'.ownsRow w.heap.size 5 1 (.slice B m c') m (bys (itemL i)) ∧ Below w.heap.size w w' := by
  have hs : i.pr = [] ∧ i.pr = [] ∧ i.go = [] ∧ itemL i = [129, 206] ++ (enc 2 2 ++ (enc 4 i.s ++ enc 4 i.me)) := by
    rcases item_shape hm (by rw [hk]; rfl) with ⟨k, c1, c2, hi, hl⟩ | ⟨k, c1, c2, hi, hl⟩ | ⟨k, hi, hl⟩
    · omega
    · omega
    · exact ⟨by rw [hi], by rw [hi], by rw [hi], hl⟩
  have HGL : Hid (i.go.length = gn) := by have := rg.len; rw [u32s_length] at this; show _ = _; omega
  have HPL : Hid (i.pr.length = pn) := by have := rp.len; rw [rowP_length] at this; show _ = _; omega
  have m2 := rg.nc
  have m3 := rp.nc
  have m5 := rg.cm
  have m6 := rp.cm
  unfold maxLen at m5 m6
  have HRG := Lib.hid rg
  have HRP := Lib.hid rp
  have HO := Lib.hid ok
  obtain ⟨h1, h2, h3, h4⟩ := hs
  have hg0 : gn = 0 := by rw [← HGL.out, h3]; rfl
  subst hg0
  have hp0 : pn = 0 := by rw [← HPL.out, h1]; rfl
  subst hp0
  clear h1 h2
  have HI := Lib.hid h4
  have HK := Lib.hid hk
  have H0 := Lib.hid (two_lit w (.cells #[.int .i64 i.k, .int .u32 i.s, .int .u64 i.ntp, .int .u32 i.tm, .int .u32 i.pk, .int .u32 i.oc, .slice A n c, .slice G 0 gc, .int .u32 i.me, .slice P 0 pc] 64) 129 206 129 206 rfl rfl)
  have HZ1 := Lib.hid (show ((2 : Int) : Int) = (2 : Nat) by decide)
  have oks : i.s < 4294967296 := HO.out.s
  have okm : i.me < 4294967296 := HO.out.me
  rw [hk] at H0 ⊢
  clear ra rg rp ok hm h3 h4 hk
  go_enter Try.func51, Try.ntmps51
  go_upto_if 51 with (first
    | (go_at_call 74; ((with_reducible refine (rcsize_any 206 0 _ 12 (by simp) (by decide) _ (by omega)).mono ?_); rintro e w2 ⟨rfl, rfl⟩))
    | (go_at_call 73; go_loud ((with_reducible refine (fapp_S w _ _ _ 2 _ _ H0.out (by omega) 2 2 rfl _ 2 HZ1.out (by omega) (by omega) 4 rfl).mono ?_); rintro e w3 ⟨B3, c3, rfl, h, hb⟩; have HS0 := Lib.hid h; clear h; obtain ⟨x0, x1, x2, x3, x4, x5, x6, x7, x8, x9⟩ := ten_cells HS0.out.it)))
  go_cut [3] from 52 to 60 (fun s3 wx => ∃ B c', s3 = .slice B 12 c' ∧ Hid (BodyS w wx (.cells #[.int .i64 206, .int .u32 i.s, .int .u64 i.ntp, .int .u32 i.tm, .int .u32 i.pk, .int .u32 i.oc, .slice A n c, .slice G 0 gc, .int .u32 i.me, .slice P 0 pc] 64) B 12 c' (((([129, 206] ++ enc 2 2)) ++ enc 4 i.s) ++ enc 4 i.me)))
  case first =>
    go_wp2
    refine region_planA (calmB_sound _) (.fork [0, 1, 5] (.check [6] 7 (.leaf [7, 2, 3, 4, 8, 9])) (.check [2] 3 (.fork [3] (.check [6] 7 (.leaf [7, 4, 8, 9])) (.leaf [4, 6, 7, 8, 9])))) (by kernel_rfl) (by kernel_rfl) (by kernel_rfl) ?_
    have HSd := Lib.hid (HS0.out.below ((Below.refl _ _).drew))
    generalize w3.drew = wd at *
    clear x0 x1 x2 x3 x4 x5 x6 x7 x8 x9
    obtain ⟨x0, x1, x2, x3, x4, x5, x6, x7, x8, x9⟩ := ten_cells HSd.out.it
    refine wpPlan_fork fun P1 hP1 => ?_
    simp only [List.filterMap_cons, List.filterMap_nil, List.getElem?_toArray, List.getElem?_cons_succ, List.getElem?_cons_zero]
    change wpList _ _ _ [_, _, _] _ _
    go_wp2
    refine hP1 _ _ ?_ ?_
    · refine wpPlan_check fun P2 hP2 => ?_
      simp only [List.filterMap_cons, List.filterMap_nil, List.getElem?_toArray, List.getElem?_cons_succ, List.getElem?_cons_zero]
      change wpList _ _ _ [_] _ _
      go_wp2
      refine hP2 _ _ (by first | exact fun _ => .inl ⟨_, _, _, _, rfl, rfl⟩ | exact fun _ => ⟨_, _, rfl⟩) ?_
      refine wpPlan_leaf fun P3 hP3 => ?_
      simp only [List.filterMap_cons, List.filterMap_nil, List.getElem?_toArray, List.getElem?_cons_succ, List.getElem?_cons_zero]
      change wpList _ _ _ [_, _, _, _, _, _] _ _
      go_wp2_with (first | (go_at_call 73; ((with_reducible refine (fapp_S w _ _ _ 4 _ _ HSd.out (by omega) 4 4 rfl _ i.s rfl (by omega) (by omega) 8 rfl).mono ?_); rintro e w4 ⟨B4, c4, rfl, h, hb⟩; have HS4 := Lib.hid h; clear h; obtain ⟨x0, x1, x2, x3, x4, x5, x6, x7, x8, x9⟩ := ten_cells HS4.out.it)) | (go_at_call 73; ((with_reducible refine (fapp_S w _ _ _ 8 _ _ HS4.out (by omega) 4 4 rfl _ i.me rfl (by omega) (by omega) 12 rfl).mono ?_); rintro e w5 ⟨B5, c5, rfl, h, hb⟩; have HS5 := Lib.hid h; clear h)))
      go_meet
      exact ⟨B5, c5, rfl, HS5⟩
    · refine wpPlan_check fun P4 hP4 => ?_
      simp only [List.filterMap_cons, List.filterMap_nil, List.getElem?_toArray, List.getElem?_cons_succ, List.getElem?_cons_zero]
      change wpList _ _ _ [_] _ _
      go_wp2
      refine hP4 _ _ (by first | exact fun _ => .inl ⟨_, _, _, _, rfl, rfl⟩ | exact fun _ => ⟨_, _, rfl⟩) ?_
      refine wpPlan_fork fun P5 hP5 => ?_
      simp only [List.filterMap_cons, List.filterMap_nil, List.getElem?_toArray, List.getElem?_cons_succ, List.getElem?_cons_zero]
      change wpList _ _ _ [_] _ _
      go_wp2
      refine hP5 _ _ ?_ ?_
      · refine wpPlan_check fun P6 hP6 => ?_
        simp only [List.filterMap_cons, List.filterMap_nil, List.getElem?_toArray, List.getElem?_cons_succ, List.getElem?_cons_zero]
        change wpList _ _ _ [_] _ _
        go_wp2
        refine hP6 _ _ (by first | exact fun _ => .inl ⟨_, _, _, _, rfl, rfl⟩ | exact fun _ => ⟨_, _, rfl⟩) ?_
        refine wpPlan_leaf fun P7 hP7 => ?_
        simp only [List.filterMap_cons, List.filterMap_nil, List.getElem?_toArray, List.getElem?_cons_succ, List.getElem?_cons_zero]
        change wpList _ _ _ [_, _, _, _] _ _
        go_wp2_with (first | (go_at_call 73; ((with_reducible refine (fapp_S w _ _ _ 4 _ _ HSd.out (by omega) 4 4 rfl _ i.s rfl (by omega) (by omega) 8 rfl).mono ?_); rintro e w4 ⟨B4, c4, rfl, h, hb⟩; have HS4 := Lib.hid h; clear h; obtain ⟨x0, x1, x2, x3, x4, x5, x6, x7, x8, x9⟩ := ten_cells HS4.out.it)) | (go_at_call 73; ((with_reducible refine (fapp_S w _ _ _ 8 _ _ HS4.out (by omega) 4 4 rfl _ i.me rfl (by omega) (by omega) 12 rfl).mono ?_); rintro e w5 ⟨B5, c5, rfl, h, hb⟩; have HS5 := Lib.hid h; clear h)))
        go_meet
        exact ⟨B5, c5, rfl, HS5⟩
      · refine wpPlan_leaf fun P8 hP8 => ?_
        simp only [List.filterMap_cons, List.filterMap_nil, List.getElem?_toArray, List.getElem?_cons_succ, List.getElem?_cons_zero]
        change wpList _ _ _ [_, _, _, _, _] _ _
        go_wp2_with (first | (go_at_call 73; ((with_reducible refine (fapp_S w _ _ _ 4 _ _ HSd.out (by omega) 4 4 rfl _ i.s rfl (by omega) (by omega) 8 rfl).mono ?_); rintro e w4 ⟨B4, c4, rfl, h, hb⟩; have HS4 := Lib.hid h; clear h; obtain ⟨x0, x1, x2, x3, x4, x5, x6, x7, x8, x9⟩ := ten_cells HS4.out.it)) | (go_at_call 73; ((with_reducible refine (fapp_S w _ _ _ 8 _ _ HS4.out (by omega) 4 4 rfl _ i.me rfl (by omega) (by omega) 12 rfl).mono ?_); rintro e w5 ⟨B5, c5, rfl, h, hb⟩; have HS5 := Lib.hid h; clear h)))
        go_meet
        exact ⟨B5, c5, rfl, HS5⟩
  case rest =>
  clear HS0 x0 x1 x2 x3 x4 x5 x6 x7 x8 x9
  obtain ⟨B3, c3, rfl, HS0⟩ := hcut
  obtain ⟨x0, x1, x2, x3, x4, x5, x6, x7, x8, x9⟩ := ten_cells HS0.out.it
  go_wp2
  go_loopw [3, 64] (fun s3 ix wr => s3 = .slice B3 12 c3 ∧ ix = .int .i64 0 ∧ Hid (BodyS w wr (.cells #[.int .i64 206, .int .u32 i.s, .int .u64 i.ntp, .int .u32 i.tm, .int .u32 i.pk, .int .u32 i.oc, .slice A n c, .slice G 0 gc, .int .u32 i.me, .slice P 0 pc] 64) B3 12 c3 (((([129, 206] ++ enc 2 2)) ++ enc 4 i.s) ++ enc 4 i.me))) (fun _ _ _ => 0)
  case atStart => exact ⟨rfl, rfl, HS0⟩
  case round =>
    obtain ⟨rfl, rfl, HSk⟩ := hrel
    clear HS0 x0 x1 x2 x3 x4 x5 x6 x7 x8 x9
    obtain ⟨x0, x1, x2, x3, x4, x5, x6, x7, x8, x9⟩ := ten_cells HSk.out.it
    go_wp2
    go_loopw [3, 76] (fun s3 ix wr => s3 = .slice B3 12 c3 ∧ ix = .int .i64 0 ∧ Hid (BodyS w wr (.cells #[.int .i64 206, .int .u32 i.s, .int .u64 i.ntp, .int .u32 i.tm, .int .u32 i.pk, .int .u32 i.oc, .slice A n c, .slice G 0 gc, .int .u32 i.me, .slice P 0 pc] 64) B3 12 c3 (((([129, 206] ++ enc 2 2)) ++ enc 4 i.s) ++ enc 4 i.me))) (fun _ _ _ => 0)
    case atStart => exact ⟨rfl, rfl, HSk⟩
    case round =>
      clear HSk
      obtain ⟨rfl, rfl, HSk⟩ := hrel
      go_wp2
      go_ret
      have hL : (((([129, 206] ++ enc 2 2)) ++ enc 4 i.s) ++ enc 4 i.me) = itemL i := by rw [HI.out]; simp only [List.append_assoc]
      rw [hL] at HSk
      exact ⟨B3, 12, c3, rfl, (by have := HSk.out.own.1; rw [bys_length] at this; show _ = _; omega), HSk.out.own, HSk.out.b⟩
set_option maxRecDepth 20000 in
set_option maxHeartbeats 4000000 in
theorem one_rep (i : Itm) (A : Option Addr) (n c : Nat) (G : Option Addr) (gn gc : Nat) (P : Option Addr) (pn pc : Nat) (w : World) (ra : Row w A n c 7 28 (rowK i.bl)) (rg : Row w G gn gc 1 4 (u32s i.go)) (rp : Row w P pn pc 2 4 (rowP i.pr)) (ok : i.Ok) (hm : mayG i = true) (hk : knownB i.k = true) :
    Calls Try.prog 51 #[.agg #[.int .i64 i.k, .int .u32 i.s, .int .u64 i.ntp, .int .u32 i.tm, .int .u32 i.pk, .int .u32 i.oc, .slice A n c, .slice G gn gc, .int .u32 i.me, .slice P pn pc]] w fun e w' => ∃ B m c', e = .returned (.slice B m c') ∧ Hid (m = (itemL i).length) ∧ w'.ownsRow w.heap.size 5 1 (.slice B m c') m (bys (itemL i)) ∧ Below w.heap.size w w' := by
  have hg : i.go.length = gn := by have := rg.len; rw [u32s_length] at this; omega
  have hp : i.pr.length = pn := by have := rp.len; rw [rowP_length] at this; omega
  have hr : mayR i = true := by rw [← may_same hk]; exact hm
  have hL : outR i = itemL i := by unfold outR; rw [if_pos hr, item_rep hr]
  have kk : i.k = 200 ∨ i.k = 201 := by simpa [knownB] using hk
  have hwX := (Below.refl w.heap.size w).alloc (Nat.le_refl _) (.cells #[.int .i64 i.k, .int .u32 i.s, .int .u64 i.ntp, .int .u32 i.tm, .int .u32 i.pk, .int .u32 i.oc, .slice A n c, .slice G gn gc, .int .u32 i.me, .slice P pn pc] 64)
  have HC := fun w' hb => reput_any i A n c G gn gc P pn pc w' (ra.below (w' := w') hb) hg hp ok
  rw [hL] at HC
  replace HC := Lib.hid HC
  clear ra rg rp ok hm hr hL hk hg hp
  obtain ⟨k, s, ntp, tm, pk, oc, bl, go, me, pr⟩ := i
  simp only at HC kk hwX ⊢
  rcases kk with rfl | rfl
  all_goals
    go_enter Try.func51, Try.ntmps51
    go_wp2_with (go_at_call 72; ((with_reducible refine (HC.out _ hwX).mono ?_); rintro e w1 ⟨B, m, c', rfl, hm, ho, hb⟩))
    go_ret
    exact ⟨B, m, c', rfl, hm, own_base ho hwX.size, hwX.trans (hb.mono hwX.size)⟩
/-- What one writes: the bytes of an item that may be. -/
theorem one_any (i : Itm) (A : Option Addr) (n c : Nat) (G : Option Addr) (gn gc : Nat) (P : Option Addr) (pn pc : Nat) (w : World) (ra : Row w A n c 7 28 (rowK i.bl)) (rg : Row w G gn gc 1 4 (u32s i.go)) (rp : Row w P pn pc 2 4 (rowP i.pr)) (ok : i.Ok) (hm : mayG i = true) :
    Calls Try.prog 51 #[.agg #[.int .i64 i.k, .int .u32 i.s, .int .u64 i.ntp, .int .u32 i.tm, .int .u32 i.pk, .int .u32 i.oc, .slice A n c, .slice G gn gc, .int .u32 i.me, .slice P pn pc]] w fun e w' => ∃ B m c', e = .returned (.slice B m c') ∧ Hid (m = (itemL i).length) ∧ w'.ownsRow w.heap.size 5 1 (.slice B m c') m (bys (itemL i)) ∧ Below w.heap.size w w' := by
  cases hk : knownB i.k
  · rcases item_shape hm hk with ⟨k, _⟩ | ⟨k, _⟩ | ⟨k, _⟩
    · exact one_203 i A n c G gn gc P pn pc w ra rg rp ok hm k
    · exact one_205 i A n c G gn gc P pn pc w ra rg rp ok hm k
    · exact one_206 i A n c G gn gc P pn pc w ra rg rp ok hm k
  · exact one_rep i A n c G gn gc P pn pc w ra rg rp ok hm hk
end Go.Proofs.Ytaomdinddccpeaa
