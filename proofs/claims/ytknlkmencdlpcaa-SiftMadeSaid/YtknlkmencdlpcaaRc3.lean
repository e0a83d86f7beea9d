/-
What Item and PutReport of package sluicegateref4 write.
What one of package rtcp writes: an item's bytes.
How many bytes items have, and these bytes: package rtcp and the reference.
-/
import Derived.Test.YtknlkmencdlpcaaFeed3
import Derived.Test.YtknlkmencdlpcaaRc1
import Derived.Test.YtknlkmencdlpcaaRep3
import Derived.Test.YtknlkmencdlpcaaSameItm
import Derived.Deep.CutBlock
namespace Go.Proofs.Ytknlkmencdlpcaa
set_option linter.unusedVariables false
set_option linter.unusedSimpArgs false
open Go Go.RowKit

theorem headL_length (i : Itm) : (headL i).length ≤ 28 := by
  unfold headL
  split <;> split <;> split <;> simp [enc_length] <;> omega
theorem foursL_length (ns : List Nat) : (foursL ns).length = ns.length * 4 := by
  induction ns with
  | nil => rfl
  | cons x l ih => rw [foursL, List.flatMap_cons, List.length_append, ← foursL, ih, enc_length, List.length_cons]; omega
theorem prsL_length (l : List (Nat × Nat)) : (prsL l).length = l.length * 4 := by
  induction l with
  | nil => rfl
  | cons x l ih => rw [prsL, List.flatMap_cons, List.length_append, ← prsL, ih, List.length_append, enc_length, enc_length, List.length_cons]; omega
theorem bodyL_length {i : Itm} (h : Few i) : (bodyL i).length ≤ 600 := by
  unfold bodyL
  have h1 := headL_length i
  have h2 := h.bl
  have h3 := h.go
  have h4 := h.pr
  rw [List.length_append, List.length_append, List.length_append, blksL_length, foursL_length, prsL_length]
  omega
theorem lit_four (w : World) (a b c d : UInt8) (A B C D : Int) (hA : A = a.toNat) (hB : B = b.toNat) (hC : C = c.toNat) (hD : D = d.toNat) :
    (w.alloc (.cells #[.int .u8 A, .int .u8 B, .int .u8 C, .int .u8 D] 5)).ownsRow w.heap.size 5 1 (.slice (some ⟨w.heap.size, 0, none⟩) 4 4) 4 (bys [a, b, c, d]) := by
  subst hA hB hC hD
  exact World.ownsRow_lit (base := w.heap.size) (e := 5) (size := 1) w #[.int .u8 a.toNat, .int .u8 b.toNat, .int .u8 c.toNat, .int .u8 d.toNat] 4 (Nat.le_refl _) (by unfold maxLen; omega) rfl
theorem grown_b {w w2 w4 : World} {lit : Obj} (hb : Below w.heap.size w w2) (hg : (w2.alloc lit).grownBy w4 ((some (⟨w2.heap.size, 0, none⟩ : Addr)).map Addr.block)) : Below w.heap.size w w4 := by
  have h1 := hb.size
  have h2 := hb.alloc hb.size lit
  exact h2.grown hg h2.size (fun q hq => by simp at hq; omega)
set_option maxRecDepth 20000 in
set_option maxHeartbeats 4000000 in
theorem item_any (i : Itm) (A : Option Addr) (n c : Nat) (G : Option Addr) (gn gc : Nat) (P : Option Addr) (pn pc : Nat) (w : World) (ra : Row w A n c 7 28 (rowK i.bl)) (rg : Row w G gn gc 1 4 (u32s i.go)) (rp : Row w P pn pc 2 4 (rowP i.pr)) (ok : i.Ok) (hf : Few i) :
    Calls Try.prog 89 #[.agg #[.int .i64 i.k, .int .u32 i.s, .int .u64 i.ntp, .int .u32 i.tm, .int .u32 i.pk, .int .u32 i.oc, .slice A n c, .slice G gn gc, .int .u32 i.me, .slice P pn pc]] w fun e w' =>
      ∃ B m c', e = .returned (.slice B m c') ∧ Hid (m = (itemL i).length) ∧ w'.ownsRow w.heap.size 5 1 (.slice B m c') m (bys (itemL i)) ∧ Below w.heap.size w w' := by
  have hbl : i.bl.length = n := by have := ra.len; rw [rowK_length] at this; omega
  have hgl : i.go.length = gn := by have := rg.len; rw [u32s_length] at this; omega
  have n15 : n ≤ 15 := by have := hf.bl; omega
  have g15 : gn ≤ 15 := by have := hf.go; omega
  obtain ⟨k0, k255⟩ := hf.k
  have hbL := bodyL_length hf
  have HRA := Lib.hid ra
  have HRG := Lib.hid rg
  have HRP := Lib.hid rp
  have HO := Lib.hid ok
  have HF := Lib.hid hf
  have HC : Hid (countG i = if i.k = 205 ∨ i.k = 206 then 1 else n + gn) := by show _ = _; unfold countG; rw [hbl, hgl]
  clear ra rg rp ok hf hbl hgl
  have e56 : ((i.k == 205) = true ∧ countG i = 1) ∨ ((i.k == 205) = false ∧ (i.k == 206) = true ∧ countG i = 1) ∨ ((i.k == 205) = false ∧ (i.k == 206) = false ∧ countG i = n + gn) := by
    rw [HC.out]
    by_cases h5 : i.k = 205
    · exact .inl (by simp [h5])
    · by_cases h6 : i.k = 206
      · exact .inr (.inl (by simp [h6]))
      · exact .inr (.inr (by simp [h5, h6]))
  clear HC
  have hk8 : (i.k : Int) = (UInt8.ofNat i.k.toNat).toNat := by rw [UInt8.toNat_ofNat']; omega
  have HK8 := Lib.hid hk8
  clear hk8
  rcases e56 with ⟨e5, hc⟩ | ⟨e5, e6, hc⟩ | ⟨e5, e6, hc⟩
  all_goals
    have HCn := Lib.hid hc
    clear hc
    go_enter Try.func89, Try.ntmps89
    go_wp2_with (first
      | (go_at_call 131; (with_reducible refine (body_any i A n c G gn gc P pn pc _ (HRA.out.below ((Below.refl _ _).alloc (Nat.le_refl _) _)) (HRG.out.below ((Below.refl _ _).alloc (Nat.le_refl _) _)) (HRP.out.below ((Below.refl _ _).alloc (Nat.le_refl _) _)) HO.out HF.out).mono ?_); rintro e w2 ⟨B, m, c', rfl, hm, ho, hb⟩; have hit := blk_below (blk_alloc w _) hb; obtain ⟨x0, x1, x2, x3, x4, x5, x6, x7, x8, x9⟩ := ten_cells hit; have hb2 := ((Below.refl w.heap.size w).alloc (Nat.le_refl _) _).trans (hb.mono (by simp)); have hml : m ≤ 600 := (by rw [hm.out]; exact hbL); have hm8 : ((m : Int) / 4) = (UInt8.ofNat (m / 4)).toNat := (by rw [UInt8.toNat_ofNat']; omega); have HM8 := Lib.hid hm8; clear hm8; have HOB := Lib.hid ho; clear ho)
      | (at_builtin; refine wpList_app slU8 rfl _ _ rfl w2.heap.size (some ⟨w2.heap.size, 0, none⟩) 4 4 (bys [UInt8.ofNat (128 + countG i), UInt8.ofNat i.k.toNat, 0, UInt8.ofNat (m / 4)]) rfl (lit_four w2 _ _ _ _ _ _ _ _ (by rw [HCn.out]; first | rfl | (rw [UInt8.toNat_ofNat']; omega)) HK8.out rfl HM8.out) B m c' (bys (bodyL i)) rfl (by rw [bys_length, Nat.mul_one]; exact hm.out.symm) ((Rd.own HOB.out).below ((Below.refl _ _).alloc (Nat.le_refl _) _)) (bys_one _) (by omega) (by simp) ?_; intro A4 c4 w4 ho4 hg4 hA4; rw [bys_append] at ho4; have hb5 := grown_b hb2 hg4))
    go_ret
    have eI : [UInt8.ofNat (128 + countG i), UInt8.ofNat i.k.toNat, 0, UInt8.ofNat (m / 4)] ++ bodyL i = itemL i := by unfold itemL; rw [← hm.out]
    rw [eI] at ho4
    exact ⟨A4, 4 + m, c4, rfl, (by have := ho4.1; rw [bys_length] at this; show _ = _; omega), own_base ho4 hb2.size, hb5⟩
end Go.Proofs.Ytknlkmencdlpcaa

namespace Go.Proofs.Ytknlkmencdlpcaa
set_option linter.unusedVariables false
set_option linter.unusedSimpArgs false
open Go Go.RowKit

theorem fappend_fit (X : Option Addr) (n c : Nat) (l : List UInt8) (s num : Nat) (w : World) (base : Nat) (hown : w.ownsRow base 5 1 (.slice X n c) n (bys l)) (hb : n + 8 ≤ 140737488355328) (h1 : 1 ≤ s ∧ s ≤ 8) (h2 : num < 256 ^ s) :
    Calls Try.prog 129 #[.slice X n c, .int .i64 s, .int .u64 num] w fun e w' => ∃ A c', e = .returned (.slice A (n + s) c') ∧
      w'.ownsRow w.heap.size 5 1 (.slice A (n + s) c') (n + s) (bys (l ++ enc s num)) ∧ Below w.heap.size w w' := by
  have hl : l.length = n := by have := hown.1; rw [bys_length] at this; omega
  have hf : fitsB (s : Int) num = true := by rw [fitsB_iff]; exact ⟨by omega, by omega, by rw [Int.toNat_natCast]; exact h2⟩
  have h3 : num ≤ 18446744073709551615 := by
    have := pow_le_8 s (by omega)
    rw [Int.toNat_natCast] at this
    omega
  have e1 : appL l s ((num : Int).toNat) = l ++ enc s num := by rw [Int.toNat_natCast]; unfold appL; rw [if_pos hf, Int.toNat_natCast]
  refine (append_any X n c l s num w hl hb (own_nil hown) (Rd.own hown) (by omega) (by omega) (by omega)).mono ?_
  rintro e w' ⟨A, m, c', rfl, hm, ho, hbl⟩
  rw [e1] at ho
  rw [Hid, e1, List.length_append, enc_length, hl] at hm
  subst hm
  exact ⟨A, c', rfl, ho, hbl⟩
theorem fapp_S (w0 w : World) (it : Obj) (B : Option Addr) (m c : Nat) (L : List UInt8) (h : BodyS w0 w it B m c L) (hm : m ≤ 2000) (S : Int) (s : Nat) (hS : S = s) (Z : Int) (z : Nat) (hZ : Z = z) (h1 : 1 ≤ s ∧ s ≤ 8) (h2 : z < 256 ^ s) (m2 : Nat) (hm2 : m + s = m2) :
    Calls Try.prog 129 #[.slice B m c, .int .i64 S, .int .u64 Z] w fun e w' => ∃ B' c', e = .returned (.slice B' m2 c') ∧ BodyS w0 w' it B' m2 c' (L ++ enc s z) ∧ Below w.heap.size w w' := by
  subst hS hZ hm2
  refine (fappend_fit B m c L s z w w0.heap.size h.own (by omega) h1 h2).mono ?_
  rintro e w' ⟨B', c', rfl, ho, hb⟩
  exact ⟨B', c', rfl, ⟨blk_below h.it hb, own_base ho h.b.size, h.b.trans (hb.mono h.b.size)⟩, hb⟩
theorem or128i : ∀ k : Nat, k < 16 → bits .or .i64 128 (k : Int) = ((128 + k : Nat) : Int) := by
  have h : (List.range 16).all (fun k => decide (bits .or .i64 128 (k : Int) = ((128 + k : Nat) : Int))) = true := by decide +kernel
  intro k hk
  exact of_decide_eq_true (List.all_eq_true.1 h k (List.mem_range.2 hk))
theorem two_lit (w : World) (it : Obj) (x y : UInt8) (X Y : Int) (hX : X = x.toNat) (hY : Y = y.toNat) : BodyS w ((w.alloc it).alloc (.cells #[.int .u8 X, .int .u8 Y] 5)) it (some ⟨w.heap.size + 1, 0, none⟩) 2 2 [x, y] := by
  subst hX hY
  have h1 := blk_alloc w it
  have hb := (Below.refl (w.alloc it).heap.size (w.alloc it)).alloc (Nat.le_refl _) (.cells #[.int .u8 x.toNat, .int .u8 y.toNat] 5)
  refine ⟨blk_below h1 hb, ?_, ((Below.refl w.heap.size w).alloc (Nat.le_refl _) it).trans (hb.mono (by simp))⟩
  have := World.ownsRow_lit (base := w.heap.size) (e := 5) (size := 1) (w.alloc it) #[.int .u8 x.toNat, .int .u8 y.toNat] 2 (by simp) (by unfold maxLen; omega) rfl
  simpa [bys, u8v] using this
set_option maxRecDepth 20000 in
set_option maxHeartbeats 8000000 in
theorem one_203 (i : Itm) (A : Option Addr) (n c : Nat) (G : Option Addr) (gn gc : Nat) (P : Option Addr) (pn pc : Nat) (w : World) (ra : Row w A n c 7 28 (rowK i.bl)) (rg : Row w G gn gc 1 4 (u32s i.go)) (rp : Row w P pn pc 2 4 (rowP i.pr)) (ok : i.Ok) (hm : mayG i = true) (hk : i.k = 203) :
    Calls Try.prog 88 #[.agg #[.int .i64 i.k, .int .u32 i.s, .int .u64 i.ntp, .int .u32 i.tm, .int .u32 i.pk, .int .u32 i.oc, .slice A n c, .slice G gn gc, .int .u32 i.me, .slice P pn pc]] w fun e w' => ∃ B m c', e = .returned (.slice B m c') ∧ Hid (m = (itemL i).length) ∧ w'.ownsRow w.heap.size 5 1 (.slice B m c') m (bys (itemL i)) ∧ Below w.heap.size w w' := by
  have hs : 1 ≤ i.go.length ∧ i.go.length ≤ 15 ∧ i.pr = [] ∧ itemL i = [UInt8.ofNat (128 + i.go.length), 203] ++ (enc 2 i.go.length ++ foursL i.go) := by
    rcases item_shape hm (by rw [hk]; rfl) with ⟨k, c1, c2, hi, hl⟩ | ⟨k, c1, c2, hi, hl⟩ | ⟨k, hi, hl⟩
    · exact ⟨c1, c2, by rw [hi], hl⟩
    · omega
    · omega
  have HGL : Hid (i.go.length = gn) := by have := rg.len; rw [u32s_length] at this; show _ = _; omega
  have HPL : Hid (i.pr.length = pn) := by have := rp.len; rw [rowP_length] at this; show _ = _; omega
  have m2 := rg.nc
  have m3 := rp.nc
  have m5 := rg.cm
  have m6 := rp.cm
  unfold maxLen at m5 m6
  have HRG := Lib.hid rg
  have HRP := Lib.hid rp
  have HO := Lib.hid ok
  obtain ⟨h1, h2, h3, h4⟩ := hs
  rw [HGL.out] at h1 h2 h4
  have hp0 : pn = 0 := by rw [← HPL.out, h3]; rfl
  subst hp0

  have HI := Lib.hid h4
  have o1 : bits .or .i64 128 (gn : Int) = ((128 + gn : Nat) : Int) := or128i gn (by omega)
  have HK := Lib.hid hk
  have H0 := Lib.hid (two_lit w (.cells #[.int .i64 i.k, .int .u32 i.s, .int .u64 i.ntp, .int .u32 i.tm, .int .u32 i.pk, .int .u32 i.oc, .slice A n c, .slice G gn gc, .int .u32 i.me, .slice P 0 pc] 54) (UInt8.ofNat (128 + gn)) 203 (bits .or .i64 128 (gn : Int) % 256) 203 (by rw [o1, UInt8.toNat_ofNat']; omega) rfl)
  have hz1 : ((4 : Int) + 4 * (gn : Int)) / 4 - 1 = (gn : Nat) := by omega
  have HZ1 := Lib.hid hz1
  rw [hk] at H0 ⊢
  clear ra rg rp ok hm h3 h4 hk o1 hz1
  go_enter Try.func88, Try.ntmps88
  go_wp2_with (first
    | (go_at_call 130; ((with_reducible refine (rcsize_any 203 gn _ ((4 + 4 * gn : Nat) : Int) (by omega) (by unfold szK; rw [if_pos rfl]) _ (by omega)).mono ?_); rintro e w2 ⟨rfl, rfl⟩))
    | (go_at_call 129; go_loud ((with_reducible refine (fapp_S w _ _ _ 2 _ _ H0.out (by omega) 2 2 rfl _ gn HZ1.out (by omega) (by omega) 4 rfl).mono ?_); rintro e w3 ⟨B3, c3, rfl, h, hb⟩; have HS0 := Lib.hid h; clear h; obtain ⟨x0, x1, x2, x3, x4, x5, x6, x7, x8, x9⟩ := ten_cells HS0.out.it)))
  go_loopw [3, 64] (fun s3 ix wr => ∃ (k m : Nat) (B : Option Addr) (c' : Nat), ix = .int .i64 k ∧ s3 = .slice B m c' ∧ k ≤ gn ∧ m = 4 + 4 * k ∧ Hid (BodyS w wr (.cells #[.int .i64 203, .int .u32 i.s, .int .u64 i.ntp, .int .u32 i.tm, .int .u32 i.pk, .int .u32 i.oc, .slice A n c, .slice G gn gc, .int .u32 i.me, .slice P 0 pc] 54) B m c' (([UInt8.ofNat (128 + gn), 203] ++ enc 2 gn) ++ foursL (i.go.take k)))) (fun _ ix _ => gn - (intOf ix).toNat)
  case atStart => exact ⟨0, 4, B3, c3, rfl, rfl, Nat.zero_le _, by omega, by simpa [foursL] using HS0⟩
  case round =>
    obtain ⟨k, m, B, c', rfl, rfl, hkn, hmk, HSk⟩ := hrel
    have hmle : m ≤ 500 := by omega
    have HMK := Lib.hid hmk
    clear hmk
    by_cases hlt : k < gn
    · have hk : k < i.go.length := by rw [HGL.out]; exact hlt
      obtain ⟨ad, rfl, a0⟩ := rd_u32 (HRG.out.rd.below HSk.out.b) hk
      have hbk := HO.out.go _ (List.getElem_mem hk)
      have HST := Lib.hid (foursL_take i.go hk)
      generalize i.go[k] = z at *
      go_wp2_with (go_at_call 129; (with_reducible refine (fapp_S w _ _ _ m _ _ HSk.out (by omega) 4 4 rfl _ z rfl (by omega) (by omega) (m + 4) rfl).mono ?_); rintro e w2 ⟨B2, c2, rfl, h, hb⟩; have HS2 := Lib.hid h; clear h)
      exact ⟨⟨k + 1, m + 4, B2, c2, rfl, rfl, by omega, by rw [HMK.out]; omega, by rw [HST.out, ← List.append_assoc]; exact HS2⟩, by simp [intOf]; omega⟩
    · have e1 : i.go.take k = i.go := List.take_of_length_le (by rw [HGL.out]; omega)
      rw [e1] at HSk
      clear e1 HMK
      obtain ⟨x0, x1, x2, x3, x4, x5, x6, x7, x8, x9⟩ := ten_cells HSk.out.it
      go_wp2
      go_loopw [3, 76] (fun s3 ix wr => s3 = .slice B m c' ∧ ix = .int .i64 0 ∧ Hid (BodyS w wr (.cells #[.int .i64 203, .int .u32 i.s, .int .u64 i.ntp, .int .u32 i.tm, .int .u32 i.pk, .int .u32 i.oc, .slice A n c, .slice G gn gc, .int .u32 i.me, .slice P 0 pc] 54) B m c' (([UInt8.ofNat (128 + gn), 203] ++ enc 2 gn) ++ foursL i.go))) (fun _ _ _ => 0)
      case atStart => exact ⟨rfl, rfl, HSk⟩
      case round =>
        obtain ⟨rfl, rfl, HSk⟩ := hrel
        go_wp2
        go_ret
        have hL : [UInt8.ofNat (128 + gn), 203] ++ enc 2 gn ++ foursL i.go = itemL i := by rw [HI.out]; simp only [List.append_assoc]
        rw [hL] at HSk
        exact ⟨B, m, c', rfl, (by have := HSk.out.own.1; rw [bys_length] at this; show _ = _; omega), HSk.out.own, HSk.out.b⟩
set_option maxRecDepth 20000 in
set_option maxHeartbeats 8000000 in
theorem one_205 (i : Itm) (A : Option Addr) (n c : Nat) (G : Option Addr) (gn gc : Nat) (P : Option Addr) (pn pc : Nat) (w : World) (ra : Row w A n c 7 28 (rowK i.bl)) (rg : Row w G gn gc 1 4 (u32s i.go)) (rp : Row w P pn pc 2 4 (rowP i.pr)) (ok : i.Ok) (hm : mayG i = true) (hk : i.k = 205) :
    Calls Try.prog 88 #[.agg #[.int .i64 i.k, .int .u32 i.s, .int .u64 i.ntp, .int .u32 i.tm, .int .u32 i.pk, .int .u32 i.oc, .slice A n c, .slice G gn gc, .int .u32 i.me, .slice P pn pc]] w fun e w' => ∃ B m c', e = .returned (.slice B m c') ∧ Hid (m = (itemL i).length) ∧ w'.ownsRow w.heap.size 5 1 (.slice B m c') m (bys (itemL i)) ∧ Below w.heap.size w w' := by
  have hs : 1 ≤ i.pr.length ∧ i.pr.length ≤ 16 ∧ i.go = [] ∧ itemL i = [129, 205] ++ (enc 2 (2 + i.pr.length) ++ (enc 4 i.s ++ (enc 4 i.me ++ prsL i.pr))) := by
    rcases item_shape hm (by rw [hk]; rfl) with ⟨k, c1, c2, hi, hl⟩ | ⟨k, c1, c2, hi, hl⟩ | ⟨k, hi, hl⟩
    · omega
    · exact ⟨c1, c2, by rw [hi], hl⟩
    · omega
  have HGL : Hid (i.go.length = gn) := by have := rg.len; rw [u32s_length] at this; show _ = _; omega
  have HPL : Hid (i.pr.length = pn) := by have := rp.len; rw [rowP_length] at this; show _ = _; omega
  have m2 := rg.nc
  have m3 := rp.nc
  have m5 := rg.cm
  have m6 := rp.cm
  unfold maxLen at m5 m6
  have HRG := Lib.hid rg
  have HRP := Lib.hid rp
  have HO := Lib.hid ok
  obtain ⟨h1, h2, h3, h4⟩ := hs
  have hg0 : gn = 0 := by rw [← HGL.out, h3]; rfl
  subst hg0
  rw [HPL.out] at h1 h2 h4
  have HI := Lib.hid h4
  have HK := Lib.hid hk
  have H0 := Lib.hid (two_lit w (.cells #[.int .i64 i.k, .int .u32 i.s, .int .u64 i.ntp, .int .u32 i.tm, .int .u32 i.pk, .int .u32 i.oc, .slice A n c, .slice G 0 gc, .int .u32 i.me, .slice P pn pc] 54) 129 205 129 205 rfl rfl)
  have hz1 : ((12 : Int) + 4 * (pn : Int)) / 4 - 1 = (2 + pn : Nat) := by omega
  have HZ1 := Lib.hid hz1
  clear hz1
  have oks : i.s < 4294967296 := HO.out.s
  have okm : i.me < 4294967296 := HO.out.me
  rw [hk] at H0 ⊢
  clear ra rg rp ok hm h3 h4 hk
  go_enter Try.func88, Try.ntmps88
  go_upto_if 51 with (first
    | (go_at_call 130; ((with_reducible refine (rcsize_any 205 pn _ ((12 + 4 * pn : Nat) : Int) (by omega) (by unfold szK; rw [if_neg (by decide), if_pos rfl]) _ (by omega)).mono ?_); rintro e w2 ⟨rfl, rfl⟩))
    | (go_at_call 129; go_loud ((with_reducible refine (fapp_S w _ _ _ 2 _ _ H0.out (by omega) 2 2 rfl _ (2 + pn) HZ1.out (by omega) (by omega) 4 rfl).mono ?_); rintro e w3 ⟨B3, c3, rfl, h, hb⟩; have HS0 := Lib.hid h; clear h; obtain ⟨x0, x1, x2, x3, x4, x5, x6, x7, x8, x9⟩ := ten_cells HS0.out.it)))
  go_cut [3] from 52 to 60 (fun s3 wx => ∃ B c', s3 = .slice B 12 c' ∧ Hid (BodyS w wx (.cells #[.int .i64 205, .int .u32 i.s, .int .u64 i.ntp, .int .u32 i.tm, .int .u32 i.pk, .int .u32 i.oc, .slice A n c, .slice G 0 gc, .int .u32 i.me, .slice P pn pc] 54) B 12 c' (((([129, 205] ++ enc 2 (2 + pn))) ++ enc 4 i.s) ++ enc 4 i.me)))
  case first =>
    go_wp2
    refine region_planA (calmB_sound _) (.fork [0, 1, 5] (.check [6] 7 (.leaf [7, 2, 3, 4, 8, 9])) (.check [2] 3 (.fork [3] (.check [6] 7 (.leaf [7, 4, 8, 9])) (.leaf [4, 6, 7, 8, 9])))) (by kernel_rfl) (by kernel_rfl) (by kernel_rfl) ?_
    have HSd := Lib.hid (HS0.out.below ((Below.refl _ _).drew))
    generalize w3.drew = wd at *
    clear x0 x1 x2 x3 x4 x5 x6 x7 x8 x9
    obtain ⟨x0, x1, x2, x3, x4, x5, x6, x7, x8, x9⟩ := ten_cells HSd.out.it
    refine wpPlan_fork fun P1 hP1 => ?_
    simp only [List.filterMap_cons, List.filterMap_nil, List.getElem?_toArray, List.getElem?_cons_succ, List.getElem?_cons_zero]
    change wpList _ _ _ [_, _, _] _ _
    go_wp2
    refine hP1 _ _ ?_ ?_
    · refine wpPlan_check fun P2 hP2 => ?_
      simp only [List.filterMap_cons, List.filterMap_nil, List.getElem?_toArray, List.getElem?_cons_succ, List.getElem?_cons_zero]
      change wpList _ _ _ [_] _ _
      go_wp2
      refine hP2 _ _ (by first | exact fun _ => .inl ⟨_, _, _, _, rfl, rfl⟩ | exact fun _ => ⟨_, _, rfl⟩) ?_
      refine wpPlan_leaf fun P3 hP3 => ?_
      simp only [List.filterMap_cons, List.filterMap_nil, List.getElem?_toArray, List.getElem?_cons_succ, List.getElem?_cons_zero]
      change wpList _ _ _ [_, _, _, _, _, _] _ _
      go_wp2_with (first | (go_at_call 129; ((with_reducible refine (fapp_S w _ _ _ 4 _ _ HSd.out (by omega) 4 4 rfl _ i.s rfl (by omega) (by omega) 8 rfl).mono ?_); rintro e w4 ⟨B4, c4, rfl, h, hb⟩; have HS4 := Lib.hid h; clear h; obtain ⟨x0, x1, x2, x3, x4, x5, x6, x7, x8, x9⟩ := ten_cells HS4.out.it)) | (go_at_call 129; ((with_reducible refine (fapp_S w _ _ _ 8 _ _ HS4.out (by omega) 4 4 rfl _ i.me rfl (by omega) (by omega) 12 rfl).mono ?_); rintro e w5 ⟨B5, c5, rfl, h, hb⟩; have HS5 := Lib.hid h; clear h)))
      go_meet
      exact ⟨B5, c5, rfl, HS5⟩
    · refine wpPlan_check fun P4 hP4 => ?_
      simp only [List.filterMap_cons, List.filterMap_nil, List.getElem?_toArray, List.getElem?_cons_succ, List.getElem?_cons_zero]
      change wpList _ _ _ [_] _ _
      go_wp2
      refine hP4 _ _ (by first | exact fun _ => .inl ⟨_, _, _, _, rfl, rfl⟩ | exact fun _ => ⟨_, _, rfl⟩) ?_
      refine wpPlan_fork fun P5 hP5 => ?_
      simp only [List.filterMap_cons, List.filterMap_nil, List.getElem?_toArray, List.getElem?_cons_succ, List.getElem?_cons_zero]
      change wpList _ _ _ [_] _ _
      go_wp2
      refine hP5 _ _ ?_ ?_
      · refine wpPlan_check fun P6 hP6 => ?_
        simp only [List.filterMap_cons, List.filterMap_nil, List.getElem?_toArray, List.getElem?_cons_succ, List.getElem?_cons_zero]
        change wpList _ _ _ [_] _ _
        go_wp2
        refine hP6 _ _ (by first | exact fun _ => .inl ⟨_, _, _, _, rfl, rfl⟩ | exact fun _ => ⟨_, _, rfl⟩) ?_
        refine wpPlan_leaf fun P7 hP7 => ?_
        simp only [List.filterMap_cons, List.filterMap_nil, List.getElem?_toArray, List.getElem?_cons_succ, List.getElem?_cons_zero]
        change wpList _ _ _ [_, _, _, _] _ _
        go_wp2_with (first | (go_at_call 129; ((with_reducible refine (fapp_S w _ _ _ 4 _ _ HSd.out (by omega) 4 4 rfl _ i.s rfl (by omega) (by omega) 8 rfl).mono ?_); rintro e w4 ⟨B4, c4, rfl, h, hb⟩; have HS4 := Lib.hid h; clear h; obtain ⟨x0, x1, x2, x3, x4, x5, x6, x7, x8, x9⟩ := ten_cells HS4.out.it)) | (go_at_call 129; ((with_reducible refine (fapp_S w _ _ _ 8 _ _ HS4.out (by omega) 4 4 rfl _ i.me rfl (by omega) (by omega) 12 rfl).mono ?_); rintro e w5 ⟨B5, c5, rfl, h, hb⟩; have HS5 := Lib.hid h; clear h)))
        go_meet
        exact ⟨B5, c5, rfl, HS5⟩
      · refine wpPlan_leaf fun P8 hP8 => ?_
        simp only [List.filterMap_cons, List.filterMap_nil, List.getElem?_toArray, List.getElem?_cons_succ, List.getElem?_cons_zero]
        change wpList _ _ _ [_, _, _, _, _] _ _
        go_wp2_with (first | (go_at_call 129; ((with_reducible refine (fapp_S w _ _ _ 4 _ _ HSd.out (by omega) 4 4 rfl _ i.s rfl (by omega) (by omega) 8 rfl).mono ?_); rintro e w4 ⟨B4, c4, rfl, h, hb⟩; have HS4 := Lib.hid h; clear h; obtain ⟨x0, x1, x2, x3, x4, x5, x6, x7, x8, x9⟩ := ten_cells HS4.out.it)) | (go_at_call 129; ((with_reducible refine (fapp_S w _ _ _ 8 _ _ HS4.out (by omega) 4 4 rfl _ i.me rfl (by omega) (by omega) 12 rfl).mono ?_); rintro e w5 ⟨B5, c5, rfl, h, hb⟩; have HS5 := Lib.hid h; clear h)))
        go_meet
        exact ⟨B5, c5, rfl, HS5⟩
  case rest =>
  clear HS0 x0 x1 x2 x3 x4 x5 x6 x7 x8 x9
  obtain ⟨B3, c3, rfl, HS0⟩ := hcut
  obtain ⟨x0, x1, x2, x3, x4, x5, x6, x7, x8, x9⟩ := ten_cells HS0.out.it
  go_wp2
  go_loopw [3, 64] (fun s3 ix wr => s3 = .slice B3 12 c3 ∧ ix = .int .i64 0 ∧ Hid (BodyS w wr (.cells #[.int .i64 205, .int .u32 i.s, .int .u64 i.ntp, .int .u32 i.tm, .int .u32 i.pk, .int .u32 i.oc, .slice A n c, .slice G 0 gc, .int .u32 i.me, .slice P pn pc] 54) B3 12 c3 (((([129, 205] ++ enc 2 (2 + pn))) ++ enc 4 i.s) ++ enc 4 i.me))) (fun _ _ _ => 0)
  case atStart => exact ⟨rfl, rfl, HS0⟩
  case round =>
    obtain ⟨rfl, rfl, HSk⟩ := hrel
    clear HS0 x0 x1 x2 x3 x4 x5 x6 x7 x8 x9
    obtain ⟨x0, x1, x2, x3, x4, x5, x6, x7, x8, x9⟩ := ten_cells HSk.out.it
    go_wp2
    go_loopw [3, 76] (fun s3 ix wr => ∃ (k m : Nat) (B : Option Addr) (c' : Nat), ix = .int .i64 k ∧ s3 = .slice B m c' ∧ k ≤ pn ∧ m = 12 + 4 * k ∧ Hid (BodyS w wr (.cells #[.int .i64 205, .int .u32 i.s, .int .u64 i.ntp, .int .u32 i.tm, .int .u32 i.pk, .int .u32 i.oc, .slice A n c, .slice G 0 gc, .int .u32 i.me, .slice P pn pc] 54) B m c' ((((([129, 205] ++ enc 2 (2 + pn))) ++ enc 4 i.s) ++ enc 4 i.me) ++ prsL (i.pr.take k)))) (fun _ ix _ => pn - (intOf ix).toNat)
    case atStart => exact ⟨0, 12, B3, c3, rfl, rfl, Nat.zero_le _, by omega, by simpa [prsL] using HSk⟩
    case round =>
      clear HSk
      obtain ⟨k, m, B, c', rfl, rfl, hkn, hmk, HSk⟩ := hrel
      have hmle : m ≤ 500 := by omega
      have HMK := Lib.hid hmk
      clear hmk x0 x1 x2 x3 x4 x5 x6 x7 x8 x9
      by_cases hlt : k < pn
      · have hk : k < i.pr.length := by rw [HPL.out]; exact hlt
        obtain ⟨ad, rfl, a0, a1⟩ := rd_pr (HRP.out.rd.below HSk.out.b) hk
        obtain ⟨hz1, hz2⟩ := HO.out.pr _ (List.getElem_mem hk)
        have HST := Lib.hid (prsL_take i.pr hk)
        generalize i.pr[k] = z at *
        go_wp2
        refine region_planA (calmB_sound _) (.fork [0, 1, 5] (.check [6] 7 (.leaf [7, 2, 3, 4, 8, 9])) (.check [2] 3 (.fork [3] (.check [6] 7 (.leaf [7, 4, 8, 9])) (.leaf [4, 6, 7, 8, 9])))) (by kernel_rfl) (by kernel_rfl) (by kernel_rfl) ?_
        have hx2 := blk_alloc wr (.cells #[.int .u16 z.1, .int .u16 z.2] 181)
        have HSd := Lib.hid ((HSk.out.alloc (.cells #[.int .u16 z.1, .int .u16 z.2] 181)).below ((Below.refl _ _).drew))
        replace hx2 : ((wr.alloc (.cells #[.int .u16 z.1, .int .u16 z.2] 181)).drew).heap[wr.heap.size]? = _ := hx2
        obtain ⟨y0, y1⟩ := two_cells hx2
        generalize (wr.alloc (.cells #[.int .u16 z.1, .int .u16 z.2] 181)).drew = wd at *
        refine wpPlan_fork fun P1 hP1 => ?_
        simp only [List.filterMap_cons, List.filterMap_nil, List.getElem?_toArray, List.getElem?_cons_succ, List.getElem?_cons_zero]
        change wpList _ _ _ [_, _, _] _ _
        go_wp2
        refine hP1 _ _ ?_ ?_
        · refine wpPlan_check fun P2 hP2 => ?_
          simp only [List.filterMap_cons, List.filterMap_nil, List.getElem?_toArray, List.getElem?_cons_succ, List.getElem?_cons_zero]
          change wpList _ _ _ [_] _ _
          go_wp2
          refine hP2 _ _ (by first | exact fun _ => .inl ⟨_, _, _, _, rfl, rfl⟩ | exact fun _ => ⟨_, _, rfl⟩) ?_
          refine wpPlan_leaf fun P3 hP3 => ?_
          simp only [List.filterMap_cons, List.filterMap_nil, List.getElem?_toArray, List.getElem?_cons_succ, List.getElem?_cons_zero]
          change wpList _ _ _ [_, _, _, _, _, _] _ _
          go_wp2_with (first | (go_at_call 129; ((with_reducible refine (fapp_S w _ _ _ m _ _ HSd.out (by omega) 2 2 rfl _ z.1 rfl (by omega) (by omega) (m + 2) rfl).mono ?_); rintro e w4 ⟨B4, c4, rfl, h, hb⟩; have HS4 := Lib.hid h; clear h; obtain ⟨y0, y1⟩ := two_cells (blk_below hx2 hb))) | (go_at_call 129; ((with_reducible refine (fapp_S w _ _ _ (m + 2) _ _ HS4.out (by omega) 2 2 rfl _ z.2 rfl (by omega) (by omega) (m + 4) rfl).mono ?_); rintro e w5 ⟨B5, c5, rfl, h, hb⟩; have HS5 := Lib.hid h; clear h)))
          exact ⟨⟨k + 1, m + 4, B5, c5, rfl, rfl, by omega, by rw [HMK.out]; omega, by rw [HST.out]; simpa only [List.append_assoc] using HS5⟩, by simp [intOf]; omega⟩
        · refine wpPlan_check fun P4 hP4 => ?_
          simp only [List.filterMap_cons, List.filterMap_nil, List.getElem?_toArray, List.getElem?_cons_succ, List.getElem?_cons_zero]
          change wpList _ _ _ [_] _ _
          go_wp2
          refine hP4 _ _ (by first | exact fun _ => .inl ⟨_, _, _, _, rfl, rfl⟩ | exact fun _ => ⟨_, _, rfl⟩) ?_
          refine wpPlan_fork fun P5 hP5 => ?_
          simp only [List.filterMap_cons, List.filterMap_nil, List.getElem?_toArray, List.getElem?_cons_succ, List.getElem?_cons_zero]
          change wpList _ _ _ [_] _ _
          go_wp2
          refine hP5 _ _ ?_ ?_
          · refine wpPlan_check fun P6 hP6 => ?_
            simp only [List.filterMap_cons, List.filterMap_nil, List.getElem?_toArray, List.getElem?_cons_succ, List.getElem?_cons_zero]
            change wpList _ _ _ [_] _ _
            go_wp2
            refine hP6 _ _ (by first | exact fun _ => .inl ⟨_, _, _, _, rfl, rfl⟩ | exact fun _ => ⟨_, _, rfl⟩) ?_
            refine wpPlan_leaf fun P7 hP7 => ?_
            simp only [List.filterMap_cons, List.filterMap_nil, List.getElem?_toArray, List.getElem?_cons_succ, List.getElem?_cons_zero]
            change wpList _ _ _ [_, _, _, _] _ _
            go_wp2_with (first | (go_at_call 129; ((with_reducible refine (fapp_S w _ _ _ m _ _ HSd.out (by omega) 2 2 rfl _ z.1 rfl (by omega) (by omega) (m + 2) rfl).mono ?_); rintro e w4 ⟨B4, c4, rfl, h, hb⟩; have HS4 := Lib.hid h; clear h; obtain ⟨y0, y1⟩ := two_cells (blk_below hx2 hb))) | (go_at_call 129; ((with_reducible refine (fapp_S w _ _ _ (m + 2) _ _ HS4.out (by omega) 2 2 rfl _ z.2 rfl (by omega) (by omega) (m + 4) rfl).mono ?_); rintro e w5 ⟨B5, c5, rfl, h, hb⟩; have HS5 := Lib.hid h; clear h)))
            exact ⟨⟨k + 1, m + 4, B5, c5, rfl, rfl, by omega, by rw [HMK.out]; omega, by rw [HST.out]; simpa only [List.append_assoc] using HS5⟩, by simp [intOf]; omega⟩
          · refine wpPlan_leaf fun P8 hP8 => ?_
            simp only [List.filterMap_cons, List.filterMap_nil, List.getElem?_toArray, List.getElem?_cons_succ, List.getElem?_cons_zero]
            change wpList _ _ _ [_, _, _, _, _] _ _
            go_wp2_with (first | (go_at_call 129; ((with_reducible refine (fapp_S w _ _ _ m _ _ HSd.out (by omega) 2 2 rfl _ z.1 rfl (by omega) (by omega) (m + 2) rfl).mono ?_); rintro e w4 ⟨B4, c4, rfl, h, hb⟩; have HS4 := Lib.hid h; clear h; obtain ⟨y0, y1⟩ := two_cells (blk_below hx2 hb))) | (go_at_call 129; ((with_reducible refine (fapp_S w _ _ _ (m + 2) _ _ HS4.out (by omega) 2 2 rfl _ z.2 rfl (by omega) (by omega) (m + 4) rfl).mono ?_); rintro e w5 ⟨B5, c5, rfl, h, hb⟩; have HS5 := Lib.hid h; clear h)))
            exact ⟨⟨k + 1, m + 4, B5, c5, rfl, rfl, by omega, by rw [HMK.out]; omega, by rw [HST.out]; simpa only [List.append_assoc] using HS5⟩, by simp [intOf]; omega⟩
      · have e1 : i.pr.take k = i.pr := List.take_of_length_le (by rw [HPL.out]; omega)
        rw [e1] at HSk
        have hL : (((([129, 205] ++ enc 2 (2 + pn))) ++ enc 4 i.s) ++ enc 4 i.me) ++ prsL i.pr = itemL i := by rw [HI.out]; simp only [List.append_assoc]
        rw [hL] at HSk
        clear e1 hL
        go_wp2
        go_ret
        exact ⟨B, m, c', rfl, (by have := HSk.out.own.1; rw [bys_length] at this; show _ = _; omega), HSk.out.own, HSk.out.b⟩
set_option maxRecDepth 20000 in
set_option maxHeartbeats 8000000 in
theorem one_206 (i : Itm) (A : Option Addr) (n c : Nat) (G : Option Addr) (gn gc : Nat) (P : Option Addr) (pn pc : Nat) (w : World) (ra : Row w A n c 7 28 (rowK i.bl)) (rg : Row w G gn gc 1 4 (u32s i.go)) (rp : Row w P pn pc 2 4 (rowP i.pr)) (ok : i.Ok) (hm : mayG i = true) (hk : i.k = 206) :
    Calls Try.prog 88 #[.agg #[.int .i64 i.k, .int .u32 i.s, .int .u64 i.ntp, .int .u32 i.tm, .int .u32 i.pk, .int .u32 i.oc, .slice A n c, .slice G gn gc, .int .u32 i.me, .slice P pn pc]] w fun e w' => ∃ B m c', e = .returned (.slice B m c') ∧ Hid (m = (itemL i).length) ∧ w'.ownsRow w.heap.size 5 1 (.slice B m c') m (bys (itemL i)) ∧ Below w.heap.size w w' := by
  have hs : i.pr = [] ∧ i.pr = [] ∧ i.go = [] ∧ itemL i = [129, 206] ++ (enc 2 2 ++ (enc 4 i.s ++ enc 4 i.me)) := by
    rcases item_shape hm (by rw [hk]; rfl) with ⟨k, c1, c2, hi, hl⟩ | ⟨k, c1, c2, hi, hl⟩ | ⟨k, hi, hl⟩
    · omega
    · omega
    · exact ⟨by rw [hi], by rw [hi], by rw [hi], hl⟩
  have HGL : Hid (i.go.length = gn) := by have := rg.len; rw [u32s_length] at this; show _ = _; omega
  have HPL : Hid (i.pr.length = pn) := by have := rp.len; rw [rowP_length] at this; show _ = _; omega
  have m2 := rg.nc
  have m3 := rp.nc
  have m5 := rg.cm
  have m6 := rp.cm
  unfold maxLen at m5 m6
  have HRG := Lib.hid rg
  have HRP := Lib.hid rp
  have HO := Lib.hid ok
  obtain ⟨h1, h2, h3, h4⟩ := hs
  have hg0 : gn = 0 := by rw [← HGL.out, h3]; rfl
  subst hg0
  have hp0 : pn = 0 := by rw [← HPL.out, h1]; rfl
  subst hp0
  clear h1 h2
  have HI := Lib.hid h4
  have HK := Lib.hid hk
  have H0 := Lib.hid (two_lit w (.cells #[.int .i64 i.k, .int .u32 i.s, .int .u64 i.ntp, .int .u32 i.tm, .int .u32 i.pk, .int .u32 i.oc, .slice A n c, .slice G 0 gc, .int .u32 i.me, .slice P 0 pc] 54) 129 206 129 206 rfl rfl)
  have HZ1 := Lib.hid (show ((2 : Int) : Int) = (2 : Nat) by decide)
  have oks : i.s < 4294967296 := HO.out.s
  have okm : i.me < 4294967296 := HO.out.me
  rw [hk] at H0 ⊢
  clear ra rg rp ok hm h3 h4 hk
  go_enter Try.func88, Try.ntmps88
  go_upto_if 51 with (first
    | (go_at_call 130; ((with_reducible refine (rcsize_any 206 0 _ 12 (by simp) (by decide) _ (by omega)).mono ?_); rintro e w2 ⟨rfl, rfl⟩))
    | (go_at_call 129; go_loud ((with_reducible refine (fapp_S w _ _ _ 2 _ _ H0.out (by omega) 2 2 rfl _ 2 HZ1.out (by omega) (by omega) 4 rfl).mono ?_); rintro e w3 ⟨B3, c3, rfl, h, hb⟩; have HS0 := Lib.hid h; clear h; obtain ⟨x0, x1, x2, x3, x4, x5, x6, x7, x8, x9⟩ := ten_cells HS0.out.it)))
  go_cut [3] from 52 to 60 (fun s3 wx => ∃ B c', s3 = .slice B 12 c' ∧ Hid (BodyS w wx (.cells #[.int .i64 206, .int .u32 i.s, .int .u64 i.ntp, .int .u32 i.tm, .int .u32 i.pk, .int .u32 i.oc, .slice A n c, .slice G 0 gc, .int .u32 i.me, .slice P 0 pc] 54) B 12 c' (((([129, 206] ++ enc 2 2)) ++ enc 4 i.s) ++ enc 4 i.me)))
  case first =>
    go_wp2
    refine region_planA (calmB_sound _) (.fork [0, 1, 5] (.check [6] 7 (.leaf [7, 2, 3, 4, 8, 9])) (.check [2] 3 (.fork [3] (.check [6] 7 (.leaf [7, 4, 8, 9])) (.leaf [4, 6, 7, 8, 9])))) (by kernel_rfl) (by kernel_rfl) (by kernel_rfl) ?_
    have HSd := Lib.hid (HS0.out.below ((Below.refl _ _).drew))
    generalize w3.drew = wd at *
    clear x0 x1 x2 x3 x4 x5 x6 x7 x8 x9
    obtain ⟨x0, x1, x2, x3, x4, x5, x6, x7, x8, x9⟩ := ten_cells HSd.out.it
    refine wpPlan_fork fun P1 hP1 => ?_
    simp only [List.filterMap_cons, List.filterMap_nil, List.getElem?_toArray, List.getElem?_cons_succ, List.getElem?_cons_zero]
    change wpList _ _ _ [_, _, _] _ _
    go_wp2
    refine hP1 _ _ ?_ ?_
    · refine wpPlan_check fun P2 hP2 => ?_
      simp only [List.filterMap_cons, List.filterMap_nil, List.getElem?_toArray, List.getElem?_cons_succ, List.getElem?_cons_zero]
      change wpList _ _ _ [_] _ _
      go_wp2
      refine hP2 _ _ (by first | exact fun _ => .inl ⟨_, _, _, _, rfl, rfl⟩ | exact fun _ => ⟨_, _, rfl⟩) ?_
      refine wpPlan_leaf fun P3 hP3 => ?_
      simp only [List.filterMap_cons, List.filterMap_nil, List.getElem?_toArray, List.getElem?_cons_succ, List.getElem?_cons_zero]
      change wpList _ _ _ [_, _, _, _, _, _] _ _
      go_wp2_with (first | (go_at_call 129; ((with_reducible refine (fapp_S w _ _ _ 4 _ _ HSd.out (by omega) 4 4 rfl _ i.s rfl (by omega) (by omega) 8 rfl).mono ?_); rintro e w4 ⟨B4, c4, rfl, h, hb⟩; have HS4 := Lib.hid h; clear h; obtain ⟨x0, x1, x2, x3, x4, x5, x6, x7, x8, x9⟩ := ten_cells HS4.out.it)) | (go_at_call 129; ((with_reducible refine (fapp_S w _ _ _ 8 _ _ HS4.out (by omega) 4 4 rfl _ i.me rfl (by omega) (by omega) 12 rfl).mono ?_); rintro e w5 ⟨B5, c5, rfl, h, hb⟩; have HS5 := Lib.hid h; clear h)))
      go_meet
      exact ⟨B5, c5, rfl, HS5⟩
    · refine wpPlan_check fun P4 hP4 => ?_
      simp only [List.filterMap_cons, List.filterMap_nil, List.getElem?_toArray, List.getElem?_cons_succ, List.getElem?_cons_zero]
      change wpList _ _ _ [_] _ _
      go_wp2
      refine hP4 _ _ (by first | exact fun _ => .inl ⟨_, _, _, _, rfl, rfl⟩ | exact fun _ => ⟨_, _, rfl⟩) ?_
      refine wpPlan_fork fun P5 hP5 => ?_
      simp only [List.filterMap_cons, List.filterMap_nil, List.getElem?_toArray, List.getElem?_cons_succ, List.getElem?_cons_zero]
      change wpList _ _ _ [_] _ _
      go_wp2
      refine hP5 _ _ ?_ ?_
      · refine wpPlan_check fun P6 hP6 => ?_
        simp only [List.filterMap_cons, List.filterMap_nil, List.getElem?_toArray, List.getElem?_cons_succ, List.getElem?_cons_zero]
        change wpList _ _ _ [_] _ _
        go_wp2
        refine hP6 _ _ (by first | exact fun _ => .inl ⟨_, _, _, _, rfl, rfl⟩ | exact fun _ => ⟨_, _, rfl⟩) ?_
        refine wpPlan_leaf fun P7 hP7 => ?_
        simp only [List.filterMap_cons, List.filterMap_nil, List.getElem?_toArray, List.getElem?_cons_succ, List.getElem?_cons_zero]
        change wpList _ _ _ [_, _, _, _] _ _
        go_wp2_with (first | (go_at_call 129; ((with_reducible refine (fapp_S w _ _ _ 4 _ _ HSd.out (by omega) 4 4 rfl _ i.s rfl (by omega) (by omega) 8 rfl).mono ?_); rintro e w4 ⟨B4, c4, rfl, h, hb⟩; have HS4 := Lib.hid h; clear h; obtain ⟨x0, x1, x2, x3, x4, x5, x6, x7, x8, x9⟩ := ten_cells HS4.out.it)) | (go_at_call 129; ((with_reducible refine (fapp_S w _ _ _ 8 _ _ HS4.out (by omega) 4 4 rfl _ i.me rfl (by omega) (by omega) 12 rfl).mono ?_); rintro e w5 ⟨B5, c5, rfl, h, hb⟩; have HS5 := Lib.hid h; clear h)))
        go_meet
        exact ⟨B5, c5, rfl, HS5⟩
      · refine wpPlan_leaf fun P8 hP8 => ?_
        simp only [List.filterMap_cons, List.filterMap_nil, List.getElem?_toArray, List.getElem?_cons_succ, List.getElem?_cons_zero]
        change wpList _ _ _ [_, _, _, _, _] _ _
        go_wp2_with (first | (go_at_call 129; ((with_reducible refine (fapp_S w _ _ _ 4 _ _ HSd.out (by omega) 4 4 rfl _ i.s rfl (by omega) (by omega) 8 rfl).mono ?_); rintro e w4 ⟨B4, c4, rfl, h, hb⟩; have HS4 := Lib.hid h; clear h; obtain ⟨x0, x1, x2, x3, x4, x5, x6, x7, x8, x9⟩ := ten_cells HS4.out.it)) | (go_at_call 129; ((with_reducible refine (fapp_S w _ _ _ 8 _ _ HS4.out (by omega) 4 4 rfl _ i.me rfl (by omega) (by omega) 12 rfl).mono ?_); rintro e w5 ⟨B5, c5, rfl, h, hb⟩; have HS5 := Lib.hid h; clear h)))
        go_meet
        exact ⟨B5, c5, rfl, HS5⟩
  case rest =>
  clear HS0 x0 x1 x2 x3 x4 x5 x6 x7 x8 x9
  obtain ⟨B3, c3, rfl, HS0⟩ := hcut
  obtain ⟨x0, x1, x2, x3, x4, x5, x6, x7, x8, x9⟩ := ten_cells HS0.out.it
  go_wp2
  go_loopw [3, 64] (fun s3 ix wr => s3 = .slice B3 12 c3 ∧ ix = .int .i64 0 ∧ Hid (BodyS w wr (.cells #[.int .i64 206, .int .u32 i.s, .int .u64 i.ntp, .int .u32 i.tm, .int .u32 i.pk, .int .u32 i.oc, .slice A n c, .slice G 0 gc, .int .u32 i.me, .slice P 0 pc] 54) B3 12 c3 (((([129, 206] ++ enc 2 2)) ++ enc 4 i.s) ++ enc 4 i.me))) (fun _ _ _ => 0)
  case atStart => exact ⟨rfl, rfl, HS0⟩
  case round =>
    obtain ⟨rfl, rfl, HSk⟩ := hrel
    clear HS0 x0 x1 x2 x3 x4 x5 x6 x7 x8 x9
    obtain ⟨x0, x1, x2, x3, x4, x5, x6, x7, x8, x9⟩ := ten_cells HSk.out.it
    go_wp2
    go_loopw [3, 76] (fun s3 ix wr => s3 = .slice B3 12 c3 ∧ ix = .int .i64 0 ∧ Hid (BodyS w wr (.cells #[.int .i64 206, .int .u32 i.s, .int .u64 i.ntp, .int .u32 i.tm, .int .u32 i.pk, .int .u32 i.oc, .slice A n c, .slice G 0 gc, .int .u32 i.me, .slice P 0 pc] 54) B3 12 c3 (((([129, 206] ++ enc 2 2)) ++ enc 4 i.s) ++ enc 4 i.me))) (fun _ _ _ => 0)
    case atStart => exact ⟨rfl, rfl, HSk⟩
    case round =>
      clear HSk
      obtain ⟨rfl, rfl, HSk⟩ := hrel
      go_wp2
      go_ret
      have hL : (((([129, 206] ++ enc 2 2)) ++ enc 4 i.s) ++ enc 4 i.me) = itemL i := by rw [HI.out]; simp only [List.append_assoc]
      rw [hL] at HSk
      exact ⟨B3, 12, c3, rfl, (by have := HSk.out.own.1; rw [bys_length] at this; show _ = _; omega), HSk.out.own, HSk.out.b⟩
set_option maxRecDepth 20000 in
set_option maxHeartbeats 4000000 in
theorem one_rep (i : Itm) (A : Option Addr) (n c : Nat) (G : Option Addr) (gn gc : Nat) (P : Option Addr) (pn pc : Nat) (w : World) (ra : Row w A n c 7 28 (rowK i.bl)) (rg : Row w G gn gc 1 4 (u32s i.go)) (rp : Row w P pn pc 2 4 (rowP i.pr)) (ok : i.Ok) (hm : mayG i = true) (hk : knownB i.k = true) :
    Calls Try.prog 88 #[.agg #[.int .i64 i.k, .int .u32 i.s, .int .u64 i.ntp, .int .u32 i.tm, .int .u32 i.pk, .int .u32 i.oc, .slice A n c, .slice G gn gc, .int .u32 i.me, .slice P pn pc]] w fun e w' => ∃ B m c', e = .returned (.slice B m c') ∧ Hid (m = (itemL i).length) ∧ w'.ownsRow w.heap.size 5 1 (.slice B m c') m (bys (itemL i)) ∧ Below w.heap.size w w' := by
  have hg : i.go.length = gn := by have := rg.len; rw [u32s_length] at this; omega
  have hp : i.pr.length = pn := by have := rp.len; rw [rowP_length] at this; omega
  have hr : mayR i = true := by rw [← may_same hk]; exact hm
  have hL : outR i = itemL i := by unfold outR; rw [if_pos hr, item_rep hr]
  have kk : i.k = 200 ∨ i.k = 201 := by simpa [knownB] using hk
  have hwX := (Below.refl w.heap.size w).alloc (Nat.le_refl _) (.cells #[.int .i64 i.k, .int .u32 i.s, .int .u64 i.ntp, .int .u32 i.tm, .int .u32 i.pk, .int .u32 i.oc, .slice A n c, .slice G gn gc, .int .u32 i.me, .slice P pn pc] 54)
  have HC := fun w' hb => reput_any i A n c G gn gc P pn pc w' (ra.below (w' := w') hb) hg hp ok
  rw [hL] at HC
  replace HC := Lib.hid HC
  clear ra rg rp ok hm hr hL hk hg hp
  obtain ⟨k, s, ntp, tm, pk, oc, bl, go, me, pr⟩ := i
  simp only at HC kk hwX ⊢
  rcases kk with rfl | rfl
  all_goals
    go_enter Try.func88, Try.ntmps88
    go_wp2_with (go_at_call 128; ((with_reducible refine (HC.out _ hwX).mono ?_); rintro e w1 ⟨B, m, c', rfl, hm, ho, hb⟩))
    go_ret
    exact ⟨B, m, c', rfl, hm, own_base ho hwX.size, hwX.trans (hb.mono hwX.size)⟩
/-- What one writes: the bytes of an item that may be. -/
theorem one_any (i : Itm) (A : Option Addr) (n c : Nat) (G : Option Addr) (gn gc : Nat) (P : Option Addr) (pn pc : Nat) (w : World) (ra : Row w A n c 7 28 (rowK i.bl)) (rg : Row w G gn gc 1 4 (u32s i.go)) (rp : Row w P pn pc 2 4 (rowP i.pr)) (ok : i.Ok) (hm : mayG i = true) :
    Calls Try.prog 88 #[.agg #[.int .i64 i.k, .int .u32 i.s, .int .u64 i.ntp, .int .u32 i.tm, .int .u32 i.pk, .int .u32 i.oc, .slice A n c, .slice G gn gc, .int .u32 i.me, .slice P pn pc]] w fun e w' => ∃ B m c', e = .returned (.slice B m c') ∧ Hid (m = (itemL i).length) ∧ w'.ownsRow w.heap.size 5 1 (.slice B m c') m (bys (itemL i)) ∧ Below w.heap.size w w' := by
  cases hk : knownB i.k
  · rcases item_shape hm hk with ⟨k, _⟩ | ⟨k, _⟩ | ⟨k, _⟩
    · exact one_203 i A n c G gn gc P pn pc w ra rg rp ok hm k
    · exact one_205 i A n c G gn gc P pn pc w ra rg rp ok hm k
    · exact one_206 i A n c G gn gc P pn pc w ra rg rp ok hm k
  · exact one_rep i A n c G gn gc P pn pc w ra rg rp ok hm hk
end Go.Proofs.Ytknlkmencdlpcaa

namespace Go.Proofs.Ytknlkmencdlpcaa
set_option linter.unusedVariables false
set_option linter.unusedSimpArgs false
open Go Go.RowKit

theorem itemL_le {i : Itm} (h : mayG i = true) : (itemL i).length ≤ 604 := by
  have := bodyL_length (mayG_few h)
  unfold itemL
  rw [List.length_append]
  simp only [List.length_cons, List.length_nil]
  omega
theorem itsL_le {l : List Itm} (h : allG l = true) : (itsL l).length ≤ 604 * l.length := by
  induction l with
  | nil => simp [itsL]
  | cons i l ih =>
    simp only [allG, List.all_cons, Bool.and_eq_true] at h
    have h1 := itemL_le h.1
    have h2 := ih h.2
    rw [itsL_cons, List.length_append, List.length_cons]
    omega
theorem allG_snoc {l : List Itm} {i : Itm} (h : allG l = true) : allG (l ++ [i]) = mayG i := by
  unfold allG at *
  rw [List.all_append, h]
  simp
theorem allG_take {l : List Itm} {k : Nat} {i : Itm} (hi : l[k]? = some i) (h : mayG i = false) : allG l = false := by
  rw [← Bool.not_eq_true]
  intro ha
  unfold allG at ha
  rw [List.all_eq_true] at ha
  have := ha i (List.mem_of_getElem? hi)
  rw [h] at this
  cases this
theorem itsL_snoc (l : List Itm) (i : Itm) : itsL (l ++ [i]) = itsL l ++ itemL i := by simp [itsL]
theorem itsL_take_le (l : List Itm) (k : Nat) : (itsL (l.take k)).length ≤ (itsL l).length := by
  have : itsL l = itsL (l.take k) ++ itsL (l.drop k) := by rw [← itsL_append, List.take_append_drop]
  rw [this, List.length_append]
  omega
theorem itm_take' (xs : List Sl) (k : Nat) : (itm xs).take k = itm (xs.take k) := by simp [itm]
/-- What is written so far. -/
structure OutS (w0 w : World) (B : Option Addr) (m c : Nat) (L : List UInt8) : Prop where
  own : w.ownsRow w0.heap.size 5 1 (.slice B m c) m (bys L)
  b : Below w0.heap.size w0 w
theorem OutS.below {w0 w w' : World} {B : Option Addr} {m c : Nat} {L : List UInt8} (h : OutS w0 w B m c L) (hb : Below w.heap.size w w') : OutS w0 w' B m c L :=
  ⟨h.own.kept (own_below hb) (own_none _), h.b.trans (hb.mono h.b.size)⟩
theorem OutS.app {w0 w w' : World} {B B' : Option Addr} {m c m' c' : Nat} {L L' : List UInt8} (h : OutS w0 w B m c L) (ho : w'.ownsRow w0.heap.size 5 1 (.slice B' m' c') m' (bys L')) (hg : w.grownBy w' (B.map Addr.block)) : OutS w0 w' B' m' c' L' :=
  ⟨ho, h.b.grown hg h.b.size (own_from h.own)⟩
set_option maxRecDepth 20000 in
set_option maxHeartbeats 4000000 in
theorem rcsizes_any (A : Option Addr) (n c : Nat) (xs : List Sl) (w : World) (h : Its w A n c xs) (hn : n ≤ 140737488351232) :
    Calls Try.prog 32 #[.slice A n c] w fun e w' => e = .returned (.int .i64 (sizG (itm xs) : Nat)) ∧ Below w.heap.size w w' := by
  have HI := Lib.hid h
  have HL := Lib.hid h.len
  have m1 := h.nc
  have m2 := h.cm
  unfold maxLen at m2
  have hw := Below.refl w.heap.size w
  clear h
  go_enter Try.func32, Try.ntmps32
  go_wp2
  go_loopw [3, 8] (fun s3 ix wr => ∃ (k m : Nat), ix = .int .i64 k ∧ s3 = .int .i64 m ∧ k ≤ n ∧ Hid (m = (itsL (itm (xs.take k))).length) ∧ Hid (allG (itm (xs.take k)) = true) ∧ Hid (Below w.heap.size w wr)) (fun _ ix _ => n - (intOf ix).toNat)
  case atStart => exact ⟨0, 0, rfl, rfl, Nat.zero_le _, rfl, rfl, hw⟩
  case round =>
    obtain ⟨k, m, rfl, rfl, hkn, HM, HG, HB⟩ := hrel
    have hm : m ≤ 604 * 140737488351232 := by
      have h1 := itsL_le HG.out
      rw [← HM.out, itm_len, List.length_take, HL.out] at h1
      omega
    by_cases hlt : k < n
    · have hk : k < xs.length := by rw [HL.out]; exact hlt
      obtain ⟨ad, rfl, a0, a1, a2, a3, a4, a5, a6, a7, a8, a9⟩ := rd_sl (HI.out.below HB.out).rd hk
      have HX := Lib.hid ((HI.out.below HB.out).rows _ (List.getElem_mem hk))
      have HT := Lib.hid (itm_take hk)
      have HK : Hid ((itm xs)[k]? = some (xs[k]).i) := by show _ = _; simp [itm, hk]
      generalize xs[k] = x at *
      have HXL : Hid (x.i.go.length = x.gn ∧ x.i.pr.length = x.pn) := ⟨by have := HX.out.rg.len; rw [u32s_length] at this; omega, by have := HX.out.rp.len; rw [rowP_length] at this; omega⟩
      have HA := Lib.hid ((Below.refl wr.heap.size wr).alloc (Nat.le_refl _) (.cells #[.int .i64 x.i.k, .int .u32 x.i.s, .int .u64 x.i.ntp, .int .u32 x.i.tm, .int .u32 x.i.pk, .int .u32 x.i.oc, .slice x.A x.n x.c, .slice x.G x.gn x.gc, .int .u32 x.i.me, .slice x.P x.pn x.pc] 54))
      have HAW := Lib.hid (HB.out.alloc HB.out.size (.cells #[.int .i64 x.i.k, .int .u32 x.i.s, .int .u64 x.i.ntp, .int .u32 x.i.tm, .int .u32 x.i.pk, .int .u32 x.i.oc, .slice x.A x.n x.c, .slice x.G x.gn x.gc, .int .u32 x.i.me, .slice x.P x.pn x.pc] 54))
      have HAX := Lib.hid (blk_alloc wr (.cells #[.int .i64 x.i.k, .int .u32 x.i.s, .int .u64 x.i.ntp, .int .u32 x.i.tm, .int .u32 x.i.pk, .int .u32 x.i.oc, .slice x.A x.n x.c, .slice x.G x.gn x.gc, .int .u32 x.i.me, .slice x.P x.pn x.pc] 54))
      cases hmy : mayG x.i
      · have HF : Hid (sizG (itm xs) = 0) := by show _ = _; unfold sizG; rw [allG_take HK.out hmy]; rfl
        go_wp2_with (go_at_call 30; ((with_reducible refine (rcmay_any x.i x.A x.n x.c x.G x.gn x.gc x.P x.pn x.pc _ (HX.out.ra.below HA.out) (HX.out.rg.below HA.out) (HX.out.rp.below HA.out)).mono ?_); rintro e w2 ⟨rfl, hb2⟩; rw [hmy]; have hw2 := HAW.out.trans (hb2.mono HAW.out.size)))
        go_ret
        exact ⟨by rw [HF.out]; rfl, hw2⟩
      · have HMY := Lib.hid hmy
        clear hmy
        go_wp2_with (first
          | (go_at_call 30; ((with_reducible refine (rcmay_any x.i x.A x.n x.c x.G x.gn x.gc x.P x.pn x.pc _ (HX.out.ra.below HA.out) (HX.out.rg.below HA.out) (HX.out.rp.below HA.out)).mono ?_); rintro e w2 ⟨rfl, hb2⟩; rw [HMY.out]; have HA2 := Lib.hid (HA.out.trans (hb2.mono HA.out.size)); have hw2 := Lib.hid (HAW.out.trans (hb2.mono HAW.out.size)); obtain ⟨x0, x1, x2, x3, x4, x5, x6, x7, x8, x9⟩ := ten_cells (blk_below HAX.out hb2)))
          | (go_at_call 88; ((with_reducible refine (one_any x.i x.A x.n x.c x.G x.gn x.gc x.P x.pn x.pc _ (HX.out.ra.below HA2.out) (HX.out.rg.below HA2.out) (HX.out.rp.below HA2.out) HX.out.ok HMY.out).mono ?_); rintro e w3 ⟨B3, m3, c3, rfl, hm3, ho3, hb3⟩; have hm3l : m3 ≤ 604 := (by rw [hm3.out]; exact itemL_le HMY.out); have hw3 := Lib.hid (hw2.out.trans (hb3.mono hw2.out.size)))))
        refine ⟨⟨k + 1, m + m3, rfl, rfl, by omega, ?_, ?_, hw3⟩, by simp [intOf]; omega⟩
        · show _ = _
          rw [HT.out, itsL_snoc, List.length_append, ← HM.out, ← hm3.out]
        · show _ = _
          rw [HT.out, allG_snoc HG.out, HMY.out]
    · have e1 : xs.take k = xs := List.take_of_length_le (by rw [HL.out]; omega)
      rw [e1] at HM HG
      have HF : Hid (sizG (itm xs) = m) := by show _ = _; unfold sizG; rw [if_pos HG.out, HM.out]
      go_wp2
      go_ret
      exact ⟨by rw [HF.out]; rfl, HB.out⟩
set_option maxRecDepth 20000 in
set_option maxHeartbeats 4000000 in
theorem rsizeI_any (A : Option Addr) (n c : Nat) (xs : List Sl) (w : World) (h : Its w A n c xs) (hn : n ≤ 140737488351232) :
    Calls Try.prog 33 #[.slice A n c] w fun e w' => e = .returned (.int .i64 (sizG (itm xs) : Nat)) ∧ Below w.heap.size w w' := by
  have HI := Lib.hid h
  have HL := Lib.hid h.len
  have m1 := h.nc
  have m2 := h.cm
  unfold maxLen at m2
  have hw := Below.refl w.heap.size w
  clear h
  go_enter Try.func33, Try.ntmps33
  go_wp2
  go_loopw [3, 8] (fun s3 ix wr => ∃ (k m : Nat), ix = .int .i64 k ∧ s3 = .int .i64 m ∧ k ≤ n ∧ Hid (m = (itsL (itm (xs.take k))).length) ∧ Hid (allG (itm (xs.take k)) = true) ∧ Hid (Below w.heap.size w wr)) (fun _ ix _ => n - (intOf ix).toNat)
  case atStart => exact ⟨0, 0, rfl, rfl, Nat.zero_le _, rfl, rfl, hw⟩
  case round =>
    obtain ⟨k, m, rfl, rfl, hkn, HM, HG, HB⟩ := hrel
    have hm : m ≤ 604 * 140737488351232 := by
      have h1 := itsL_le HG.out
      rw [← HM.out, itm_len, List.length_take, HL.out] at h1
      omega
    by_cases hlt : k < n
    · have hk : k < xs.length := by rw [HL.out]; exact hlt
      obtain ⟨ad, rfl, a0, a1, a2, a3, a4, a5, a6, a7, a8, a9⟩ := rd_sl (HI.out.below HB.out).rd hk
      have HX := Lib.hid ((HI.out.below HB.out).rows _ (List.getElem_mem hk))
      have HT := Lib.hid (itm_take hk)
      have HK : Hid ((itm xs)[k]? = some (xs[k]).i) := by show _ = _; simp [itm, hk]
      generalize xs[k] = x at *
      have HXL : Hid (x.i.go.length = x.gn ∧ x.i.pr.length = x.pn) := ⟨by have := HX.out.rg.len; rw [u32s_length] at this; omega, by have := HX.out.rp.len; rw [rowP_length] at this; omega⟩
      have HA := Lib.hid ((Below.refl wr.heap.size wr).alloc (Nat.le_refl _) (.cells #[.int .i64 x.i.k, .int .u32 x.i.s, .int .u64 x.i.ntp, .int .u32 x.i.tm, .int .u32 x.i.pk, .int .u32 x.i.oc, .slice x.A x.n x.c, .slice x.G x.gn x.gc, .int .u32 x.i.me, .slice x.P x.pn x.pc] 54))
      have HAW := Lib.hid (HB.out.alloc HB.out.size (.cells #[.int .i64 x.i.k, .int .u32 x.i.s, .int .u64 x.i.ntp, .int .u32 x.i.tm, .int .u32 x.i.pk, .int .u32 x.i.oc, .slice x.A x.n x.c, .slice x.G x.gn x.gc, .int .u32 x.i.me, .slice x.P x.pn x.pc] 54))
      have HAX := Lib.hid (blk_alloc wr (.cells #[.int .i64 x.i.k, .int .u32 x.i.s, .int .u64 x.i.ntp, .int .u32 x.i.tm, .int .u32 x.i.pk, .int .u32 x.i.oc, .slice x.A x.n x.c, .slice x.G x.gn x.gc, .int .u32 x.i.me, .slice x.P x.pn x.pc] 54))
      cases hmy : mayG x.i
      · have HF : Hid (sizG (itm xs) = 0) := by show _ = _; unfold sizG; rw [allG_take HK.out hmy]; rfl
        go_wp2_with (go_at_call 31; ((with_reducible refine (rmayI_any x.i x.A x.n x.c x.G x.gn x.gc x.P x.pn x.pc _ (HX.out.ra.below HA.out) HXL.out.1 HXL.out.2).mono ?_); rintro e w2 ⟨rfl, hb2⟩; rw [hmy]; have hw2 := HAW.out.trans (hb2.mono HAW.out.size)))
        go_ret
        exact ⟨by rw [HF.out]; rfl, hw2⟩
      · have HMY := Lib.hid hmy
        clear hmy
        go_wp2_with (first
          | (go_at_call 31; ((with_reducible refine (rmayI_any x.i x.A x.n x.c x.G x.gn x.gc x.P x.pn x.pc _ (HX.out.ra.below HA.out) HXL.out.1 HXL.out.2).mono ?_); rintro e w2 ⟨rfl, hb2⟩; rw [HMY.out]; have HA2 := Lib.hid (HA.out.trans (hb2.mono HA.out.size)); have hw2 := Lib.hid (HAW.out.trans (hb2.mono HAW.out.size)); obtain ⟨x0, x1, x2, x3, x4, x5, x6, x7, x8, x9⟩ := ten_cells (blk_below HAX.out hb2)))
          | (go_at_call 89; ((with_reducible refine (item_any x.i x.A x.n x.c x.G x.gn x.gc x.P x.pn x.pc _ (HX.out.ra.below HA2.out) (HX.out.rg.below HA2.out) (HX.out.rp.below HA2.out) HX.out.ok (mayG_few HMY.out)).mono ?_); rintro e w3 ⟨B3, m3, c3, rfl, hm3, ho3, hb3⟩; have hm3l : m3 ≤ 604 := (by rw [hm3.out]; exact itemL_le HMY.out); have hw3 := Lib.hid (hw2.out.trans (hb3.mono hw2.out.size)))))
        refine ⟨⟨k + 1, m + m3, rfl, rfl, by omega, ?_, ?_, hw3⟩, by simp [intOf]; omega⟩
        · show _ = _
          rw [HT.out, itsL_snoc, List.length_append, ← HM.out, ← hm3.out]
        · show _ = _
          rw [HT.out, allG_snoc HG.out, HMY.out]
    · have e1 : xs.take k = xs := List.take_of_length_le (by rw [HL.out]; omega)
      rw [e1] at HM HG
      have HF : Hid (sizG (itm xs) = m) := by show _ = _; unfold sizG; rw [if_pos HG.out, HM.out]
      go_wp2
      go_ret
      exact ⟨by rw [HF.out]; rfl, HB.out⟩
theorem putsL_no {l : List Itm} (h : putsE l ≠ 0) : putsL l = [] := by unfold putsL; rw [if_neg h]
set_option maxRecDepth 20000 in
set_option maxHeartbeats 4000000 in
theorem rcput_any (A : Option Addr) (n c : Nat) (xs : List Sl) (w : World) (h : Its w A n c xs) (hn : n ≤ 140737488351232) :
    Calls Try.prog 28 #[.slice A n c] w fun e w' => ∃ B m c', e = .returned (.tuple #[.slice B m c', .int .i64 (putsE (itm xs) : Nat)]) ∧ Hid (m = (putsL (itm xs)).length) ∧ w'.ownsRow w.heap.size 5 1 (.slice B m c') m (bys (putsL (itm xs))) ∧ Below w.heap.size w w' := by
  have HI := Lib.hid h
  have HL := Lib.hid h.len
  have HIL : Hid ((itm xs).length = n) := by show _ = _; rw [itm_len]; exact h.len
  have m1 := h.nc
  have m2 := h.cm
  unfold maxLen at m2
  have hw := Below.refl w.heap.size w
  obtain ⟨S, hS⟩ : ∃ S, sizG (itm xs) = S := ⟨_, rfl⟩
  have HS := Lib.hid hS
  have SZ := rcsizes_any A n c xs
  have SZ2 : ∀ w', Its w' A n c xs → Calls Try.prog 32 #[.slice A n c] w' fun e w'' => e = .returned (.int .i64 (S : Int)) ∧ Below w'.heap.size w' w'' := by
    intro w' h'
    rw [← hS]
    exact SZ w' h' hn
  have HSZ := Lib.hid SZ2
  have hS63 : S ≤ 604 * 140737488351232 := by
    rw [← hS]
    unfold sizG
    split
    · rename_i ha
      have := itsL_le ha
      rw [HIL.out] at this
      omega
    · omega
  clear h hS SZ SZ2
  by_cases h8 : 8 < n
  · have HE : Hid (putsE (itm xs) = 1) := by show _ = _; unfold putsE; rw [if_pos (.inl (by rw [HIL.out]; exact h8))]
    have HP : Hid (putsL (itm xs) = []) := putsL_no (by rw [HE.out]; decide)
    go_enter Try.func28, Try.ntmps28
    go_wp2
    go_ret2
    exact ⟨none, 0, 0, by rw [HE.out]; rfl, (by rw [HP.out]; rfl), by rw [HP.out]; exact World.ownsRow_nil _ _ _ _, hw⟩
  by_cases h0 : S = 0
  · have HE : Hid (putsE (itm xs) = 1) := by show _ = _; unfold putsE; rw [if_pos (.inr (by rw [HS.out]; exact h0))]
    have HP : Hid (putsL (itm xs) = []) := putsL_no (by rw [HE.out]; decide)
    subst h0
    go_enter Try.func28, Try.ntmps28
    go_wp2_with (go_at_call 32; ((with_reducible refine (HSZ.out _ HI.out).mono ?_); rintro e w2 ⟨rfl, hb2⟩))
    go_ret2
    exact ⟨none, 0, 0, by rw [HE.out]; rfl, (by rw [HP.out]; rfl), by rw [HP.out]; exact World.ownsRow_nil _ _ _ _, hb2⟩
  have hS0 : ((S : Int) == 0) = false := by simp; omega
  by_cases h5 : 512 < S
  · have HE : Hid (putsE (itm xs) = 5) := by show _ = _; unfold putsE; rw [HS.out, if_neg (by rw [HIL.out]; omega), if_pos h5]
    have HP : Hid (putsL (itm xs) = []) := putsL_no (by rw [HE.out]; decide)
    clear h0
    go_enter Try.func28, Try.ntmps28
    go_wp2_with (first
      | (go_at_call 32; (fail_if_success have := hb2); ((with_reducible refine (HSZ.out _ HI.out).mono ?_); rintro e w2 ⟨rfl, hb2⟩))
      | (go_at_call 32; ((with_reducible refine (HSZ.out _ (HI.out.below hb2)).mono ?_); rintro e w3 ⟨rfl, hb3⟩; have hw3 := hb2.trans (hb3.mono hb2.size))))
    go_ret2
    exact ⟨none, 0, 0, by rw [HE.out]; rfl, (by rw [HP.out]; rfl), by rw [HP.out]; exact World.ownsRow_nil _ _ _ _, hw3⟩
  have HE : Hid (putsE (itm xs) = 0) := by show _ = _; unfold putsE; rw [HS.out, if_neg (by rw [HIL.out]; omega), if_neg h5]
  obtain ⟨q1, q2, q3, q4, q5, q6⟩ := puts_ok HE.out
  have HQ := Lib.hid (And.intro q1 (And.intro q4 q5))
  clear h0 q1 q2 q3 q4 q5 q6
  go_enter Try.func28, Try.ntmps28
  go_wp2_with (first
    | (go_at_call 32; (fail_if_success have := hb2); ((with_reducible refine (HSZ.out _ HI.out).mono ?_); rintro e w2 ⟨rfl, hb2⟩))
    | (go_at_call 32; ((with_reducible refine (HSZ.out _ (HI.out.below hb2)).mono ?_); rintro e w3 ⟨rfl, hb3⟩; have hw3 := hb2.trans (hb3.mono hb2.size))))
  go_loopw [4, 20] (fun s4 ix wr => ∃ (k m : Nat) (B : Option Addr) (c' : Nat), ix = .int .i64 k ∧ s4 = .slice B m c' ∧ k ≤ n ∧ m ≤ 512 ∧ Hid (m = (itsL (itm (xs.take k))).length) ∧ Hid (allG (itm (xs.take k)) = true) ∧ Hid (OutS w wr B m c' (itsL (itm (xs.take k))))) (fun _ ix _ => n - (intOf ix).toNat)
  case atStart => exact ⟨0, 0, none, 0, rfl, rfl, Nat.zero_le _, by omega, rfl, rfl, ⟨World.ownsRow_nil _ _ _ _, hw3⟩⟩
  case round =>
    obtain ⟨k, m, B, c', rfl, rfl, hkn, hm, HM, HG, HOU⟩ := hrel
    have HB := Lib.hid HOU.out.b
    by_cases hlt : k < n
    · have hk : k < xs.length := by rw [HL.out]; exact hlt
      obtain ⟨ad, rfl, a0, a1, a2, a3, a4, a5, a6, a7, a8, a9⟩ := rd_sl (HI.out.below HB.out).rd hk
      have HX := Lib.hid ((HI.out.below HB.out).rows _ (List.getElem_mem hk))
      have HT := Lib.hid (itm_take hk)
      have HK : Hid ((itm xs)[k]? = some (xs[k]).i) := by show _ = _; simp [itm, hk]
      generalize xs[k] = x at *
      have HXL : Hid (x.i.go.length = x.gn ∧ x.i.pr.length = x.pn) := ⟨by have := HX.out.rg.len; rw [u32s_length] at this; omega, by have := HX.out.rp.len; rw [rowP_length] at this; omega⟩
      have HA := Lib.hid ((Below.refl wr.heap.size wr).alloc (Nat.le_refl _) (.cells #[.int .i64 x.i.k, .int .u32 x.i.s, .int .u64 x.i.ntp, .int .u32 x.i.tm, .int .u32 x.i.pk, .int .u32 x.i.oc, .slice x.A x.n x.c, .slice x.G x.gn x.gc, .int .u32 x.i.me, .slice x.P x.pn x.pc] 54))
      have HAW := Lib.hid (HB.out.alloc HB.out.size (.cells #[.int .i64 x.i.k, .int .u32 x.i.s, .int .u64 x.i.ntp, .int .u32 x.i.tm, .int .u32 x.i.pk, .int .u32 x.i.oc, .slice x.A x.n x.c, .slice x.G x.gn x.gc, .int .u32 x.i.me, .slice x.P x.pn x.pc] 54))
      have HAX := Lib.hid (blk_alloc wr (.cells #[.int .i64 x.i.k, .int .u32 x.i.s, .int .u64 x.i.ntp, .int .u32 x.i.tm, .int .u32 x.i.pk, .int .u32 x.i.oc, .slice x.A x.n x.c, .slice x.G x.gn x.gc, .int .u32 x.i.me, .slice x.P x.pn x.pc] 54))
      have HMY : Hid (mayG x.i = true) := by
        show _ = _
        cases hq : mayG x.i
        · have := allG_take HK.out hq
          rw [HQ.out.1] at this; cases this
        · rfl
      have HLT : Hid (itsL (itm (xs.take k)) ++ itemL x.i = itsL (itm (xs.take (k + 1)))) := by show _ = _; rw [HT.out, itsL_snoc]
      have HLE : Hid ((itsL (itm (xs.take (k + 1)))).length ≤ 512) := by
        have h1 := itsL_take_le (itm xs) (k + 1)
        rw [itm_take'] at h1
        have h2 := HQ.out.2.1
        show _ ≤ _
        omega
      go_wp2_with (first
        | (go_at_call 88; ((with_reducible refine (one_any x.i x.A x.n x.c x.G x.gn x.gc x.P x.pn x.pc _ (HX.out.ra.below HA.out) (HX.out.rg.below HA.out) (HX.out.rp.below HA.out) HX.out.ok HMY.out).mono ?_); rintro e w3 ⟨B3, m3, c3, rfl, hm3, ho3, hb3⟩; have hm3l : m3 ≤ 604 := (by rw [hm3.out]; exact itemL_le HMY.out); have HO4 := Lib.hid ((HOU.out.below HA.out).below hb3)))
        | (at_builtin; (refine wpList_app slU8 rfl _ _ rfl w.heap.size B m c' (bys (itsL (itm (xs.take k)))) rfl HO4.out.own B3 m3 c3 (bys (itemL x.i)) rfl (by rw [bys_length, Nat.mul_one, hm3.out]) (Rd.own ho3) (bys_one _) (by omega) HO4.out.b.size ?_; intro B4 c4 w4 ho4 hg4 hA4; rw [bys_append] at ho4; have HO5 := Lib.hid (HO4.out.app ho4 hg4); clear ho4 hg4 hA4)))
      rw [HLT.out] at HO5
      refine ⟨⟨k + 1, m + m3, B4, c4, rfl, rfl, by omega, ?_, ?_, ?_, HO5⟩, by simp [intOf]; omega⟩
      · have h1 := HO5.out.own.1
        rw [bys_length] at h1
        have h2 := HLE.out
        omega
      · show _ = _
        rw [← HLT.out, List.length_append, ← HM.out, ← hm3.out]
      · show _ = _
        rw [HT.out, allG_snoc HG.out, HMY.out]
    · have e1 : xs.take k = xs := List.take_of_length_le (by rw [HL.out]; omega)
      rw [e1] at HM HOU
      go_wp2
      go_ret2
      exact ⟨B, m, c', by rw [HE.out]; rfl, (by rw [HQ.out.2.2]; exact HM), by rw [HQ.out.2.2]; exact HOU.out.own, HOU.out.b⟩
set_option maxRecDepth 20000 in
set_option maxHeartbeats 4000000 in
theorem rputI_any (A : Option Addr) (n c : Nat) (xs : List Sl) (w : World) (h : Its w A n c xs) (hn : n ≤ 140737488351232) :
    Calls Try.prog 29 #[.slice A n c] w fun e w' => ∃ B m c', e = .returned (.tuple #[.slice B m c', .int .i64 (putsE (itm xs) : Nat)]) ∧ Hid (m = (putsL (itm xs)).length) ∧ w'.ownsRow w.heap.size 5 1 (.slice B m c') m (bys (putsL (itm xs))) ∧ Below w.heap.size w w' := by
  have HI := Lib.hid h
  have HL := Lib.hid h.len
  have HIL : Hid ((itm xs).length = n) := by show _ = _; rw [itm_len]; exact h.len
  have m1 := h.nc
  have m2 := h.cm
  unfold maxLen at m2
  have hw := Below.refl w.heap.size w
  clear h
  by_cases h1 : n < 1
  · have HE : Hid (putsE (itm xs) = 1) := by
      show _ = _
      have : itm xs = [] := List.eq_nil_of_length_eq_zero (by rw [HIL.out]; omega)
      rw [this]; rfl
    have HP : Hid (putsL (itm xs) = []) := putsL_no (by rw [HE.out]; decide)
    go_enter Try.func29, Try.ntmps29
    go_wp2
    go_ret2
    exact ⟨none, 0, 0, by rw [HE.out]; rfl, (by rw [HP.out]; rfl), by rw [HP.out]; exact World.ownsRow_nil _ _ _ _, hw⟩
  by_cases h8 : 8 < n
  · have HE : Hid (putsE (itm xs) = 1) := by show _ = _; unfold putsE; rw [if_pos (.inl (by rw [HIL.out]; exact h8))]
    have HP : Hid (putsL (itm xs) = []) := putsL_no (by rw [HE.out]; decide)
    go_enter Try.func29, Try.ntmps29
    go_wp2
    go_ret2
    exact ⟨none, 0, 0, by rw [HE.out]; rfl, (by rw [HP.out]; rfl), by rw [HP.out]; exact World.ownsRow_nil _ _ _ _, hw⟩
  go_enter Try.func29, Try.ntmps29
  go_wp2
  go_loopw [4, 17] (fun s4 ix wr => ∃ (k m : Nat) (B : Option Addr) (c' : Nat), ix = .int .i64 k ∧ s4 = .slice B m c' ∧ k ≤ n ∧ m ≤ 604 * k ∧ Hid (m = (itsL (itm (xs.take k))).length) ∧ Hid (allG (itm (xs.take k)) = true) ∧ Hid (OutS w wr B m c' (itsL (itm (xs.take k))))) (fun _ ix _ => n - (intOf ix).toNat)
  case atStart => exact ⟨0, 0, none, 0, rfl, rfl, Nat.zero_le _, by omega, rfl, rfl, ⟨World.ownsRow_nil _ _ _ _, hw⟩⟩
  case round =>
    obtain ⟨k, m, B, c', rfl, rfl, hkn, hm, HM, HG, HOU⟩ := hrel
    have HB := Lib.hid HOU.out.b
    by_cases hlt : k < n
    · have hk : k < xs.length := by rw [HL.out]; exact hlt
      obtain ⟨ad, rfl, a0, a1, a2, a3, a4, a5, a6, a7, a8, a9⟩ := rd_sl (HI.out.below HB.out).rd hk
      have HX := Lib.hid ((HI.out.below HB.out).rows _ (List.getElem_mem hk))
      have HT := Lib.hid (itm_take hk)
      have HK : Hid ((itm xs)[k]? = some (xs[k]).i) := by show _ = _; simp [itm, hk]
      generalize xs[k] = x at *
      have HXL : Hid (x.i.go.length = x.gn ∧ x.i.pr.length = x.pn) := ⟨by have := HX.out.rg.len; rw [u32s_length] at this; omega, by have := HX.out.rp.len; rw [rowP_length] at this; omega⟩
      have HA := Lib.hid ((Below.refl wr.heap.size wr).alloc (Nat.le_refl _) (.cells #[.int .i64 x.i.k, .int .u32 x.i.s, .int .u64 x.i.ntp, .int .u32 x.i.tm, .int .u32 x.i.pk, .int .u32 x.i.oc, .slice x.A x.n x.c, .slice x.G x.gn x.gc, .int .u32 x.i.me, .slice x.P x.pn x.pc] 54))
      have HAW := Lib.hid (HB.out.alloc HB.out.size (.cells #[.int .i64 x.i.k, .int .u32 x.i.s, .int .u64 x.i.ntp, .int .u32 x.i.tm, .int .u32 x.i.pk, .int .u32 x.i.oc, .slice x.A x.n x.c, .slice x.G x.gn x.gc, .int .u32 x.i.me, .slice x.P x.pn x.pc] 54))
      have HAX := Lib.hid (blk_alloc wr (.cells #[.int .i64 x.i.k, .int .u32 x.i.s, .int .u64 x.i.ntp, .int .u32 x.i.tm, .int .u32 x.i.pk, .int .u32 x.i.oc, .slice x.A x.n x.c, .slice x.G x.gn x.gc, .int .u32 x.i.me, .slice x.P x.pn x.pc] 54))
      cases hmy : mayG x.i
      · have HE : Hid (putsE (itm xs) = 1) := by
          show _ = _
          unfold putsE
          rw [if_pos (.inr (by unfold sizG; rw [allG_take HK.out hmy]; rfl))]
        have HP : Hid (putsL (itm xs) = []) := putsL_no (by rw [HE.out]; decide)
        go_wp2_with (go_at_call 31; ((with_reducible refine (rmayI_any x.i x.A x.n x.c x.G x.gn x.gc x.P x.pn x.pc _ (HX.out.ra.below HA.out) HXL.out.1 HXL.out.2).mono ?_); rintro e w2 ⟨rfl, hb2⟩; rw [hmy]; have hw2 := HAW.out.trans (hb2.mono HAW.out.size)))
        go_ret2
        exact ⟨none, 0, 0, by rw [HE.out]; rfl, (by rw [HP.out]; rfl), by rw [HP.out]; exact World.ownsRow_nil _ _ _ _, hw2⟩
      · have HMY := Lib.hid hmy
        clear hmy
        have HLT : Hid (itsL (itm (xs.take k)) ++ itemL x.i = itsL (itm (xs.take (k + 1)))) := by show _ = _; rw [HT.out, itsL_snoc]
        go_wp2_with (first
          | (go_at_call 31; ((with_reducible refine (rmayI_any x.i x.A x.n x.c x.G x.gn x.gc x.P x.pn x.pc _ (HX.out.ra.below HA.out) HXL.out.1 HXL.out.2).mono ?_); rintro e w2 ⟨rfl, hb2⟩; rw [HMY.out]; have HA2 := Lib.hid (HA.out.trans (hb2.mono HA.out.size)); obtain ⟨x0, x1, x2, x3, x4, x5, x6, x7, x8, x9⟩ := ten_cells (blk_below HAX.out hb2)))
          | (go_at_call 89; ((with_reducible refine (item_any x.i x.A x.n x.c x.G x.gn x.gc x.P x.pn x.pc _ (HX.out.ra.below HA2.out) (HX.out.rg.below HA2.out) (HX.out.rp.below HA2.out) HX.out.ok (mayG_few HMY.out)).mono ?_); rintro e w3 ⟨B3, m3, c3, rfl, hm3, ho3, hb3⟩; have hm3l : m3 ≤ 604 := (by rw [hm3.out]; exact itemL_le HMY.out); have HO4 := Lib.hid ((HOU.out.below HA2.out).below hb3)))
          | (at_builtin; (refine wpList_app slU8 rfl _ _ rfl w.heap.size B m c' (bys (itsL (itm (xs.take k)))) rfl HO4.out.own B3 m3 c3 (bys (itemL x.i)) rfl (by rw [bys_length, Nat.mul_one, hm3.out]) (Rd.own ho3) (bys_one _) (by omega) HO4.out.b.size ?_; intro B4 c4 w4 ho4 hg4 hA4; rw [bys_append] at ho4; have HO5 := Lib.hid (HO4.out.app ho4 hg4); clear ho4 hg4 hA4)))
        rw [HLT.out] at HO5
        refine ⟨⟨k + 1, m + m3, B4, c4, rfl, rfl, by omega, by omega, ?_, ?_, HO5⟩, by simp [intOf]; omega⟩
        · show _ = _
          rw [← HLT.out, List.length_append, ← HM.out, ← hm3.out]
        · show _ = _
          rw [HT.out, allG_snoc HG.out, HMY.out]
    · have e1 : xs.take k = xs := List.take_of_length_le (by rw [HL.out]; omega)
      rw [e1] at HM HOU HG
      have HS : Hid (sizG (itm xs) = m) := by show _ = _; unfold sizG; rw [if_pos HG.out, HM.out]
      have hm4 : 4 ≤ m := by
        rw [HM.out]
        refine itsL_pos ?_
        intro hn0
        have := HIL.out
        rw [hn0] at this
        simp at this
        omega
      by_cases h5 : 512 < m
      · have HE : Hid (putsE (itm xs) = 5) := by show _ = _; unfold putsE; rw [HS.out, if_neg (by rw [HIL.out]; omega), if_pos h5]
        have HP : Hid (putsL (itm xs) = []) := putsL_no (by rw [HE.out]; decide)
        go_wp2
        go_ret2
        exact ⟨none, 0, 0, by rw [HE.out]; rfl, (by rw [HP.out]; rfl), by rw [HP.out]; exact World.ownsRow_nil _ _ _ _, HOU.out.b⟩
      · have HE : Hid (putsE (itm xs) = 0) := by show _ = _; unfold putsE; rw [HS.out, if_neg (by rw [HIL.out]; omega), if_neg h5]
        have HP : Hid (putsL (itm xs) = itsL (itm xs)) := by show _ = _; unfold putsL; rw [if_pos HE.out]
        go_wp2
        go_ret2
        exact ⟨B, m, c', by rw [HE.out]; rfl, (by rw [HP.out]; exact HM), by rw [HP.out]; exact HOU.out.own, HOU.out.b⟩
end Go.Proofs.Ytknlkmencdlpcaa
