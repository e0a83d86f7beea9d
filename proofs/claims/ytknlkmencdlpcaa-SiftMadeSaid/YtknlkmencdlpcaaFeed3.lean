/-
What body of package sluicegateref4 writes.
-/
import Derived.Test.YtknlkmencdlpcaaFeed1
import Derived.Test.YtknlkmencdlpcaaRepP
import Derived.Test.YtknlkmencdlpcaaRef1
import Derived.Test.YtknlkmencdlpcaaSameItm
import Derived.Deep.CutBlock
namespace Go.Proofs.Ytknlkmencdlpcaa
set_option linter.unusedVariables false
set_option linter.unusedSimpArgs false
open Go Go.RowKit

theorem rappend_fit (X : Option Addr) (n c : Nat) (l : List UInt8) (s num : Nat) (w : World) (base : Nat) (hown : w.ownsRow base 5 1 (.slice X n c) n (bys l)) (hb : n + 8 ≤ 140737488355328) (h1 : 1 ≤ s ∧ s ≤ 8) (h2 : num < 256 ^ s) :
    Calls Try.prog 87 #[.slice X n c, .int .i64 s, .int .u64 num] w fun e w' => ∃ A c', e = .returned (.slice A (n + s) c') ∧
      w'.ownsRow w.heap.size 5 1 (.slice A (n + s) c') (n + s) (bys (l ++ enc s num)) ∧ Below w.heap.size w w' := by
  have hl : l.length = n := by have := hown.1; rw [bys_length] at this; omega
  have hf : fitsB (s : Int) num = true := by rw [fitsB_iff]; exact ⟨by omega, by omega, by rw [Int.toNat_natCast]; exact h2⟩
  have h3 : num ≤ 18446744073709551615 := by
    have := pow_le_8 s (by omega)
    rw [Int.toNat_natCast] at this
    omega
  have e1 : appL l s ((num : Int).toNat) = l ++ enc s num := by rw [Int.toNat_natCast]; unfold appL; rw [if_pos hf, Int.toNat_natCast]
  refine (rappend_any X n c l s num w hl hb (own_nil hown) (Rd.own hown) (by omega) (by omega) (by omega)).mono ?_
  rintro e w' ⟨A, m, c', rfl, hm, ho, hbl⟩
  rw [e1] at ho
  rw [Hid, e1, List.length_append, enc_length, hl] at hm
  subst hm
  exact ⟨A, c', rfl, ho, hbl⟩
/-- What body keeps between its steps. -/
structure BodyS (w0 w : World) (it : Obj) (B : Option Addr) (m c : Nat) (L : List UInt8) : Prop where
  it : w.heap[w0.heap.size]? = some it
  own : w.ownsRow w0.heap.size 5 1 (.slice B m c) m (bys L)
  b : Below w0.heap.size w0 w
theorem BodyS.below {w0 w w' : World} {it : Obj} {B : Option Addr} {m c : Nat} {L : List UInt8} (h : BodyS w0 w it B m c L) (hb : Below w.heap.size w w') : BodyS w0 w' it B m c L :=
  ⟨blk_below h.it hb, h.own.kept (own_below hb) (own_none _), h.b.trans (hb.mono h.b.size)⟩
theorem BodyS.alloc {w0 w : World} {it : Obj} {B : Option Addr} {m c : Nat} {L : List UInt8} (h : BodyS w0 w it B m c L) (o : Obj) : BodyS w0 (w.alloc o) it B m c L := h.below ((Below.refl _ _).alloc (Nat.le_refl _) o)
theorem rapp_S (w0 w : World) (it : Obj) (B : Option Addr) (m c : Nat) (L : List UInt8) (h : BodyS w0 w it B m c L) (hm : m ≤ 2000) (S : Int) (s : Nat) (hS : S = s) (Z : Int) (z : Nat) (hZ : Z = z) (h1 : 1 ≤ s ∧ s ≤ 8) (h2 : z < 256 ^ s) (m2 : Nat) (hm2 : m + s = m2) :
    Calls Try.prog 87 #[.slice B m c, .int .i64 S, .int .u64 Z] w fun e w' => ∃ B' c', e = .returned (.slice B' m2 c') ∧ BodyS w0 w' it B' m2 c' (L ++ enc s z) ∧ Below w.heap.size w w' := by
  subst hS hZ hm2
  refine (rappend_fit B m c L s z w w0.heap.size h.own (by omega) h1 h2).mono ?_
  rintro e w' ⟨B', c', rfl, ho, hb⟩
  exact ⟨B', c', rfl, ⟨blk_below h.it hb, own_base ho h.b.size, h.b.trans (hb.mono h.b.size)⟩, hb⟩
theorem foursL_take (l : List Nat) {k : Nat} (h : k < l.length) : foursL (l.take (k + 1)) = foursL (l.take k) ++ enc 4 l[k] := by
  rw [List.take_succ_eq_append_getElem h, foursL, List.flatMap_append, ← foursL]
  simp
theorem prsL_take (l : List (Nat × Nat)) {k : Nat} (h : k < l.length) : prsL (l.take (k + 1)) = (prsL (l.take k) ++ enc 2 l[k].1) ++ enc 2 l[k].2 := by
  rw [List.take_succ_eq_append_getElem h, prsL, List.flatMap_append, ← prsL]
  simp
theorem blksL_step (l : List Blk) {k : Nat} (h : k < l.length) (hok : l[k].Ok) (ht : l[k].t < 16777216) :
    blksL (l.take (k + 1)) = blksL (l.take k) ++ enc 4 l[k].s ++ enc 1 l[k].lo ++ enc 3 l[k].t ++ enc 4 l[k].h ++ enc 4 l[k].j ++ enc 4 l[k].la ++ enc 4 l[k].d := by
  rw [List.take_succ_eq_append_getElem h, blksL, List.flatMap_append, ← blksL]
  simp only [List.flatMap_cons, List.flatMap_nil, List.append_nil]
  rw [blkL_parts hok ht]
  simp only [List.append_assoc]
set_option maxRecDepth 20000 in
set_option maxHeartbeats 8000000 in
theorem body_any (i : Itm) (A : Option Addr) (n c : Nat) (G : Option Addr) (gn gc : Nat) (P : Option Addr) (pn pc : Nat) (w : World) (ra : Row w A n c 7 28 (rowK i.bl)) (rg : Row w G gn gc 1 4 (u32s i.go)) (rp : Row w P pn pc 2 4 (rowP i.pr)) (ok : i.Ok) (hf : Few i) :
    Calls Try.prog 131 #[.agg #[.int .i64 i.k, .int .u32 i.s, .int .u64 i.ntp, .int .u32 i.tm, .int .u32 i.pk, .int .u32 i.oc, .slice A n c, .slice G gn gc, .int .u32 i.me, .slice P pn pc]] w fun e w' =>
      ∃ B m c', e = .returned (.slice B m c') ∧ Hid (m = (bodyL i).length) ∧ w'.ownsRow w.heap.size 5 1 (.slice B m c') m (bys (bodyL i)) ∧ Below w.heap.size w w' := by
  have HBL : Hid (i.bl.length = n) := by have := ra.len; rw [rowK_length] at this; show _ = _; omega
  have HGL : Hid (i.go.length = gn) := by have := rg.len; rw [u32s_length] at this; show _ = _; omega
  have HPL : Hid (i.pr.length = pn) := by have := rp.len; rw [rowP_length] at this; show _ = _; omega
  have n15 : n ≤ 15 := by have := hf.bl; rw [HBL.out] at this; exact this
  have g15 : gn ≤ 15 := by have := hf.go; rw [HGL.out] at this; exact this
  have p16 : pn ≤ 16 := by have := hf.pr; rw [HPL.out] at this; exact this
  have m1 := ra.nc
  have m2 := rg.nc
  have m3 := rp.nc
  have HRA := Lib.hid ra
  have HRG := Lib.hid rg
  have HRP := Lib.hid rp
  have HF := Lib.hid hf
  have HO := Lib.hid ok
  have q1 := ok.s
  have q2 := ok.ntp
  have q3 := ok.tm
  have q4 := ok.pk
  have q5 := ok.oc
  have q6 := ok.me
  clear ra rg rp ok hf
  go_enter Try.func131, Try.ntmps131
  go_upto_if 12 with fail
  have hit := blk_alloc w (.cells #[.int .i64 i.k, .int .u32 i.s, .int .u64 i.ntp, .int .u32 i.tm, .int .u32 i.pk, .int .u32 i.oc, .slice A n c, .slice G gn gc, .int .u32 i.me, .slice P pn pc] 54)
  have hS0 : BodyS w (w.alloc (.cells #[.int .i64 i.k, .int .u32 i.s, .int .u64 i.ntp, .int .u32 i.tm, .int .u32 i.pk, .int .u32 i.oc, .slice A n c, .slice G gn gc, .int .u32 i.me, .slice P pn pc] 54)) _ none 0 0 [] := ⟨hit, World.ownsRow_nil _ _ _ _, (Below.refl _ _).alloc (Nat.le_refl _) _⟩
  generalize w.alloc (.cells #[.int .i64 i.k, .int .u32 i.s, .int .u64 i.ntp, .int .u32 i.tm, .int .u32 i.pk, .int .u32 i.oc, .slice A n c, .slice G gn gc, .int .u32 i.me, .slice P pn pc] 54) = w1 at *
  have HS0 := Lib.hid hS0
  clear hit hS0
  go_cut [3] from 10 to 17 (fun s3 wx => ∃ B m c', s3 = .slice B m c' ∧ m ≤ 4 ∧ Hid (BodyS w wx (.cells #[.int .i64 i.k, .int .u32 i.s, .int .u64 i.ntp, .int .u32 i.tm, .int .u32 i.pk, .int .u32 i.oc, .slice A n c, .slice G gn gc, .int .u32 i.me, .slice P pn pc] 54) B m c' (if i.k = 203 then [] else enc 4 i.s)))
  case first =>
    obtain ⟨x0, x1, x2, x3, x4, x5, x6, x7, x8, x9⟩ := ten_cells HS0.out.it
    by_cases h3 : i.k = 203
    · have e3 : (i.k != 203) = false := by simp [h3]
      have HH : Hid ((if i.k = 203 then [] else enc 4 i.s) = []) := by show _ = _; rw [if_pos h3]
      clear h3
      go_wp2_with fail
      go_meet
      exact ⟨_, _, _, rfl, by omega, by rw [HH.out]; exact HS0⟩
    · have e3 : (i.k != 203) = true := by simp [h3]
      have HH : Hid ((if i.k = 203 then [] else enc 4 i.s) = [] ++ enc 4 i.s) := by show _ = _; rw [if_neg h3]; rfl
      clear h3
      go_wp2_with (first

        | (go_at_call 87; (with_reducible refine (rapp_S w w1 _ _ 0 _ _ HS0.out (by omega) 4 4 rfl _ i.s rfl (by omega) (by omega) 4 rfl).mono ?_); rintro e w2 ⟨B2, c2, rfl, h, hb⟩; have HS2 := Lib.hid h; clear h; obtain ⟨y0, y1, y2, y3, y4, y5, y6, y7, y8, y9⟩ := ten_cells HS2.out.it))
      go_meet
      exact ⟨_, _, _, rfl, by omega, by rw [HH.out]; exact HS2⟩
  case rest =>
  clear HS0
  obtain ⟨B0, m0, c0, rfl, hm0, HS0⟩ := hcut
  generalize hL1 : (if i.k = 203 then [] else enc 4 i.s) = L1 at *
  have HL1 := Lib.hid hL1
  clear hL1
  obtain ⟨x0, x1, x2, x3, x4, x5, x6, x7, x8, x9⟩ := ten_cells HS0.out.it
  go_upto_if 20 with fail
  clear x0 x1 x2 x3 x4 x5 x6 x7 x8 x9
  go_cut [3] from 18 to 39 (fun s3 wx => ∃ B m c', s3 = .slice B m c' ∧ m ≤ 24 ∧ Hid (BodyS w wx (.cells #[.int .i64 i.k, .int .u32 i.s, .int .u64 i.ntp, .int .u32 i.tm, .int .u32 i.pk, .int .u32 i.oc, .slice A n c, .slice G gn gc, .int .u32 i.me, .slice P pn pc] 54) B m c' (L1 ++ (if i.k = 200 then enc 8 i.ntp ++ (enc 4 i.tm ++ (enc 4 i.pk ++ enc 4 i.oc)) else []))))
  case first =>
    obtain ⟨x0, x1, x2, x3, x4, x5, x6, x7, x8, x9⟩ := ten_cells HS0.out.it
    by_cases h0 : i.k = 200
    · have e0 : (i.k == 200) = true := by simp [h0]
      have HH : Hid ((L1 ++ (if i.k = 200 then enc 8 i.ntp ++ (enc 4 i.tm ++ (enc 4 i.pk ++ enc 4 i.oc)) else [])) = ((((L1 ++ enc 8 i.ntp) ++ enc 4 i.tm) ++ enc 4 i.pk) ++ enc 4 i.oc)) := by show _ = _; rw [if_pos h0]; simp only [List.append_assoc]
      clear h0
      go_wp2_with (first
        | (go_at_call 87; (with_reducible refine (rapp_S w _ _ _ m0 _ _ HS0.out (by omega) 8 8 rfl _ i.ntp rfl (by omega) (by omega) (m0 + 8) rfl).mono ?_); rintro e w3 ⟨B3, c3, rfl, h, hb⟩; have HS3 := Lib.hid h; clear h; obtain ⟨z0, z1, z2, z3, z4, z5, z6, z7, z8, z9⟩ := ten_cells HS3.out.it)
        | (go_at_call 87; (with_reducible refine (rapp_S w w3 _ _ (m0 + 8) _ _ HS3.out (by omega) 4 4 rfl _ i.tm rfl (by omega) (by omega) (m0 + 12) rfl).mono ?_); rintro e w4 ⟨B4, c4, rfl, h, hb⟩; have HS4 := Lib.hid h; clear h; obtain ⟨y0, y1, y2, y3, y4, y5, y6, y7, y8, y9⟩ := ten_cells HS4.out.it)
        | (go_at_call 87; (with_reducible refine (rapp_S w w4 _ _ (m0 + 12) _ _ HS4.out (by omega) 4 4 rfl _ i.pk rfl (by omega) (by omega) (m0 + 16) rfl).mono ?_); rintro e w5 ⟨B5, c5, rfl, h, hb⟩; have HS5 := Lib.hid h; clear h; obtain ⟨z0, z1, z2, z3, z4, z5, z6, z7, z8, z9⟩ := ten_cells HS5.out.it)
        | (go_at_call 87; (with_reducible refine (rapp_S w w5 _ _ (m0 + 16) _ _ HS5.out (by omega) 4 4 rfl _ i.oc rfl (by omega) (by omega) (m0 + 20) rfl).mono ?_); rintro e w6 ⟨B6, c6, rfl, h, hb⟩; have HS6 := Lib.hid h; clear h; obtain ⟨y0, y1, y2, y3, y4, y5, y6, y7, y8, y9⟩ := ten_cells HS6.out.it))
      go_meet
      exact ⟨_, _, _, rfl, by omega, by rw [HH.out]; exact HS6⟩
    · have e0 : (i.k == 200) = false := by simp [h0]
      have HH : Hid ((L1 ++ (if i.k = 200 then enc 8 i.ntp ++ (enc 4 i.tm ++ (enc 4 i.pk ++ enc 4 i.oc)) else [])) = L1) := by show _ = _; rw [if_neg h0, List.append_nil]
      clear h0
      go_wp2_with fail
      go_meet
      exact ⟨_, _, _, rfl, by omega, by rw [HH.out]; exact HS0⟩
  case rest =>
  clear HS0 hm0
  obtain ⟨B0, m0, c0, rfl, hm0, HS0⟩ := hcut
  generalize hL2 : L1 ++ (if i.k = 200 then enc 8 i.ntp ++ (enc 4 i.tm ++ (enc 4 i.pk ++ enc 4 i.oc)) else []) = L2 at *
  have HL2 := Lib.hid hL2
  clear hL2
  go_upto_region 9 with fail
  obtain ⟨b56, hb56⟩ : ∃ b, b = decide (i.k = 205 ∨ i.k = 206) := ⟨_, rfl⟩
  have HB56 := Lib.hid hb56
  clear hb56
  go_cut [47] from 40 to 47 (fun s47 wx => s47 = .bool b56 ∧ wx = wc)
  case first =>
    obtain ⟨x0, x1, x2, x3, x4, x5, x6, x7, x8, x9⟩ := ten_cells HS0.out.it
    have e56 : ((i.k == 205) = true ∧ decide (i.k = 205 ∨ i.k = 206) = true) ∨ ((i.k == 205) = false ∧ (i.k == 206) = true ∧ decide (i.k = 205 ∨ i.k = 206) = true) ∨ ((i.k == 205) = false ∧ (i.k == 206) = false ∧ decide (i.k = 205 ∨ i.k = 206) = false) := by
      by_cases h5 : i.k = 205
      · exact .inl (by simp [h5])
      · by_cases h6 : i.k = 206
        · exact .inr (.inl (by simp [h6]))
        · exact .inr (.inr (by simp [h5, h6]))
    rcases e56 with ⟨e5, e7⟩ | ⟨e5, e6, e7⟩ | ⟨e5, e6, e7⟩
    all_goals
      have HE := Lib.hid e7
      clear e7
      go_wp2_with fail
      go_meet
      exact ⟨by rw [HB56.out, HE.out], rfl⟩
  case rest =>
  obtain ⟨rfl, rfl⟩ := hcut
  go_upto_if 47 with fail
  go_cut [3] from 40 to 52 (fun s3 wx => ∃ B m c', s3 = .slice B m c' ∧ m ≤ 28 ∧ Hid (BodyS w wx (.cells #[.int .i64 i.k, .int .u32 i.s, .int .u64 i.ntp, .int .u32 i.tm, .int .u32 i.pk, .int .u32 i.oc, .slice A n c, .slice G gn gc, .int .u32 i.me, .slice P pn pc] 54) B m c' (L2 ++ (if i.k = 205 ∨ i.k = 206 then enc 4 i.me else []))))
  case first =>
    obtain ⟨x0, x1, x2, x3, x4, x5, x6, x7, x8, x9⟩ := ten_cells HS0.out.it
    by_cases h5 : i.k = 205 ∨ i.k = 206
    · have HH : Hid ((L2 ++ (if i.k = 205 ∨ i.k = 206 then enc 4 i.me else [])) = L2 ++ enc 4 i.me) := by show _ = _; rw [if_pos h5]
      have e7 : b56 = true := by rw [HB56.out]; exact decide_eq_true h5
      subst e7
      clear h5
      go_wp2_with (first

        | (go_at_call 87; (with_reducible refine (rapp_S w _ _ _ m0 _ _ HS0.out (by omega) 4 4 rfl _ i.me rfl (by omega) (by omega) (m0 + 4) rfl).mono ?_); rintro e w3 ⟨B3, c3, rfl, h, hb⟩; have HS3 := Lib.hid h; clear h; obtain ⟨z0, z1, z2, z3, z4, z5, z6, z7, z8, z9⟩ := ten_cells HS3.out.it))
      go_meet
      exact ⟨_, _, _, rfl, by omega, by rw [HH.out]; exact HS3⟩
    · have HH : Hid ((L2 ++ (if i.k = 205 ∨ i.k = 206 then enc 4 i.me else [])) = L2) := by show _ = _; rw [if_neg h5, List.append_nil]
      have e7 : b56 = false := by rw [HB56.out]; exact decide_eq_false h5
      subst e7
      clear h5
      go_wp2_with fail
      go_meet
      exact ⟨_, _, _, rfl, by omega, by rw [HH.out]; exact HS0⟩
  case rest =>
    clear HS0 hm0
    obtain ⟨B0, m0, c0, rfl, hm0, HS0⟩ := hcut
    have hL3 : L2 ++ (if i.k = 205 ∨ i.k = 206 then enc 4 i.me else []) = headL i := by rw [← HL2.out, ← HL1.out]; unfold headL; simp only [List.append_assoc]
    rw [hL3] at HS0
    clear hL3
    clear q1 q2 q3 q4 q5 q6
    obtain ⟨x0, x1, x2, x3, x4, x5, x6, x7, x8, x9⟩ := ten_cells HS0.out.it
    go_wp2_with fail
    go_loopw [3, 56] (fun s3 ix wr => ∃ (k m : Nat) (B : Option Addr) (c' : Nat), ix = .int .i64 k ∧ s3 = .slice B m c' ∧ k ≤ n ∧ m = m0 + 24 * k ∧ Hid (BodyS w wr (.cells #[.int .i64 i.k, .int .u32 i.s, .int .u64 i.ntp, .int .u32 i.tm, .int .u32 i.pk, .int .u32 i.oc, .slice A n c, .slice G gn gc, .int .u32 i.me, .slice P pn pc] 54) B m c' (headL i ++ blksL (i.bl.take k)))) (fun _ ix _ => n - (intOf ix).toNat)
    case atStart => exact ⟨0, m0, B0, c0, rfl, rfl, Nat.zero_le _, by omega, by simpa [blksL] using HS0⟩
    case round =>
      obtain ⟨k, m, B, c', rfl, rfl, hkn, hmk, HSk⟩ := hrel
      have hmle : m ≤ 400 := by omega
      have HMK := Lib.hid hmk
      clear hmk
      by_cases hlt : k < n
      · have hk : k < i.bl.length := by rw [HBL.out]; exact hlt
        obtain ⟨ad, rfl, a0, a1, a2, a3, a4, a5, a6⟩ := rd_blk (HRA.out.rd.below HSk.out.b) hk
        have hbk := HO.out.bl _ (List.getElem_mem hk)
        have htk := rowK_low' i.bl hk HF.out.low
        have HST := Lib.hid (blksL_step i.bl hk hbk htk)
        obtain ⟨b1, b2, b3, b4, b5, b6, b7⟩ := hbk
        generalize i.bl[k] = b at *
        go_wp2_with (first
          | (go_at_call 87; (with_reducible refine (rapp_S w _ _ _ m _ _ (Lib.hid (HSk.out.alloc _)).out (by omega) 4 4 rfl _ b.s rfl (by omega) (by omega) (m + 4) rfl).mono ?_); rintro e w2 ⟨B2, d2, rfl, h, hb⟩; have HS2 := Lib.hid h; clear h; have hx2 := Lib.hid (blk_below (blk_alloc wr _) hb); obtain ⟨y0, y1, y2, y3, y4, y5, y6⟩ := seven_cells hx2.out)
          | (go_at_call 87; (with_reducible refine (rapp_S w w2 _ _ (m + 4) _ _ HS2.out (by omega) 1 1 rfl _ b.lo rfl (by omega) (by omega) (m + 5) rfl).mono ?_); rintro e w3 ⟨B3, d3, rfl, h, hb⟩; have HS3 := Lib.hid h; clear h; have hx3 := Lib.hid (blk_below hx2.out hb); obtain ⟨z0, z1, z2, z3, z4, z5, z6⟩ := seven_cells hx3.out)
          | (go_at_call 87; (with_reducible refine (rapp_S w w3 _ _ (m + 5) _ _ HS3.out (by omega) 3 3 rfl _ b.t rfl (by omega) (by omega) (m + 8) rfl).mono ?_); rintro e w4 ⟨B4, d4, rfl, h, hb⟩; have HS4 := Lib.hid h; clear h; have hx4 := Lib.hid (blk_below hx3.out hb); obtain ⟨y0, y1, y2, y3, y4, y5, y6⟩ := seven_cells hx4.out)
          | (go_at_call 87; (with_reducible refine (rapp_S w w4 _ _ (m + 8) _ _ HS4.out (by omega) 4 4 rfl _ b.h rfl (by omega) (by omega) (m + 12) rfl).mono ?_); rintro e w5 ⟨B5, d5, rfl, h, hb⟩; have HS5 := Lib.hid h; clear h; have hx5 := Lib.hid (blk_below hx4.out hb); obtain ⟨z0, z1, z2, z3, z4, z5, z6⟩ := seven_cells hx5.out)
          | (go_at_call 87; (with_reducible refine (rapp_S w w5 _ _ (m + 12) _ _ HS5.out (by omega) 4 4 rfl _ b.j rfl (by omega) (by omega) (m + 16) rfl).mono ?_); rintro e w6 ⟨B6, d6, rfl, h, hb⟩; have HS6 := Lib.hid h; clear h; have hx6 := Lib.hid (blk_below hx5.out hb); obtain ⟨y0, y1, y2, y3, y4, y5, y6⟩ := seven_cells hx6.out)
          | (go_at_call 87; (with_reducible refine (rapp_S w w6 _ _ (m + 16) _ _ HS6.out (by omega) 4 4 rfl _ b.la rfl (by omega) (by omega) (m + 20) rfl).mono ?_); rintro e w7 ⟨B7, d7, rfl, h, hb⟩; have HS7 := Lib.hid h; clear h; have hx7 := Lib.hid (blk_below hx6.out hb); obtain ⟨z0, z1, z2, z3, z4, z5, z6⟩ := seven_cells hx7.out)
          | (go_at_call 87; (with_reducible refine (rapp_S w w7 _ _ (m + 20) _ _ HS7.out (by omega) 4 4 rfl _ b.d rfl (by omega) (by omega) (m + 24) rfl).mono ?_); rintro e w8 ⟨B8, d8, rfl, h, hb⟩; have HS8 := Lib.hid h; clear h; have hx8 := Lib.hid (blk_below hx7.out hb); obtain ⟨y0, y1, y2, y3, y4, y5, y6⟩ := seven_cells hx8.out))
        exact ⟨⟨k + 1, m + 24, B8, d8, rfl, rfl, by omega, by rw [HMK.out]; omega, by rw [HST.out]; simpa only [List.append_assoc] using HS8⟩, by simp [intOf]; omega⟩
      · have e1 : i.bl.take k = i.bl := List.take_of_length_le (by rw [HBL.out]; omega)
        rw [e1] at HSk
        clear x0 x1 x2 x3 x4 x5 x6 x7 x8 x9 e1 HMK
        obtain ⟨x0, x1, x2, x3, x4, x5, x6, x7, x8, x9⟩ := ten_cells HSk.out.it
        go_wp2
        clear hkn hlt
        go_loopw [3, 99] (fun s3 ix wq => ∃ (k m' : Nat) (B : Option Addr) (c' : Nat), ix = .int .i64 k ∧ s3 = .slice B m' c' ∧ k ≤ gn ∧ m' = m + 4 * k ∧ Hid (BodyS w wq (.cells #[.int .i64 i.k, .int .u32 i.s, .int .u64 i.ntp, .int .u32 i.tm, .int .u32 i.pk, .int .u32 i.oc, .slice A n c, .slice G gn gc, .int .u32 i.me, .slice P pn pc] 54) B m' c' (headL i ++ blksL i.bl ++ foursL (i.go.take k)))) (fun _ ix _ => gn - (intOf ix).toNat)
        case atStart => exact ⟨0, m, B, c', rfl, rfl, Nat.zero_le _, by omega, by simpa [foursL] using HSk⟩
        case round =>
          obtain ⟨k, m', B, c', rfl, rfl, hkn, hmk, HSk⟩ := hrel
          have hmle' : m' ≤ 500 := by omega
          have HMK := Lib.hid hmk
          clear hmk
          by_cases hlt : k < gn
          · have hk : k < i.go.length := by rw [HGL.out]; exact hlt
            obtain ⟨ad, rfl, a0⟩ := rd_u32 (HRG.out.rd.below HSk.out.b) hk
            have hbk := HO.out.go _ (List.getElem_mem hk)
            have HST := Lib.hid (foursL_take i.go hk)
            generalize i.go[k] = z at *
            go_wp2_with (first
              | (go_at_call 87; (with_reducible refine (rapp_S w _ _ _ m' _ _ HSk.out (by omega) 4 4 rfl _ z rfl (by omega) (by omega) (m' + 4) rfl).mono ?_); rintro e w2 ⟨B2, c2, rfl, h, hb⟩; have HS2 := Lib.hid h; clear h))
            exact ⟨⟨k + 1, m' + 4, B2, c2, rfl, rfl, by omega, by rw [HMK.out]; omega, by rw [HST.out, ← List.append_assoc]; exact HS2⟩, by simp [intOf]; omega⟩
          · have e1 : i.go.take k = i.go := List.take_of_length_le (by rw [HGL.out]; omega)
            rw [e1] at HSk
            clear x0 x1 x2 x3 x4 x5 x6 x7 x8 x9 e1 HMK
            obtain ⟨x0, x1, x2, x3, x4, x5, x6, x7, x8, x9⟩ := ten_cells HSk.out.it
            go_wp2
            clear hkn hlt
            go_loopw [3, 111] (fun s3 ix wq => ∃ (k m'' : Nat) (B : Option Addr) (c' : Nat), ix = .int .i64 k ∧ s3 = .slice B m'' c' ∧ k ≤ pn ∧ m'' = m' + 4 * k ∧ Hid (BodyS w wq (.cells #[.int .i64 i.k, .int .u32 i.s, .int .u64 i.ntp, .int .u32 i.tm, .int .u32 i.pk, .int .u32 i.oc, .slice A n c, .slice G gn gc, .int .u32 i.me, .slice P pn pc] 54) B m'' c' (headL i ++ blksL i.bl ++ foursL i.go ++ prsL (i.pr.take k)))) (fun _ ix _ => pn - (intOf ix).toNat)
            case atStart => exact ⟨0, m', B, c', rfl, rfl, Nat.zero_le _, by omega, by simpa [prsL] using HSk⟩
            case round =>
              obtain ⟨k, m'', B, c', rfl, rfl, hkn, hmk, HSk⟩ := hrel
              have hmle'' : m'' ≤ 600 := by omega
              have HMK := Lib.hid hmk
              clear hmk
              by_cases hlt : k < pn
              · have hk : k < i.pr.length := by rw [HPL.out]; exact hlt
                obtain ⟨ad, rfl, a0, a1⟩ := rd_pr (HRP.out.rd.below HSk.out.b) hk
                obtain ⟨hz1, hz2⟩ := HO.out.pr _ (List.getElem_mem hk)
                have HST := Lib.hid (prsL_take i.pr hk)
                generalize i.pr[k] = z at *
                go_wp2_with (first
                  | (go_at_call 87; (with_reducible refine (rapp_S w _ _ _ m'' _ _ (Lib.hid (HSk.out.alloc _)).out (by omega) 2 2 rfl _ z.1 rfl (by omega) (by omega) (m'' + 2) rfl).mono ?_); rintro e w2 ⟨B2, c2, rfl, h, hb⟩; have HS2 := Lib.hid h; clear h; have hx2 := Lib.hid (blk_below (blk_alloc wr _) hb); obtain ⟨y0, y1⟩ := two_cells hx2.out)
                  | (go_at_call 87; (with_reducible refine (rapp_S w w2 _ _ (m'' + 2) _ _ HS2.out (by omega) 2 2 rfl _ z.2 rfl (by omega) (by omega) (m'' + 4) rfl).mono ?_); rintro e w3 ⟨B3, c3, rfl, h, hb⟩; have HS3 := Lib.hid h; clear h))
                exact ⟨⟨k + 1, m'' + 4, B3, c3, rfl, rfl, by omega, by rw [HMK.out]; omega, by rw [HST.out]; simpa only [List.append_assoc] using HS3⟩, by simp [intOf]; omega⟩
              · have e1 : i.pr.take k = i.pr := List.take_of_length_le (by rw [HPL.out]; omega)
                rw [e1] at HSk
                have hL : headL i ++ blksL i.bl ++ foursL i.go ++ prsL i.pr = bodyL i := by unfold bodyL; simp only [List.append_assoc]
                rw [hL] at HSk
                clear x0 x1 x2 x3 x4 x5 x6 x7 x8 x9 e1 hL
                go_wp2
                go_ret
                exact ⟨B, m'', c', rfl, (by have := HSk.out.own.1; rw [bys_length] at this; show _ = _; omega), HSk.out.own, HSk.out.b⟩
end Go.Proofs.Ytknlkmencdlpcaa
