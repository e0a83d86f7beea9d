/-
What Put of package report writes.
-/
import Derived.Test.YtknlkmencdlpcaaRep1
namespace Go.Proofs.Ytknlkmencdlpcaa
set_option linter.unusedVariables false
set_option linter.unusedSimpArgs false
open Go Go.RowKit

def perrR (i : Itm) : Nat := if knownB i.k then (if mayR i then 0 else 1) else 4
def outR (i : Itm) : List UInt8 := if mayR i then repL i else []
theorem lit_pen (w : World) (base : Nat) (x y : UInt8) (X Y : Int) (hX : X = x.toNat) (hY : Y = y.toNat) (hb : base ≤ w.heap.size) :
    Pen ((w.alloc (.cells #[.int .u8 X, .int .u8 Y] 5)).alloc (.cells #[.slice (some ⟨w.heap.size, 0, none⟩) 2 2] 203)) base (w.heap.size + 1) [x, y] := by
  subst hX hY
  have ho := own_base (World.ownsRow_lit (base := w.heap.size) (e := 5) (size := 1) w #[.int .u8 x.toNat, .int .u8 y.toNat] 2 (Nat.le_refl _) (by unfold maxLen; omega) rfl) hb
  refine ⟨⟨_, 2, ?_, ho.alloc _⟩, by simp; omega⟩
  have := heap_alloc_new (w.alloc (.cells #[.int .u8 (x.toNat : Int), .int .u8 (y.toNat : Int)] 5)) (.cells #[.slice (some ⟨w.heap.size, 0, none⟩) 2 2] 203)
  simpa using this
theorem wordsR (k : Int) (n : Nat) (h : n ≤ 15) : IntKind.u64.wrap (wrap64 (wrap64 (((sizeR k n : Nat) : Int) / 4) - 1)) = ((sizeR k n / 4 - 1 : Nat) : Int) := by
  unfold sizeR
  split <;> simp only [wrap64, IntKind.wrap_u64, IntKind.wrap_i64] <;> omega
theorem fit16 {k : Int} {n : Nat} (h : n ≤ 15) : sizeR k n / 4 - 1 < 256 ^ 2 := by
  unfold sizeR
  split <;> omega
theorem lit32 (w : World) (cs : Array Value) (ns : List Nat) (hcs : cs = (u32s ns).toArray) (hm : ns.length ≤ maxLen) : Rd (w.alloc (.cells cs 24)) (some ⟨w.heap.size, 0, none⟩) (u32s ns) := by
  have := World.ownsRow_lit (base := 0) (e := 24) (size := 1) w cs ns.length (Nat.zero_le _) hm (by rw [hcs]; simp [u32s])
  rw [hcs] at this ⊢
  exact Rd.own this
theorem u8_nat {K : Nat} (h : K ≤ 255) : (K : Int) = (UInt8.ofNat K).toNat := by rw [UInt8.toNat_ofNat']; omega
theorem u8_128 {n : Nat} (h : n ≤ 15) : 128 + (n : Int) = (UInt8.ofNat (128 + n)).toNat := by rw [UInt8.toNat_ofNat']; omega
/-- What Put keeps between its steps. -/
structure PutS (w0 w : World) (it : Obj) (g : Nat) (l : List UInt8) : Prop where
  pen : Pen w w0.heap.size g l
  it : w.heap[w0.heap.size]? = some it
  b : Below w0.heap.size w0 w
  lt : w0.heap.size < g
theorem PutS.grow {w0 w w' : World} {it : Obj} {g : Nat} {l l' : List UInt8} (h : PutS w0 w it g l) (hp : Pen w' w0.heap.size g l') (hg : w.grownBy w' (some g)) : PutS w0 w' it g l' :=
  ⟨hp, (hg.block _ (blk_in h.it) (fun e => by injection e with e; have := h.lt; omega)).trans h.it, h.b.grown hg h.b.size (fun q hq => by injection hq with hq; have := h.lt; omega), h.lt⟩
theorem PutS.below {w0 w w' : World} {it : Obj} {g : Nat} {l : List UInt8} (h : PutS w0 w it g l) (hb : Below w.heap.size w w') : PutS w0 w' it g l :=
  ⟨h.pen.below hb, blk_below h.it hb, h.b.trans (hb.mono h.b.size), h.lt⟩
theorem PutS.alloc {w0 w : World} {it : Obj} {g : Nat} {l : List UInt8} (h : PutS w0 w it g l) (o : Obj) : PutS w0 (w.alloc o) it g l := h.below ((Below.refl _ _).alloc (Nat.le_refl _) o)
theorem ne_new {w : World} {base g : Nat} {l : List UInt8} (h : Pen w base g l) : (some (⟨w.heap.size, 0, none⟩ : Addr)).map Addr.block ≠ some g := by
  intro e
  have := h.lt
  injection e with e
  simp at e
  omega
theorem lit32' {w : World} {g : Nat} (hg : w.heap.size = g) (cs : Array Value) (ns : List Nat) (hcs : cs = (u32s ns).toArray) (hm : ns.length ≤ maxLen) : Rd (w.alloc (.cells cs 24)) (some ⟨g, 0, none⟩) (u32s ns) := by
  subst hg; exact lit32 w cs ns hcs hm
theorem ne_new' {w : World} {base g g' : Nat} {l : List UInt8} (hg : w.heap.size = g') (h : Pen w base g l) : (some (⟨g', 0, none⟩ : Addr)).map Addr.block ≠ some g := by
  subst hg; exact ne_new h
theorem or_lost {lo t : Nat} (h1 : lo < 256) (h2 : t < 16777216) : bits .or .u32 ((lo : Int) % 4294967296 * 16777216 % 4294967296) (t : Int) = ((lo * 16777216 + t : Nat) : Int) := by
  have e : (lo : Int) % 4294967296 * 16777216 % 4294967296 = ((lo * 16777216 : Nat) : Int) := by omega
  rw [e]
  have h3 : lo * 16777216 ||| t = lo * 16777216 + t := by
    have := Nat.two_pow_add_eq_or_of_lt (i := 24) (b := t) (by omega) lo
    rw [show 2 ^ 24 * lo = lo * 16777216 by omega] at this
    exact this.symm
  show IntKind.u32.wrap ((BitVec.ofInt 32 ((lo * 16777216 : Nat) : Int) ||| BitVec.ofInt 32 (t : Int)).toNat : Nat) = _
  rw [BitVec.toNat_or, BitVec.toNat_ofInt, BitVec.toNat_ofInt]
  have a1 : (((lo * 16777216 : Nat) : Int) % ((2 ^ 32 : Nat) : Int)).toNat = lo * 16777216 := by omega
  have a2 : ((t : Int) % ((2 ^ 32 : Nat) : Int)).toNat = t := by omega
  rw [a1, a2, h3, IntKind.wrap_u32]
  omega
theorem blksL_length (l : List Blk) : (blksL l).length = l.length * 24 := by
  induction l with
  | nil => rfl
  | cons b l ih => rw [blksL, List.flatMap_cons, List.length_append, ← blksL, ih]; simp [blkL, enc_length]; omega
theorem blksL_take (l : List Blk) {k : Nat} (h : k < l.length) : blksL (l.take (k + 1)) = blksL (l.take k) ++ fours [l[k].s, l[k].lo * 16777216 + l[k].t, l[k].h, l[k].j, l[k].la, l[k].d] := by
  rw [List.take_succ_eq_append_getElem h, blksL, List.flatMap_append, ← blksL]
  simp [blkL, fours]
theorem blk_words {b : Blk} (h : b.Ok) (ht : b.t < 16777216) : ∀ x ∈ [b.s, b.lo * 16777216 + b.t, b.h, b.j, b.la, b.d], x < 4294967296 := by
  obtain ⟨h1, h2, h3, h4, h5, h6, h7⟩ := h
  intro x hx
  simp only [List.mem_cons, List.not_mem_nil, or_false] at hx
  rcases hx with rfl | rfl | rfl | rfl | rfl | rfl <;> omega
set_option maxRecDepth 20000 in
set_option maxHeartbeats 4000000 in
theorem reput_yes (k : Int) (s ntp tm pk oc : Nat) (bl : List Blk) (go : List Nat) (me : Nat) (pr : List (Nat × Nat)) (A : Option Addr) (n c : Nat) (G : Option Addr) (gn gc : Nat) (P : Option Addr) (pn pc : Nat) (w : World)
    (hr : Row w A n c 7 28 (rowK bl)) (hg : go.length = gn) (hp : pr.length = pn) (hok : Itm.Ok ⟨k, s, ntp, tm, pk, oc, bl, go, me, pr⟩) (hm : mayR ⟨k, s, ntp, tm, pk, oc, bl, go, me, pr⟩ = true) :
    Calls Try.prog 128 #[.agg #[.int .i64 k, .int .u32 s, .int .u64 ntp, .int .u32 tm, .int .u32 pk, .int .u32 oc, .slice A n c, .slice G gn gc, .int .u32 me, .slice P pn pc]] w fun e w' =>
      ∃ B m c', e = .returned (.tuple #[.slice B m c', .int .i64 0]) ∧ Hid (m = (repL ⟨k, s, ntp, tm, pk, oc, bl, go, me, pr⟩).length) ∧ w'.ownsRow w.heap.size 5 1 (.slice B m c') m (bys (repL ⟨k, s, ntp, tm, pk, oc, bl, go, me, pr⟩)) ∧ Below w.heap.size w w' := by
  have hbl : bl.length = n := by have := hr.len; rw [rowK_length] at this; omega
  have hm' := hm
  simp only [mayR, Bool.and_eq_true, decide_eq_true_eq] at hm'
  obtain ⟨⟨⟨hkn, hba⟩, h15⟩, hlow⟩ := hm'
  rw [hbl] at h15
  have HK := Lib.hid hkn
  have HB := Lib.hid hbl
  have HR := Lib.hid hr
  have HL := Lib.hid hlow
  have HM := Lib.hid hm
  have HO := Lib.hid hok
  have hcm := hr.cm
  have hnc := hr.nc
  have hor : bits .or .i64 128 (n : Int) = ((128 + n : Nat) : Int) := by
    have : n = 0 ∨ n = 1 ∨ n = 2 ∨ n = 3 ∨ n = 4 ∨ n = 5 ∨ n = 6 ∨ n = 7 ∨ n = 8 ∨ n = 9 ∨ n = 10 ∨ n = 11 ∨ n = 12 ∨ n = 13 ∨ n = 14 ∨ n = 15 := by omega
    rcases this with rfl | rfl | rfl | rfl | rfl | rfl | rfl | rfl | rfl | rfl | rfl | rfl | rfl | rfl | rfl | rfl <;> decide
  have HF : Hid ((∀ x ∈ [s], x < 4294967296) ∧ ntp < 256 ^ 8 ∧ (∀ x ∈ [tm, pk, oc], x < 4294967296)) := by
    have h1 := hok.s
    have h2 := hok.ntp
    have h3 := hok.tm
    have h4 := hok.pk
    have h5 := hok.oc
    simp only at h1 h2 h3 h4 h5
    refine ⟨?_, by omega, ?_⟩ <;> simp [*]
  clear hr hbl hkn hba hlow hm hok
  obtain ⟨K, rfl, hK2⟩ : ∃ K : Nat, k = (K : Int) ∧ (K = 200 ∨ K = 201) := by
    have := HK.out
    simp [knownB] at this
    exact ⟨k.toNat, by omega, by omega⟩
  have hK : K ≤ 255 := by omega
  have hKs := Lib.hid hK2
  clear hK2
  rcases (show ((K : Int) == 200) = true ∨ ((K : Int) == 200) = false by cases ((K : Int) == 200) <;> simp) with he | he
  all_goals
    go_enter Try.func128, Try.ntmps128
    go_wp2_with (first
      | (go_at_call 132; (with_reducible refine (known_any _ _).mono ?_); rintro e w1 ⟨rfl, rfl⟩; rw [HK.out])
      | (go_at_call 90; (with_reducible refine (may_any ⟨_, s, ntp, tm, pk, oc, bl, go, me, pr⟩ A n c G gn gc P pn pc _ (HR.out.below ((Below.refl _ _).alloc (Nat.le_refl _) _)) hg hp).mono ?_); rintro e w1 ⟨rfl, hb1⟩; rw [HM.out]; have hb2 := ((Below.refl w.heap.size w).alloc (Nat.le_refl _) _).trans (hb1.mono (by simp)); have hit := blk_below (blk_alloc _ _) hb1; obtain ⟨x0, x1, x2, x3, x4, x5, x6, x7, x8, x9⟩ := row10_cells hit; have hs1 := blk_in hit; have n1 : ¬ w.heap.size = w1.heap.size := (by omega); have n2 : ¬ w.heap.size = w1.heap.size + 1 := (by omega))
      | (go_at_call 155; (with_reducible refine (size_any _ _ _ (by omega)).mono ?_); rintro e w2 ⟨rfl, rfl⟩)
      | (go_at_call 154; (with_reducible refine (penput_any _ w.heap.size (w1.heap.size + 1) [UInt8.ofNat (128 + n), UInt8.ofNat K] 2 _ 2 (sizeR K n / 4 - 1) rfl (wordsR _ n h15) (lit_pen w1 w.heap.size _ _ _ _ (u8_128 h15) (u8_nat hK) hb2.size) (by simp) (by omega) (fit16 h15)).mono ?_); rintro e w2 ⟨rfl, hP, hG⟩; have hS := PutS.grow ⟨lit_pen w1 w.heap.size _ _ _ _ (u8_128 h15) (u8_nat hK) hb2.size, blk_below hit (((Below.refl _ _).alloc (Nat.le_refl _) _).alloc (by simp) _), (hb2.alloc hb2.size _).alloc (by simp; omega) _, by omega⟩ hP hG; clear hP hG n1 n2 x0 x1 x2 x3 x4 x5 x6 x7 x8 x9; obtain ⟨y0, y1, y2, y3, y4, y5, y6, y7, y8, y9⟩ := row10_cells hS.it)
      | (go_at_call 156; (with_reducible refine (words_any _ w.heap.size (w1.heap.size + 1) _ (some ⟨w2.heap.size, 0, none⟩) 1 1 [s] (hS.alloc _).pen (by simp [enc_length]) rfl (by omega) (Nat.le_refl _) (by unfold maxLen; omega) (lit32 w2 #[.int .u32 s] [s] rfl (by simp [maxLen])) (ne_new hS.pen) HF.out.1).mono ?_); rintro e w3 ⟨rfl, hP, hG⟩; have hS3 := (hS.alloc _).grow hP hG; clear hP hG y0 y1 y2 y3 y4 y5 y6 y7 y8 y9; obtain ⟨z0, z1, z2, z3, z4, z5, z6, z7, z8, z9⟩ := row10_cells hS3.it)
      | (go_at_call 154; (with_reducible refine (penput_any _ w.heap.size (w1.heap.size + 1) _ 8 _ 8 ntp rfl rfl hS3.pen (by simp [enc_length, fours_length]) (by omega) HF.out.2.1).mono ?_); rintro e w4 ⟨rfl, hP, hG⟩; have hS4 := hS3.grow hP hG; clear hP hG z0 z1 z2 z3 z4 z5 z6 z7 z8 z9; obtain ⟨y0, y1, y2, y3, y4, y5, y6, y7, y8, y9⟩ := row10_cells hS4.it)
      | (go_at_call 156; (with_reducible refine (words_any _ w.heap.size (w1.heap.size + 1) _ (some ⟨w4.heap.size, 0, none⟩) 3 3 [tm, pk, oc] (hS4.alloc _).pen (by simp [enc_length, fours_length]) rfl (by omega) (Nat.le_refl _) (by unfold maxLen; omega) (lit32 w4 #[.int .u32 tm, .int .u32 pk, .int .u32 oc] [tm, pk, oc] rfl (by simp [maxLen])) (ne_new hS4.pen) HF.out.2.2).mono ?_); rintro e w5 ⟨rfl, hP, hG⟩; have hS5 := (hS4.alloc _).grow hP hG; clear hP hG y0 y1 y2 y3 y4 y5 y6 y7 y8 y9; obtain ⟨z0, z1, z2, z3, z4, z5, z6, z7, z8, z9⟩ := row10_cells hS5.it))
  · have hk : (K : Int) = 200 := by simpa using he
    obtain ⟨L0, hS0, hE, hL0⟩ : ∃ L0, PutS w w5 (.cells #[.int .i64 K, .int .u32 s, .int .u64 ntp, .int .u32 tm, .int .u32 pk, .int .u32 oc, .slice A n c, .slice G gn gc, .int .u32 me, .slice P pn pc] 54) (w1.heap.size + 1) L0 ∧ repL ⟨K, s, ntp, tm, pk, oc, bl, go, me, pr⟩ = L0 ++ blksL bl ∧ L0.length ≤ 60 :=
      ⟨_, hS5, by rw [repL]; simp only [HB.out, Int.toNat_natCast]; rw [if_pos hk]; simp [fours], by simp [enc_length, fours_length]⟩
    clear hS hS3 hS4 hS5 hk he
    have HE := Lib.hid hE
    have HS0 := Lib.hid hS0
    clear hE hS0
    go_loopw [60] (fun ix wr => ∃ k : Nat, ix = .int .i64 k ∧ k ≤ n ∧ Hid (PutS w wr (.cells #[.int .i64 K, .int .u32 s, .int .u64 ntp, .int .u32 tm, .int .u32 pk, .int .u32 oc, .slice A n c, .slice G gn gc, .int .u32 me, .slice P pn pc] 54) (w1.heap.size + 1) (L0 ++ blksL (bl.take k)))) (fun ix _ => n - (intOf ix).toNat)
    case atStart => exact ⟨0, rfl, Nat.zero_le _, by simpa [blksL] using HS0⟩
    case round =>
      obtain ⟨k, rfl, hkn, HSk⟩ := hrel
      by_cases hlt : k < n
      · have hkl : k < bl.length := by rw [HB.out]; exact hlt
        obtain ⟨ad, rfl, c0, c1, c2, c3, c4, c5, c6⟩ := rd_blk (HR.out.rd.below HSk.out.b) hkl
        have hbk := HO.out.bl _ (List.getElem_mem hkl)
        have htk := rowK_low bl hkl HL.out
        have hsh := or_lost hbk.lo htk
        have HST := Lib.hid (blksL_take bl hkl)
        have HW := Lib.hid (blk_words hbk htk)
        have HLn : Hid ((L0 ++ blksL (bl.take k)).length ≤ 1000) := by
          show _ ≤ 1000
          rw [List.length_append, blksL_length, List.length_take]; omega
        generalize bl[k] = b at *
        clear hbk htk
        have HRD : Hid (∀ o, Rd ((wr.alloc o).alloc (.cells #[.int .u32 b.s, .int .u32 ((b.lo : Int) * 16777216 + b.t), .int .u32 b.h, .int .u32 b.j, .int .u32 b.la, .int .u32 b.d] 24)) (some ⟨wr.heap.size + 1, 0, none⟩) (u32s [b.s, b.lo * 16777216 + b.t, b.h, b.j, b.la, b.d])) := fun o =>
          lit32' (by simp) _ _ (by simp [u32s]) (by simp [maxLen])
        have HNN := Lib.hid (ne_new' (w := wr.alloc (.map #[] 0)) (g' := wr.heap.size + 1) (by simp) (HSk.out.alloc (.map #[] 0)).pen)
        go_wp2_with (go_at_call 156; (with_reducible refine (words_any _ w.heap.size (w1.heap.size + 1) _ (some ⟨wr.heap.size + 1, 0, none⟩) 6 6 [b.s, b.lo * 16777216 + b.t, b.h, b.j, b.la, b.d] ((HSk.out.alloc _).alloc _).pen HLn.out rfl (by omega) (Nat.le_refl _) (by unfold maxLen; omega) (HRD.out _) HNN.out HW.out).mono ?_); rintro e w6 ⟨rfl, hP, hG⟩; have hS6 := ((HSk.out.alloc _).alloc _).grow hP hG; clear hP hG; replace hS6 := Lib.hid hS6)
        exact ⟨⟨k + 1, rfl, by omega, by rw [HST.out, ← List.append_assoc]; exact hS6⟩, by simp [intOf]; omega⟩
      · obtain ⟨⟨B, cB, hh, ho⟩, hle⟩ := HSk.out.pen
        obtain ⟨q0, f0⟩ := cell1 hh
        have e1 : bl.take k = bl := List.take_of_length_le (by rw [HB.out]; omega)
        rw [e1] at hh ho q0
        have HO2 := Lib.hid ho
        clear hh ho f0 e1
        rw [← HE.out] at HO2 q0
        generalize hm : (repL ⟨K, s, ntp, tm, pk, oc, bl, go, me, pr⟩).length = m at *
        go_wp2
        go_ret2
        exact ⟨B, m, cB, rfl, hm.symm, HO2.out, HSk.out.b⟩
  · have hk : ¬ (K : Int) = 200 := by simpa using he
    obtain ⟨L0, hS0, hE, hL0⟩ : ∃ L0, PutS w w3 (.cells #[.int .i64 K, .int .u32 s, .int .u64 ntp, .int .u32 tm, .int .u32 pk, .int .u32 oc, .slice A n c, .slice G gn gc, .int .u32 me, .slice P pn pc] 54) (w1.heap.size + 1) L0 ∧ repL ⟨K, s, ntp, tm, pk, oc, bl, go, me, pr⟩ = L0 ++ blksL bl ∧ L0.length ≤ 60 :=
      ⟨_, hS3, by rw [repL]; simp only [HB.out, Int.toNat_natCast]; rw [if_neg hk]; simp [fours], by simp [enc_length, fours_length]⟩
    clear hS hS3 hk he
    have HE := Lib.hid hE
    have HS0 := Lib.hid hS0
    clear hE hS0
    go_loopw [60] (fun ix wr => ∃ k : Nat, ix = .int .i64 k ∧ k ≤ n ∧ Hid (PutS w wr (.cells #[.int .i64 K, .int .u32 s, .int .u64 ntp, .int .u32 tm, .int .u32 pk, .int .u32 oc, .slice A n c, .slice G gn gc, .int .u32 me, .slice P pn pc] 54) (w1.heap.size + 1) (L0 ++ blksL (bl.take k)))) (fun ix _ => n - (intOf ix).toNat)
    case atStart => exact ⟨0, rfl, Nat.zero_le _, by simpa [blksL] using HS0⟩
    case round =>
      obtain ⟨k, rfl, hkn, HSk⟩ := hrel
      by_cases hlt : k < n
      · have hkl : k < bl.length := by rw [HB.out]; exact hlt
        obtain ⟨ad, rfl, c0, c1, c2, c3, c4, c5, c6⟩ := rd_blk (HR.out.rd.below HSk.out.b) hkl
        have hbk := HO.out.bl _ (List.getElem_mem hkl)
        have htk := rowK_low bl hkl HL.out
        have hsh := or_lost hbk.lo htk
        have HST := Lib.hid (blksL_take bl hkl)
        have HW := Lib.hid (blk_words hbk htk)
        have HLn : Hid ((L0 ++ blksL (bl.take k)).length ≤ 1000) := by
          show _ ≤ 1000
          rw [List.length_append, blksL_length, List.length_take]; omega
        generalize bl[k] = b at *
        clear hbk htk
        have HRD : Hid (∀ o, Rd ((wr.alloc o).alloc (.cells #[.int .u32 b.s, .int .u32 ((b.lo : Int) * 16777216 + b.t), .int .u32 b.h, .int .u32 b.j, .int .u32 b.la, .int .u32 b.d] 24)) (some ⟨wr.heap.size + 1, 0, none⟩) (u32s [b.s, b.lo * 16777216 + b.t, b.h, b.j, b.la, b.d])) := fun o =>
          lit32' (by simp) _ _ (by simp [u32s]) (by simp [maxLen])
        have HNN := Lib.hid (ne_new' (w := wr.alloc (.map #[] 0)) (g' := wr.heap.size + 1) (by simp) (HSk.out.alloc (.map #[] 0)).pen)
        go_wp2_with (go_at_call 156; (with_reducible refine (words_any _ w.heap.size (w1.heap.size + 1) _ (some ⟨wr.heap.size + 1, 0, none⟩) 6 6 [b.s, b.lo * 16777216 + b.t, b.h, b.j, b.la, b.d] ((HSk.out.alloc _).alloc _).pen HLn.out rfl (by omega) (Nat.le_refl _) (by unfold maxLen; omega) (HRD.out _) HNN.out HW.out).mono ?_); rintro e w6 ⟨rfl, hP, hG⟩; have hS6 := ((HSk.out.alloc _).alloc _).grow hP hG; clear hP hG; replace hS6 := Lib.hid hS6)
        exact ⟨⟨k + 1, rfl, by omega, by rw [HST.out, ← List.append_assoc]; exact hS6⟩, by simp [intOf]; omega⟩
      · obtain ⟨⟨B, cB, hh, ho⟩, hle⟩ := HSk.out.pen
        obtain ⟨q0, f0⟩ := cell1 hh
        have e1 : bl.take k = bl := List.take_of_length_le (by rw [HB.out]; omega)
        rw [e1] at hh ho q0
        have HO2 := Lib.hid ho
        clear hh ho f0 e1
        rw [← HE.out] at HO2 q0
        generalize hm : (repL ⟨K, s, ntp, tm, pk, oc, bl, go, me, pr⟩).length = m at *
        go_wp2
        go_ret2
        exact ⟨B, m, cB, rfl, hm.symm, HO2.out, HSk.out.b⟩
set_option maxRecDepth 20000 in
set_option maxHeartbeats 1000000 in
theorem reput_no (i : Itm) (A : Option Addr) (n c : Nat) (G : Option Addr) (gn gc : Nat) (P : Option Addr) (pn pc : Nat) (w : World)
    (hr : Row w A n c 7 28 (rowK i.bl)) (hg : i.go.length = gn) (hp : i.pr.length = pn) (hm : mayR i = false) :
    Calls Try.prog 128 #[.agg #[.int .i64 i.k, .int .u32 i.s, .int .u64 i.ntp, .int .u32 i.tm, .int .u32 i.pk, .int .u32 i.oc, .slice A n c, .slice G gn gc, .int .u32 i.me, .slice P pn pc]] w fun e w' =>
      e = .returned (.tuple #[.slice none 0 0, .int .i64 (perrR i)]) ∧ Below w.heap.size w w' := by
  have HR := Lib.hid hr
  have HM := Lib.hid hm
  clear hr hm
  cases hk : knownB i.k
  · have he : ((perrR i : Nat) : Int) = 4 := by simp [perrR, hk]
    go_enter Try.func128, Try.ntmps128
    go_wp2_with (go_at_call 132; (with_reducible refine (known_any _ _).mono ?_); rintro e w1 ⟨rfl, rfl⟩; rw [hk])
    go_ret2
    exact ⟨by rw [he]; rfl, (Below.refl _ _).alloc (Nat.le_refl _) _⟩
  · have he : ((perrR i : Nat) : Int) = 1 := by simp [perrR, hk, HM.out]
    go_enter Try.func128, Try.ntmps128
    go_wp2_with (first
      | (go_at_call 132; (with_reducible refine (known_any _ _).mono ?_); rintro e w1 ⟨rfl, rfl⟩; rw [hk])
      | (go_at_call 90; (with_reducible refine (may_any i A n c G gn gc P pn pc _ (HR.out.below ((Below.refl _ _).alloc (Nat.le_refl _) _)) hg hp).mono ?_); rintro e w1 ⟨rfl, hb1⟩; rw [HM.out]))
    go_ret2
    exact ⟨by rw [he]; rfl, ((Below.refl w.heap.size w).alloc (Nat.le_refl _) _).trans (hb1.mono (by simp))⟩
/-- Put of any item. -/
theorem reput_any (i : Itm) (A : Option Addr) (n c : Nat) (G : Option Addr) (gn gc : Nat) (P : Option Addr) (pn pc : Nat) (w : World)
    (hr : Row w A n c 7 28 (rowK i.bl)) (hg : i.go.length = gn) (hp : i.pr.length = pn) (hok : i.Ok) :
    Calls Try.prog 128 #[.agg #[.int .i64 i.k, .int .u32 i.s, .int .u64 i.ntp, .int .u32 i.tm, .int .u32 i.pk, .int .u32 i.oc, .slice A n c, .slice G gn gc, .int .u32 i.me, .slice P pn pc]] w fun e w' =>
      ∃ B m c', e = .returned (.tuple #[.slice B m c', .int .i64 (perrR i)]) ∧ Hid (m = (outR i).length) ∧ w'.ownsRow w.heap.size 5 1 (.slice B m c') m (bys (outR i)) ∧ Below w.heap.size w w' := by
  cases hm : mayR i
  · refine (reput_no i A n c G gn gc P pn pc w hr hg hp hm).mono ?_
    rintro e w' ⟨rfl, hb⟩
    have e1 : outR i = [] := by simp [outR, hm]
    exact ⟨none, 0, 0, rfl, by rw [Hid, e1]; rfl, by rw [e1]; exact World.ownsRow_nil _ _ _ _, hb⟩
  · have e1 : outR i = repL i := by simp [outR, hm]
    have e2 : perrR i = 0 := by
      have : knownB i.k = true := by
        cases h : knownB i.k
        · simp [mayR, h] at hm
        · rfl
      simp [perrR, hm, this]
    refine (reput_yes i.k i.s i.ntp i.tm i.pk i.oc i.bl i.go i.me i.pr A n c G gn gc P pn pc w hr hg hp hok hm).mono ?_
    rintro e w' ⟨B, m, c', rfl, h1, h2, h3⟩
    exact ⟨B, m, c', by rw [e2]; rfl, by rw [e1]; exact h1, by rw [e1]; exact h2, h3⟩
end Go.Proofs.Ytknlkmencdlpcaa
