/-
Reports, the plain law: what is put is read as it was; what is read is put as it was; a beginning is too short. No function of the program is spoken of.
Reports, the plain law, second part: what is put is read as it was, whatever is behind it; what is read is put as it was. No function of the program is spoken of.
-/
import Derived.Test.YtknlkmencdlpcaaRep6
import Derived.Test.YtknlkmencdlpcaaRep3
namespace Go.Proofs.Ytknlkmencdlpcaa
set_option linter.unusedVariables false
set_option linter.unusedSimpArgs false
open Go Go.RowKit

theorem getN_mid (pre m post : List UInt8) (a s : Nat) (ha : pre.length = a) (hs : m.length = s) (h1 : 1 ≤ s) (h8 : s ≤ 8) : getN (pre ++ (m ++ post)) a s = beN m := by
  subst ha hs
  unfold getN
  rw [if_pos (by rw [withinB_iff]; simp; omega)]
  simp only [part, Int.toNat_natCast, List.drop_left, List.take_left]
theorem getN_enc (pre post : List UInt8) (a s n : Nat) (A S : Int) (hA : A = a) (hS : S = s) (ha : pre.length = a) (h1 : 1 ≤ s) (h8 : s ≤ 8) (hn : n < 256 ^ s) : getN (pre ++ (enc s n ++ post)) A S = n := by
  subst hA hS
  rw [getN_mid pre (enc s n) post a s ha (enc_length s n) h1 h8, beN_enc s n hn]
theorem enc_split (a b x y : Nat) (hx : x < 256 ^ a) (hy : y < 256 ^ b) : enc (a + b) (x * 256 ^ b + y) = enc a x ++ enc b y := by
  have h := enc_beN (enc a x ++ enc b y)
  rw [beN_append, beN_enc a x hx, beN_enc b y hy, enc_length, List.length_append, enc_length, enc_length] at h
  exact h
theorem blkL_parts {b : Blk} (h : b.Ok) (ht : b.t < 16777216) : blkL b = enc 4 b.s ++ (enc 1 b.lo ++ (enc 3 b.t ++ (enc 4 b.h ++ (enc 4 b.j ++ (enc 4 b.la ++ enc 4 b.d))))) := by
  unfold blkL
  have e := enc_split 1 3 b.lo b.t h.lo ht
  rw [show (256 : Nat) ^ 3 = 16777216 from rfl] at e
  rw [show (4 : Nat) = 1 + 3 from rfl, e]
  simp
theorem app_shift (pre m post : List UInt8) : pre ++ (m ++ post) = (pre ++ m) ++ post := (List.append_assoc _ _ _).symm
theorem getK_mid {b : Blk} (h : b.Ok) (ht : b.t < 16777216) (pre post : List UInt8) (a : Nat) (ha : pre.length = a) : getK (pre ++ (blkL b ++ post)) a = b := by
  have e : ∀ x, blkL b ++ x = enc 4 b.s ++ (enc 1 b.lo ++ (enc 3 b.t ++ (enc 4 b.h ++ (enc 4 b.j ++ (enc 4 b.la ++ (enc 4 b.d ++ x)))))) := fun x => by rw [blkL_parts h ht]; simp
  rw [e]
  have g1 : getN (pre ++ (enc 4 b.s ++ (enc 1 b.lo ++ (enc 3 b.t ++ (enc 4 b.h ++ (enc 4 b.j ++ (enc 4 b.la ++ (enc 4 b.d ++ post)))))))) a 4 = b.s := getN_enc pre _ a 4 b.s a 4 rfl rfl ha (by omega) (by omega) h.s
  have g2 : getN (pre ++ (enc 4 b.s ++ (enc 1 b.lo ++ (enc 3 b.t ++ (enc 4 b.h ++ (enc 4 b.j ++ (enc 4 b.la ++ (enc 4 b.d ++ post)))))))) (a + 4 : Nat) 1 = b.lo := by
    rw [app_shift pre]
    exact getN_enc _ _ (a + 4) 1 b.lo _ 1 rfl rfl (by simp [enc_length, ha]) (by omega) (by omega) h.lo
  have g3 : getN (pre ++ (enc 4 b.s ++ (enc 1 b.lo ++ (enc 3 b.t ++ (enc 4 b.h ++ (enc 4 b.j ++ (enc 4 b.la ++ (enc 4 b.d ++ post)))))))) (a + 5 : Nat) 3 = b.t := by
    rw [app_shift pre, app_shift (pre ++ _)]
    exact getN_enc _ _ (a + 5) 3 b.t _ 3 rfl rfl (by simp [enc_length, ha]) (by omega) (by omega) ht
  have g4 : getN (pre ++ (enc 4 b.s ++ (enc 1 b.lo ++ (enc 3 b.t ++ (enc 4 b.h ++ (enc 4 b.j ++ (enc 4 b.la ++ (enc 4 b.d ++ post)))))))) (a + 8 : Nat) 4 = b.h := by
    rw [app_shift pre, app_shift (pre ++ _), app_shift (pre ++ _ ++ _)]
    exact getN_enc _ _ (a + 8) 4 b.h _ 4 rfl rfl (by simp [enc_length, ha]) (by omega) (by omega) h.h
  have g5 : getN (pre ++ (enc 4 b.s ++ (enc 1 b.lo ++ (enc 3 b.t ++ (enc 4 b.h ++ (enc 4 b.j ++ (enc 4 b.la ++ (enc 4 b.d ++ post)))))))) (a + 12 : Nat) 4 = b.j := by
    rw [app_shift pre, app_shift (pre ++ _), app_shift (pre ++ _ ++ _), app_shift (pre ++ _ ++ _ ++ _)]
    exact getN_enc _ _ (a + 12) 4 b.j _ 4 rfl rfl (by simp [enc_length, ha]) (by omega) (by omega) h.j
  have g6 : getN (pre ++ (enc 4 b.s ++ (enc 1 b.lo ++ (enc 3 b.t ++ (enc 4 b.h ++ (enc 4 b.j ++ (enc 4 b.la ++ (enc 4 b.d ++ post)))))))) (a + 16 : Nat) 4 = b.la := by
    rw [app_shift pre, app_shift (pre ++ _), app_shift (pre ++ _ ++ _), app_shift (pre ++ _ ++ _ ++ _), app_shift (pre ++ _ ++ _ ++ _ ++ _)]
    exact getN_enc _ _ (a + 16) 4 b.la _ 4 rfl rfl (by simp [enc_length, ha]) (by omega) (by omega) h.la
  have g7 : getN (pre ++ (enc 4 b.s ++ (enc 1 b.lo ++ (enc 3 b.t ++ (enc 4 b.h ++ (enc 4 b.j ++ (enc 4 b.la ++ (enc 4 b.d ++ post)))))))) (a + 20 : Nat) 4 = b.d := by
    rw [app_shift pre, app_shift (pre ++ _), app_shift (pre ++ _ ++ _), app_shift (pre ++ _ ++ _ ++ _), app_shift (pre ++ _ ++ _ ++ _ ++ _), app_shift (pre ++ _ ++ _ ++ _ ++ _ ++ _)]
    exact getN_enc _ _ (a + 20) 4 b.d _ 4 rfl rfl (by simp [enc_length, ha]) (by omega) (by omega) h.d
  unfold getK
  rw [g1, g2, g3, g4, g5, g6, g7]
theorem getKs_cons (l : List UInt8) (a m : Nat) : getKs l a (m + 1) = getK l a :: getKs l (a + 24) m := by
  unfold getKs
  rw [List.range_succ_eq_map, List.map_cons, List.map_map]
  congr 1
  refine List.map_congr_left fun j _ => ?_
  simp only [Function.comp]
  congr 1
  omega
theorem blkL_length (b : Blk) : (blkL b).length = 24 := by simp [blkL, enc_length]
theorem getKs_mid (bl : List Blk) (h : ∀ b ∈ bl, b.Ok) (ht : lowB bl = true) (pre post : List UInt8) (a m : Nat) (ha : pre.length = a) (hm : bl.length = m) : getKs (pre ++ (blksL bl ++ post)) a m = bl := by
  induction bl generalizing pre a m with
  | nil => subst hm; rfl
  | cons b bl ih =>
    subst hm
    have hb := rowK_low (b :: bl) (k := 0) (by simp) ht
    have hl : lowB bl = true := by unfold lowB at ht ⊢; rw [List.all_cons, Bool.and_eq_true] at ht; exact ht.2
    rw [List.length_cons, getKs_cons, blksL, List.flatMap_cons, ← blksL, List.append_assoc, getK_mid (h b (by simp)) hb pre _ a ha, app_shift pre]
    rw [ih (fun x hx => h x (by simp [hx])) hl (pre ++ blkL b) (a + 24) bl.length (by simp [blkL_length, ha]) rfl]

theorem enc2_two (n : Nat) : ∃ x y, enc 2 n = [x, y] := ⟨UInt8.ofNat (n / 256), UInt8.ofNat n, rfl⟩
theorem sizeR_four (k : Int) (m : Nat) : ∃ q, sizeR k m = 4 * (q + 1) := by
  unfold sizeR
  split
  · exact ⟨6 + 6 * m, by omega⟩
  · exact ⟨1 + 6 * m, by omega⟩
/-- What stands ahead in a report's bytes. -/
theorem rep_front {i : Itm} (hm : mayR i = true) (x : List UInt8) :
    byteN (repL i ++ x) 0 = 128 + i.bl.length ∧ ((byteN (repL i ++ x) 1 : Nat) : Int) = i.k ∧ getN (repL i ++ x) 2 2 = sizeR i.k i.bl.length / 4 - 1 ∧ i.bl.length ≤ 15 ∧ (i.k = 200 ∨ i.k = 201) ∧ (repL i).length = sizeR i.k i.bl.length := by
  simp only [mayR, Bool.and_eq_true, decide_eq_true_eq] at hm
  obtain ⟨⟨⟨hk, _⟩, h15⟩, _⟩ := hm
  have hk2 : i.k = 200 ∨ i.k = 201 := by simpa [knownB] using hk
  have hlen : (repL i).length = sizeR i.k i.bl.length := by
    unfold repL sizeR
    rcases hk2 with h | h
    · rw [if_pos h, if_pos h]; simp [enc_length, blksL_length]; omega
    · rw [if_neg (by omega), if_neg (by omega)]; simp [enc_length, blksL_length]; omega
  refine ⟨?_, ?_, ?_, h15, hk2, hlen⟩
  · unfold repL byteN
    simp
    omega
  · unfold repL byteN
    simp
    omega
  · have e : repL i ++ x = [UInt8.ofNat (128 + i.bl.length), UInt8.ofNat i.k.toNat] ++ (enc 2 (sizeR i.k i.bl.length / 4 - 1) ++ (enc 4 i.s ++ ((if i.k = 200 then enc 8 i.ntp ++ (enc 4 i.tm ++ (enc 4 i.pk ++ enc 4 i.oc)) else []) ++ (blksL i.bl ++ x)))) := by
      unfold repL; simp
    rw [e]
    exact getN_enc _ _ 2 2 _ 2 2 rfl rfl rfl (by omega) (by omega) (fit16 h15)
/-- A beginning of a report's bytes is too short. -/
theorem rep_cut {i : Itm} (hm : mayR i = true) (n : Nat) (hn : n < (repL i).length) : rightE ((repL i).take n) = 2 ∧ rightN ((repL i).take n) = 0 := by
  obtain ⟨h1, h2, h3, h4, h5, h6⟩ := rep_front hm []
  rw [List.append_nil] at h1 h2 h3
  have e : rightE ((repL i).take n) = 2 := by
    unfold rightE
    by_cases hs : n < 4
    · rw [if_pos (by rw [List.length_take]; omega)]
    · have b0 : byteN ((repL i).take n) 0 = byteN (repL i) 0 := by unfold byteN; rw [List.getElem?_take, if_pos (by omega)]
      have b1 : byteN ((repL i).take n) 1 = byteN (repL i) 1 := by unfold byteN; rw [List.getElem?_take, if_pos (by omega)]
      have g : getN ((repL i).take n) 2 2 = getN (repL i) 2 2 := by
        unfold getN
        rw [if_pos (by rw [withinB_iff, List.length_take]; omega), if_pos (by rw [withinB_iff]; omega)]
        congr 1
        unfold part
        rw [List.drop_take, List.take_take]
        congr 1
        simp; omega
      have hl : longR ((repL i).take n) = sizeR i.k i.bl.length := by
        unfold longR manyR
        rw [b0, b1, h1, h2]
        congr 1
        omega
      have hmn : manyR ((repL i).take n) = i.bl.length := by unfold manyR; rw [b0, h1]; omega
      obtain ⟨q, hq⟩ := sizeR_four i.k i.bl.length
      rw [if_neg (by rw [List.length_take]; omega), b0, b1, g, hl, hmn, h1, h2, h3, if_neg (by omega), if_neg (by rcases h5 with h | h <;> rw [h] <;> decide), if_neg (by omega), if_pos (by rw [List.length_take]; omega)]
  exact ⟨e, by unfold rightN; rw [e]; rfl⟩
end Go.Proofs.Ytknlkmencdlpcaa

namespace Go.Proofs.Ytknlkmencdlpcaa
set_option linter.unusedVariables false
set_option linter.unusedSimpArgs false
open Go Go.RowKit

theorem may_parts {i : Itm} (hm : mayR i = true) : (i.k = 200 ∨ i.k = 201) ∧ i.go = [] ∧ i.pr = [] ∧ i.me = 0 ∧ (i.k = 200 ∨ (i.ntp = 0 ∧ i.tm = 0 ∧ i.pk = 0 ∧ i.oc = 0)) ∧ i.bl.length ≤ 15 ∧ lowB i.bl = true := by
  simp only [mayR, bareB, knownB, Bool.and_eq_true, decide_eq_true_eq] at hm
  obtain ⟨⟨⟨h1, h2, h3, h4, h5⟩, h6⟩, h7⟩ := hm
  exact ⟨h1, h2, h3, h4, h5, h6, h7⟩
theorem rep_right {i : Itm} (hm : mayR i = true) (x : List UInt8) : rightE (repL i ++ x) = 0 ∧ rightN (repL i ++ x) = (repL i).length ∧ manyR (repL i ++ x) = i.bl.length := by
  obtain ⟨h1, h2, h3, h4, h5, h6⟩ := rep_front hm x
  have hmn : manyR (repL i ++ x) = i.bl.length := by unfold manyR; rw [h1]; omega
  have hl : longR (repL i ++ x) = sizeR i.k i.bl.length := by unfold longR; rw [h2, hmn]
  have hs : 8 ≤ sizeR i.k i.bl.length := by unfold sizeR; omega
  have hlen : (repL i ++ x).length = sizeR i.k i.bl.length + x.length := by rw [List.length_append, h6]
  obtain ⟨q, hq⟩ := sizeR_four i.k i.bl.length
  have e : rightE (repL i ++ x) = 0 := by
    unfold rightE
    rw [if_neg (by omega), h1, if_neg (by omega), h2, if_neg (by rcases h5 with h | h <;> rw [h] <;> decide), hmn, h3, hl, if_neg (by omega), if_neg (by omega)]
  exact ⟨e, by unfold rightN; rw [e, hl, h6]; rfl, hmn⟩
theorem getI_put {i : Itm} (hm : mayR i = true) (ok : i.Ok) (x : List UInt8) : getI (repL i ++ x) = i := by
  obtain ⟨e0, _, hmn⟩ := rep_right hm x
  obtain ⟨h1, h2, h3, h4, h5, h6⟩ := rep_front hm x
  obtain ⟨_, g1, g2, g3, g4, g5, g6⟩ := may_parts hm
  obtain ⟨k, s, ntp, tm, pk, oc, bl, go, me, pr⟩ := i
  simp only at h1 h2 h3 h4 h5 h6 g1 g2 g3 g4 g5 g6 hmn
  subst g1 g2 g3
  have ks := ok.s
  have kn := ok.ntp
  have kt := ok.tm
  have kp := ok.pk
  have ko := ok.oc
  have kb := ok.bl
  simp only at ks kn kt kp ko kb
  unfold getI
  rw [if_neg (by rw [e0]; simp), hmn]
  rcases h5 with rfl | rfl
  · have e : repL ⟨200, s, ntp, tm, pk, oc, bl, [], 0, []⟩ ++ x = [UInt8.ofNat (128 + bl.length), 200] ++ (enc 2 (sizeR 200 bl.length / 4 - 1) ++ (enc 4 s ++ (enc 8 ntp ++ (enc 4 tm ++ (enc 4 pk ++ (enc 4 oc ++ (blksL bl ++ x))))))) := by
      unfold repL; simp
    have b1 : byteN (repL ⟨200, s, ntp, tm, pk, oc, bl, [], 0, []⟩ ++ x) 1 = 200 := by omega
    rw [if_pos b1, e]
    have a0 := fun (y : List UInt8) => app_shift [UInt8.ofNat (128 + bl.length), (200 : UInt8)] (enc 2 (sizeR 200 bl.length / 4 - 1)) y
    have c1 : getN ([UInt8.ofNat (128 + bl.length), 200] ++ (enc 2 (sizeR 200 bl.length / 4 - 1) ++ (enc 4 s ++ (enc 8 ntp ++ (enc 4 tm ++ (enc 4 pk ++ (enc 4 oc ++ (blksL bl ++ x)))))))) 4 4 = s := by
      rw [a0]; exact getN_enc _ _ 4 4 s 4 4 rfl rfl (by simp [enc_length]) (by omega) (by omega) ks
    have c2 : getN ([UInt8.ofNat (128 + bl.length), 200] ++ (enc 2 (sizeR 200 bl.length / 4 - 1) ++ (enc 4 s ++ (enc 8 ntp ++ (enc 4 tm ++ (enc 4 pk ++ (enc 4 oc ++ (blksL bl ++ x)))))))) 8 8 = ntp := by
      rw [a0, app_shift]; exact getN_enc _ _ 8 8 ntp 8 8 rfl rfl (by simp [enc_length]) (by omega) (by omega) kn
    have c3 : getN ([UInt8.ofNat (128 + bl.length), 200] ++ (enc 2 (sizeR 200 bl.length / 4 - 1) ++ (enc 4 s ++ (enc 8 ntp ++ (enc 4 tm ++ (enc 4 pk ++ (enc 4 oc ++ (blksL bl ++ x)))))))) 16 4 = tm := by
      rw [a0, app_shift, app_shift (_ ++ _ ++ _)]; exact getN_enc _ _ 16 4 tm 16 4 rfl rfl (by simp [enc_length]) (by omega) (by omega) kt
    have c4 : getN ([UInt8.ofNat (128 + bl.length), 200] ++ (enc 2 (sizeR 200 bl.length / 4 - 1) ++ (enc 4 s ++ (enc 8 ntp ++ (enc 4 tm ++ (enc 4 pk ++ (enc 4 oc ++ (blksL bl ++ x)))))))) 20 4 = pk := by
      rw [a0, app_shift, app_shift (_ ++ _ ++ _), app_shift (_ ++ _ ++ _ ++ _)]; exact getN_enc _ _ 20 4 pk 20 4 rfl rfl (by simp [enc_length]) (by omega) (by omega) kp
    have c5 : getN ([UInt8.ofNat (128 + bl.length), 200] ++ (enc 2 (sizeR 200 bl.length / 4 - 1) ++ (enc 4 s ++ (enc 8 ntp ++ (enc 4 tm ++ (enc 4 pk ++ (enc 4 oc ++ (blksL bl ++ x)))))))) 24 4 = oc := by
      rw [a0, app_shift, app_shift (_ ++ _ ++ _), app_shift (_ ++ _ ++ _ ++ _), app_shift (_ ++ _ ++ _ ++ _ ++ _)]; exact getN_enc _ _ 24 4 oc 24 4 rfl rfl (by simp [enc_length]) (by omega) (by omega) ko
    have c6 : getKs ([UInt8.ofNat (128 + bl.length), 200] ++ (enc 2 (sizeR 200 bl.length / 4 - 1) ++ (enc 4 s ++ (enc 8 ntp ++ (enc 4 tm ++ (enc 4 pk ++ (enc 4 oc ++ (blksL bl ++ x)))))))) 28 bl.length = bl := by
      rw [a0, app_shift, app_shift (_ ++ _ ++ _), app_shift (_ ++ _ ++ _ ++ _), app_shift (_ ++ _ ++ _ ++ _ ++ _), app_shift (_ ++ _ ++ _ ++ _ ++ _ ++ _)]
      exact getKs_mid bl kb g6 _ x 28 bl.length (by simp [enc_length]) rfl
    rw [c1, c2, c3, c4, c5, c6]
  · have e : repL ⟨201, s, ntp, tm, pk, oc, bl, [], 0, []⟩ ++ x = [UInt8.ofNat (128 + bl.length), 201] ++ (enc 2 (sizeR 201 bl.length / 4 - 1) ++ (enc 4 s ++ (blksL bl ++ x))) := by
      unfold repL; simp
    obtain ⟨rfl, rfl, rfl, rfl⟩ : ntp = 0 ∧ tm = 0 ∧ pk = 0 ∧ oc = 0 := by rcases g4 with h | h <;> omega
    have b1 : byteN (repL ⟨201, s, 0, 0, 0, 0, bl, [], 0, []⟩ ++ x) 1 = 201 := by omega
    rw [if_neg (by omega), b1, e]
    have a0 := fun (y : List UInt8) => app_shift [UInt8.ofNat (128 + bl.length), (201 : UInt8)] (enc 2 (sizeR 201 bl.length / 4 - 1)) y
    have c1 : getN ([UInt8.ofNat (128 + bl.length), 201] ++ (enc 2 (sizeR 201 bl.length / 4 - 1) ++ (enc 4 s ++ (blksL bl ++ x)))) 4 4 = s := by
      rw [a0]; exact getN_enc _ _ 4 4 s 4 4 rfl rfl (by simp [enc_length]) (by omega) (by omega) ks
    have c6 : getKs ([UInt8.ofNat (128 + bl.length), 201] ++ (enc 2 (sizeR 201 bl.length / 4 - 1) ++ (enc 4 s ++ (blksL bl ++ x)))) 8 bl.length = bl := by
      rw [a0, app_shift]
      exact getKs_mid bl kb g6 _ x 8 bl.length (by simp [enc_length]) rfl
    rw [c1, c6]
    rfl

theorem enc_part (l : List UInt8) (a s : Nat) (A S : Int) (hA : A = a) (hS : S = s) (h : a + s ≤ l.length) (h1 : 1 ≤ s) (h8 : s ≤ 8) : enc s (getN l A S) = part l a s := by
  subst hA hS
  unfold getN
  rw [if_pos (by rw [withinB_iff]; omega), Int.toNat_natCast, Int.toNat_natCast]
  have := enc_beN (part l a s)
  rwa [part_length h] at this
theorem part_join (l : List UInt8) (a s t : Nat) : part l a s ++ part l (a + s) t = part l a (s + t) := by
  unfold part
  rw [List.take_add, List.drop_drop]
theorem take_part (l : List UInt8) (a s : Nat) : l.take a ++ part l a s = l.take (a + s) := by
  unfold part
  rw [List.take_add]
theorem blk_part (l : List UInt8) (a : Nat) (h : a + 24 ≤ l.length) : blkL (getK l a) = part l a 24 := by
  have ht : (getK l a).t < 16777216 := getN_ltS l (a + 5) 3
  rw [blkL_parts (getK_ok l a) ht]
  unfold getK
  simp only
  rw [enc_part l a 4 a 4 rfl rfl (by omega) (by omega) (by omega), enc_part l (a + 4) 1 _ 1 rfl rfl (by omega) (by omega) (by omega), enc_part l (a + 5) 3 _ 3 rfl rfl (by omega) (by omega) (by omega), enc_part l (a + 8) 4 _ 4 rfl rfl (by omega) (by omega) (by omega),
    enc_part l (a + 12) 4 _ 4 rfl rfl (by omega) (by omega) (by omega), enc_part l (a + 16) 4 _ 4 rfl rfl (by omega) (by omega) (by omega), enc_part l (a + 20) 4 _ 4 rfl rfl (by omega) (by omega) (by omega)]
  rw [part_join l (a + 16) 4 4, part_join l (a + 12) 4 8, part_join l (a + 8) 4 12, part_join l (a + 5) 3 16, part_join l (a + 4) 1 19, part_join l a 4 20]
theorem blks_part (l : List UInt8) (a m : Nat) (h : a + 24 * m ≤ l.length) : blksL (getKs l a m) = part l a (24 * m) := by
  induction m generalizing a with
  | zero => rw [Nat.mul_zero, part]; simp [getKs, blksL]
  | succ m ih =>
    rw [getKs_cons, blksL, List.flatMap_cons, ← blksL, blk_part l a (by omega), ih (a + 24) (by omega), part_join, show 24 + 24 * m = 24 * (m + 1) by omega]
theorem low_getKs (l : List UInt8) (a m : Nat) : lowB (getKs l a m) = true := by
  unfold lowB
  rw [List.all_eq_true]
  intro b hb
  unfold getKs at hb
  obtain ⟨j, _, rfl⟩ := List.mem_map.1 hb
  have : (getK l (a + 24 * j)).t < 16777216 := getN_ltS l (a + 24 * j + 5) 3
  simpa using this
/-- What is read is put as it was. -/
theorem getI_back {l : List UInt8} (h : rightE l = 0) : mayR (getI l) = true ∧ (getI l).Ok ∧ repL (getI l) = l.take (rightN l) ∧ 8 ≤ rightN l ∧ rightN l ≤ l.length ∧ (getI l).go = [] ∧ (getI l).pr = [] ∧ (getI l).me = 0 := by
  obtain ⟨h4, h32, hkn, h15, hlo, hz⟩ := right_ok h
  have hN : rightN l = longR l := by unfold rightN; rw [h]; rfl
  have hk : byteN l 1 = 200 ∨ byteN l 1 = 201 := by simp [knownB] at hkn; omega
  have hx := byteN_lt l 0
  have okk : ∀ a, ∀ b ∈ getKs l a (manyR l), b.Ok := fun a b hb => by
    unfold getKs at hb
    obtain ⟨j, _, rfl⟩ := List.mem_map.1 hb
    exact getK_ok l _
  have hm0 : 128 + manyR l = byteN l 0 := by unfold manyR; omega
  have d0 : UInt8.ofNat (128 + manyR l) = l[0] := by
    rw [hm0, byteN, List.getElem?_eq_getElem (by omega)]
    exact UInt8.ofNat_toNat
  have d1 : UInt8.ofNat (byteN l 1) = l[1] := by
    rw [byteN, List.getElem?_eq_getElem (by omega)]
    exact UInt8.ofNat_toNat
  have t2 : l.take 2 = [l[0], l[1]] := by
    rcases l with _ | ⟨a, _ | ⟨b, l⟩⟩ <;> simp at h4 ⊢
  have e2 : enc 2 (longR l / 4 - 1) = part l 2 2 := by
    rw [show longR l / 4 - 1 = getN l 2 2 by omega]
    exact enc_part l 2 2 2 2 rfl rfl (by omega) (by omega) (by omega)
  have f1 := getN_ltS l 4 4
  have f2 := getN_ltS l 8 8
  have f3 := getN_ltS l 16 4
  have f4 := getN_ltS l 20 4
  have f5 := getN_ltS l 24 4
  by_cases hc : byteN l 1 = 200
  · have hL : longR l = 28 + 24 * manyR l := by unfold longR sizeR; rw [if_pos (by omega)]; omega
    have hI : getI l = ⟨200, getN l 4 4, getN l 8 8, getN l 16 4, getN l 20 4, getN l 24 4, getKs l 28 (manyR l), [], 0, []⟩ := by unfold getI; rw [if_neg (by simp [h]), if_pos hc]
    refine ⟨?_, ?_, ?_, by omega, by omega, by rw [hI], by rw [hI], by rw [hI]⟩
    · rw [hI]; simp [mayR, knownB, bareB, getKs_length, low_getKs]; omega
    · rw [hI]; exact ⟨⟨by simp, by simp⟩, f1, f2, f3, f4, f5, okk 28, (fun x hx => by cases hx), by simp, (fun p hp => by cases hp)⟩
    · rw [hI, hN, hL]
      unfold repL
      simp only [getKs_length, if_pos]
      have hsz : sizeR 200 (manyR l) = longR l := by unfold longR; rw [hc]; rfl
      rw [hsz, e2, d0, show UInt8.ofNat (200 : Int).toNat = l[1] by rw [← d1, hc]; rfl, ← t2]
      rw [enc_part l 4 4 4 4 rfl rfl (by omega) (by omega) (by omega), enc_part l 8 8 8 8 rfl rfl (by omega) (by omega) (by omega), enc_part l 16 4 16 4 rfl rfl (by omega) (by omega) (by omega), enc_part l 20 4 20 4 rfl rfl (by omega) (by omega) (by omega), enc_part l 24 4 24 4 rfl rfl (by omega) (by omega) (by omega), blks_part l 28 (manyR l) (by omega)]
      rw [take_part, take_part, ← List.append_assoc (part l 8 8), part_join l 8 8 4, ← List.append_assoc (part l 8 (8 + 4)), part_join l 8 (8 + 4) 4, part_join l 8 (8 + 4 + 4) 4, take_part, take_part]
  · have hc1 : byteN l 1 = 201 := by omega
    have hL : longR l = 8 + 24 * manyR l := by unfold longR sizeR; rw [if_neg (by omega)]; omega
    have hI : getI l = ⟨byteN l 1, getN l 4 4, 0, 0, 0, 0, getKs l 8 (manyR l), [], 0, []⟩ := by unfold getI; rw [if_neg (by simp [h]), if_neg hc]
    refine ⟨?_, ?_, ?_, by omega, by omega, by rw [hI], by rw [hI], by rw [hI]⟩
    · rw [hI, hc1]; simp [mayR, knownB, bareB, getKs_length, low_getKs]; omega
    · rw [hI, hc1]; exact ⟨⟨by simp, by simp⟩, f1, by simp, by simp, by simp, by simp, okk 8, (fun x hx => by cases hx), by simp, (fun p hp => by cases hp)⟩
    · rw [hI, hN, hL]
      unfold repL
      simp only [getKs_length]
      have hsz : sizeR (byteN l 1) (manyR l) = longR l := rfl
      rw [if_neg (by omega), hsz, e2, d0, Int.toNat_natCast, d1, ← t2]
      rw [enc_part l 4 4 4 4 rfl rfl (by omega) (by omega) (by omega), blks_part l 8 (manyR l) (by omega), List.append_nil]
      rw [take_part, take_part, take_part]
end Go.Proofs.Ytknlkmencdlpcaa
