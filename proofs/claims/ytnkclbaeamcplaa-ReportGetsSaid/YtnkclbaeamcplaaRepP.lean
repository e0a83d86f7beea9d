/-
Reports, the plain law: what is put is read as it was; what is read is put as it was; a beginning is too short. No function of the program is spoken of.
-/
import Derived.Test.YtnkclbaeamcplaaRep6
import Derived.Test.YtnkclbaeamcplaaRep3
namespace Go.Proofs.Ytnkclbaeamcplaa
set_option linter.unusedVariables false
set_option linter.unusedSimpArgs false
open Go Go.RowKit

theorem getN_mid (pre m post : List UInt8) (a s : Nat) (ha : pre.length = a) (hs : m.length = s) (h1 : 1 ≤ s) (h8 : s ≤ 8) : getN (pre ++ (m ++ post)) a s = beN m := by
  subst ha hs
  unfold getN
  rw [if_pos (by rw [withinB_iff]; simp; omega)]
  simp only [part, Int.toNat_natCast, List.drop_left, List.take_left]
theorem getN_enc (pre post : List UInt8) (a s n : Nat) (A S : Int) (hA : A = a) (hS : S = s) (ha : pre.length = a) (h1 : 1 ≤ s) (h8 : s ≤ 8) (hn : n < 256 ^ s) : getN (pre ++ (enc s n ++ post)) A S = n := by
  subst hA hS
  rw [getN_mid pre (enc s n) post a s ha (enc_length s n) h1 h8, beN_enc s n hn]
theorem enc_split (a b x y : Nat) (hx : x < 256 ^ a) (hy : y < 256 ^ b) : enc (a + b) (x * 256 ^ b + y) = enc a x ++ enc b y := by
  have h := enc_beN (enc a x ++ enc b y)
  rw [beN_append, beN_enc a x hx, beN_enc b y hy, enc_length, List.length_append, enc_length, enc_length] at h
  exact h
theorem blkL_parts {b : Blk} (h : b.Ok) (ht : b.t < 16777216) : blkL b = enc 4 b.s ++ (enc 1 b.lo ++ (enc 3 b.t ++ (enc 4 b.h ++ (enc 4 b.j ++ (enc 4 b.la ++ enc 4 b.d))))) := by
  unfold blkL
  have e := enc_split 1 3 b.lo b.t h.lo ht
  rw [show (256 : Nat) ^ 3 = 16777216 from rfl] at e
  rw [show (4 : Nat) = 1 + 3 from rfl, e]
  simp
theorem app_shift (pre m post : List UInt8) : pre ++ (m ++ post) = (pre ++ m) ++ post := (List.append_assoc _ _ _).symm
theorem getK_mid {b : Blk} (h : b.Ok) (ht : b.t < 16777216) (pre post : List UInt8) (a : Nat) (ha : pre.length = a) : getK (pre ++ (blkL b ++ post)) a = b := by
  have e : ∀ x, blkL b ++ x = enc 4 b.s ++ (enc 1 b.lo ++ (enc 3 b.t ++ (enc 4 b.h ++ (enc 4 b.j ++ (enc 4 b.la ++ (enc 4 b.d ++ x)))))) := fun x => by rw [blkL_parts h ht]; simp
  rw [e]
  have g1 : getN (pre ++ (enc 4 b.s ++ (enc 1 b.lo ++ (enc 3 b.t ++ (enc 4 b.h ++ (enc 4 b.j ++ (enc 4 b.la ++ (enc 4 b.d ++ post)))))))) a 4 = b.s := getN_enc pre _ a 4 b.s a 4 rfl rfl ha (by omega) (by omega) h.s
  have g2 : getN (pre ++ (enc 4 b.s ++ (enc 1 b.lo ++ (enc 3 b.t ++ (enc 4 b.h ++ (enc 4 b.j ++ (enc 4 b.la ++ (enc 4 b.d ++ post)))))))) (a + 4 : Nat) 1 = b.lo := by
    rw [app_shift pre]
    exact getN_enc _ _ (a + 4) 1 b.lo _ 1 rfl rfl (by simp [enc_length, ha]) (by omega) (by omega) h.lo
  have g3 : getN (pre ++ (enc 4 b.s ++ (enc 1 b.lo ++ (enc 3 b.t ++ (enc 4 b.h ++ (enc 4 b.j ++ (enc 4 b.la ++ (enc 4 b.d ++ post)))))))) (a + 5 : Nat) 3 = b.t := by
    rw [app_shift pre, app_shift (pre ++ _)]
    exact getN_enc _ _ (a + 5) 3 b.t _ 3 rfl rfl (by simp [enc_length, ha]) (by omega) (by omega) ht
  have g4 : getN (pre ++ (enc 4 b.s ++ (enc 1 b.lo ++ (enc 3 b.t ++ (enc 4 b.h ++ (enc 4 b.j ++ (enc 4 b.la ++ (enc 4 b.d ++ post)))))))) (a + 8 : Nat) 4 = b.h := by
    rw [app_shift pre, app_shift (pre ++ _), app_shift (pre ++ _ ++ _)]
    exact getN_enc _ _ (a + 8) 4 b.h _ 4 rfl rfl (by simp [enc_length, ha]) (by omega) (by omega) h.h
  have g5 : getN (pre ++ (enc 4 b.s ++ (enc 1 b.lo ++ (enc 3 b.t ++ (enc 4 b.h ++ (enc 4 b.j ++ (enc 4 b.la ++ (enc 4 b.d ++ post)))))))) (a + 12 : Nat) 4 = b.j := by
    rw [app_shift pre, app_shift (pre ++ _), app_shift (pre ++ _ ++ _), app_shift (pre ++ _ ++ _ ++ _)]
    exact getN_enc _ _ (a + 12) 4 b.j _ 4 rfl rfl (by simp [enc_length, ha]) (by omega) (by omega) h.j
  have g6 : getN (pre ++ (enc 4 b.s ++ (enc 1 b.lo ++ (enc 3 b.t ++ (enc 4 b.h ++ (enc 4 b.j ++ (enc 4 b.la ++ (enc 4 b.d ++ post)))))))) (a + 16 : Nat) 4 = b.la := by
    rw [app_shift pre, app_shift (pre ++ _), app_shift (pre ++ _ ++ _), app_shift (pre ++ _ ++ _ ++ _), app_shift (pre ++ _ ++ _ ++ _ ++ _)]
    exact getN_enc _ _ (a + 16) 4 b.la _ 4 rfl rfl (by simp [enc_length, ha]) (by omega) (by omega) h.la
  have g7 : getN (pre ++ (enc 4 b.s ++ (enc 1 b.lo ++ (enc 3 b.t ++ (enc 4 b.h ++ (enc 4 b.j ++ (enc 4 b.la ++ (enc 4 b.d ++ post)))))))) (a + 20 : Nat) 4 = b.d := by
    rw [app_shift pre, app_shift (pre ++ _), app_shift (pre ++ _ ++ _), app_shift (pre ++ _ ++ _ ++ _), app_shift (pre ++ _ ++ _ ++ _ ++ _), app_shift (pre ++ _ ++ _ ++ _ ++ _ ++ _)]
    exact getN_enc _ _ (a + 20) 4 b.d _ 4 rfl rfl (by simp [enc_length, ha]) (by omega) (by omega) h.d
  unfold getK
  rw [g1, g2, g3, g4, g5, g6, g7]
theorem getKs_cons (l : List UInt8) (a m : Nat) : getKs l a (m + 1) = getK l a :: getKs l (a + 24) m := by
  unfold getKs
  rw [List.range_succ_eq_map, List.map_cons, List.map_map]
  congr 1
  refine List.map_congr_left fun j _ => ?_
  simp only [Function.comp]
  congr 1
  omega
theorem blkL_length (b : Blk) : (blkL b).length = 24 := by simp [blkL, enc_length]
theorem getKs_mid (bl : List Blk) (h : ∀ b ∈ bl, b.Ok) (ht : lowB bl = true) (pre post : List UInt8) (a m : Nat) (ha : pre.length = a) (hm : bl.length = m) : getKs (pre ++ (blksL bl ++ post)) a m = bl := by
  induction bl generalizing pre a m with
  | nil => subst hm; rfl
  | cons b bl ih =>
    subst hm
    have hb := rowK_low (b :: bl) (k := 0) (by simp) ht
    have hl : lowB bl = true := by unfold lowB at ht ⊢; rw [List.all_cons, Bool.and_eq_true] at ht; exact ht.2
    rw [List.length_cons, getKs_cons, blksL, List.flatMap_cons, ← blksL, List.append_assoc, getK_mid (h b (by simp)) hb pre _ a ha, app_shift pre]
    rw [ih (fun x hx => h x (by simp [hx])) hl (pre ++ blkL b) (a + 24) bl.length (by simp [blkL_length, ha]) rfl]

theorem enc2_two (n : Nat) : ∃ x y, enc 2 n = [x, y] := ⟨UInt8.ofNat (n / 256), UInt8.ofNat n, rfl⟩
theorem sizeR_four (k : Int) (m : Nat) : ∃ q, sizeR k m = 4 * (q + 1) := by
  unfold sizeR
  split
  · exact ⟨6 + 6 * m, by omega⟩
  · exact ⟨1 + 6 * m, by omega⟩
/-- What stands ahead in a report's bytes. -/
theorem rep_front {i : Itm} (hm : mayR i = true) (x : List UInt8) :
    byteN (repL i ++ x) 0 = 128 + i.bl.length ∧ ((byteN (repL i ++ x) 1 : Nat) : Int) = i.k ∧ getN (repL i ++ x) 2 2 = sizeR i.k i.bl.length / 4 - 1 ∧ i.bl.length ≤ 15 ∧ (i.k = 200 ∨ i.k = 201) ∧ (repL i).length = sizeR i.k i.bl.length := by
  simp only [mayR, Bool.and_eq_true, decide_eq_true_eq] at hm
  obtain ⟨⟨⟨hk, _⟩, h15⟩, _⟩ := hm
  have hk2 : i.k = 200 ∨ i.k = 201 := by simpa [knownB] using hk
  have hlen : (repL i).length = sizeR i.k i.bl.length := by
    unfold repL sizeR
    rcases hk2 with h | h
    · rw [if_pos h, if_pos h]; simp [enc_length, blksL_length]; omega
    · rw [if_neg (by omega), if_neg (by omega)]; simp [enc_length, blksL_length]; omega
  refine ⟨?_, ?_, ?_, h15, hk2, hlen⟩
  · unfold repL byteN
    simp
    omega
  · unfold repL byteN
    simp
    omega
  · have e : repL i ++ x = [UInt8.ofNat (128 + i.bl.length), UInt8.ofNat i.k.toNat] ++ (enc 2 (sizeR i.k i.bl.length / 4 - 1) ++ (enc 4 i.s ++ ((if i.k = 200 then enc 8 i.ntp ++ (enc 4 i.tm ++ (enc 4 i.pk ++ enc 4 i.oc)) else []) ++ (blksL i.bl ++ x)))) := by
      unfold repL; simp
    rw [e]
    exact getN_enc _ _ 2 2 _ 2 2 rfl rfl rfl (by omega) (by omega) (fit16 h15)
/-- A beginning of a report's bytes is too short. -/
theorem rep_cut {i : Itm} (hm : mayR i = true) (n : Nat) (hn : n < (repL i).length) : rightE ((repL i).take n) = 2 ∧ rightN ((repL i).take n) = 0 := by
  obtain ⟨h1, h2, h3, h4, h5, h6⟩ := rep_front hm []
  rw [List.append_nil] at h1 h2 h3
  have e : rightE ((repL i).take n) = 2 := by
    unfold rightE
    by_cases hs : n < 4
    · rw [if_pos (by rw [List.length_take]; omega)]
    · have b0 : byteN ((repL i).take n) 0 = byteN (repL i) 0 := by unfold byteN; rw [List.getElem?_take, if_pos (by omega)]
      have b1 : byteN ((repL i).take n) 1 = byteN (repL i) 1 := by unfold byteN; rw [List.getElem?_take, if_pos (by omega)]
      have g : getN ((repL i).take n) 2 2 = getN (repL i) 2 2 := by
        unfold getN
        rw [if_pos (by rw [withinB_iff, List.length_take]; omega), if_pos (by rw [withinB_iff]; omega)]
        congr 1
        unfold part
        rw [List.drop_take, List.take_take]
        congr 1
        simp; omega
      have hl : longR ((repL i).take n) = sizeR i.k i.bl.length := by
        unfold longR manyR
        rw [b0, b1, h1, h2]
        congr 1
        omega
      have hmn : manyR ((repL i).take n) = i.bl.length := by unfold manyR; rw [b0, h1]; omega
      obtain ⟨q, hq⟩ := sizeR_four i.k i.bl.length
      rw [if_neg (by rw [List.length_take]; omega), b0, b1, g, hl, hmn, h1, h2, h3, if_neg (by omega), if_neg (by rcases h5 with h | h <;> rw [h] <;> decide), if_neg (by omega), if_pos (by rw [List.length_take]; omega)]
  exact ⟨e, by unfold rightN; rw [e]; rfl⟩
end Go.Proofs.Ytnkclbaeamcplaa
