/-
Reports, the plain law, second part: what is put is read as it was, whatever is behind it; what is read is put as it was. No function of the program is spoken of.
-/
import Derived.Test.YtnkclbaeamcplaaRepP
namespace Go.Proofs.Ytnkclbaeamcplaa
set_option linter.unusedVariables false
set_option linter.unusedSimpArgs false
open Go Go.RowKit

theorem may_parts {i : Itm} (hm : mayR i = true) : (i.k = 200 ∨ i.k = 201) ∧ i.go = [] ∧ i.pr = [] ∧ i.me = 0 ∧ (i.k = 200 ∨ (i.ntp = 0 ∧ i.tm = 0 ∧ i.pk = 0 ∧ i.oc = 0)) ∧ i.bl.length ≤ 15 ∧ lowB i.bl = true := by
  simp only [mayR, bareB, knownB, Bool.and_eq_true, decide_eq_true_eq] at hm
  obtain ⟨⟨⟨h1, h2, h3, h4, h5⟩, h6⟩, h7⟩ := hm
  exact ⟨h1, h2, h3, h4, h5, h6, h7⟩
theorem rep_right {i : Itm} (hm : mayR i = true) (x : List UInt8) : rightE (repL i ++ x) = 0 ∧ rightN (repL i ++ x) = (repL i).length ∧ manyR (repL i ++ x) = i.bl.length := by
  obtain ⟨h1, h2, h3, h4, h5, h6⟩ := rep_front hm x
  have hmn : manyR (repL i ++ x) = i.bl.length := by unfold manyR; rw [h1]; omega
  have hl : longR (repL i ++ x) = sizeR i.k i.bl.length := by unfold longR; rw [h2, hmn]
  have hs : 8 ≤ sizeR i.k i.bl.length := by unfold sizeR; omega
  have hlen : (repL i ++ x).length = sizeR i.k i.bl.length + x.length := by rw [List.length_append, h6]
  obtain ⟨q, hq⟩ := sizeR_four i.k i.bl.length
  have e : rightE (repL i ++ x) = 0 := by
    unfold rightE
    rw [if_neg (by omega), h1, if_neg (by omega), h2, if_neg (by rcases h5 with h | h <;> rw [h] <;> decide), hmn, h3, hl, if_neg (by omega), if_neg (by omega)]
  exact ⟨e, by unfold rightN; rw [e, hl, h6]; rfl, hmn⟩
theorem getI_put {i : Itm} (hm : mayR i = true) (ok : i.Ok) (x : List UInt8) : getI (repL i ++ x) = i := by
  obtain ⟨e0, _, hmn⟩ := rep_right hm x
  obtain ⟨h1, h2, h3, h4, h5, h6⟩ := rep_front hm x
  obtain ⟨_, g1, g2, g3, g4, g5, g6⟩ := may_parts hm
  obtain ⟨k, s, ntp, tm, pk, oc, bl, go, me, pr⟩ := i
  simp only at h1 h2 h3 h4 h5 h6 g1 g2 g3 g4 g5 g6 hmn
  subst g1 g2 g3
  have ks := ok.s
  have kn := ok.ntp
  have kt := ok.tm
  have kp := ok.pk
  have ko := ok.oc
  have kb := ok.bl
  simp only at ks kn kt kp ko kb
  unfold getI
  rw [if_neg (by rw [e0]; simp), hmn]
  rcases h5 with rfl | rfl
  · have e : repL ⟨200, s, ntp, tm, pk, oc, bl, [], 0, []⟩ ++ x = [UInt8.ofNat (128 + bl.length), 200] ++ (enc 2 (sizeR 200 bl.length / 4 - 1) ++ (enc 4 s ++ (enc 8 ntp ++ (enc 4 tm ++ (enc 4 pk ++ (enc 4 oc ++ (blksL bl ++ x))))))) := by
      unfold repL; simp
    have b1 : byteN (repL ⟨200, s, ntp, tm, pk, oc, bl, [], 0, []⟩ ++ x) 1 = 200 := by omega
    rw [if_pos b1, e]
    have a0 := fun (y : List UInt8) => app_shift [UInt8.ofNat (128 + bl.length), (200 : UInt8)] (enc 2 (sizeR 200 bl.length / 4 - 1)) y
    have c1 : getN ([UInt8.ofNat (128 + bl.length), 200] ++ (enc 2 (sizeR 200 bl.length / 4 - 1) ++ (enc 4 s ++ (enc 8 ntp ++ (enc 4 tm ++ (enc 4 pk ++ (enc 4 oc ++ (blksL bl ++ x)))))))) 4 4 = s := by
      rw [a0]; exact getN_enc _ _ 4 4 s 4 4 rfl rfl (by simp [enc_length]) (by omega) (by omega) ks
    have c2 : getN ([UInt8.ofNat (128 + bl.length), 200] ++ (enc 2 (sizeR 200 bl.length / 4 - 1) ++ (enc 4 s ++ (enc 8 ntp ++ (enc 4 tm ++ (enc 4 pk ++ (enc 4 oc ++ (blksL bl ++ x)))))))) 8 8 = ntp := by
      rw [a0, app_shift]; exact getN_enc _ _ 8 8 ntp 8 8 rfl rfl (by simp [enc_length]) (by omega) (by omega) kn
    have c3 : getN ([UInt8.ofNat (128 + bl.length), 200] ++ (enc 2 (sizeR 200 bl.length / 4 - 1) ++ (enc 4 s ++ (enc 8 ntp ++ (enc 4 tm ++ (enc 4 pk ++ (enc 4 oc ++ (blksL bl ++ x)))))))) 16 4 = tm := by
      rw [a0, app_shift, app_shift (_ ++ _ ++ _)]; exact getN_enc _ _ 16 4 tm 16 4 rfl rfl (by simp [enc_length]) (by omega) (by omega) kt
    have c4 : getN ([UInt8.ofNat (128 + bl.length), 200] ++ (enc 2 (sizeR 200 bl.length / 4 - 1) ++ (enc 4 s ++ (enc 8 ntp ++ (enc 4 tm ++ (enc 4 pk ++ (enc 4 oc ++ (blksL bl ++ x)))))))) 20 4 = pk := by
      rw [a0, app_shift, app_shift (_ ++ _ ++ _), app_shift (_ ++ _ ++ _ ++ _)]; exact getN_enc _ _ 20 4 pk 20 4 rfl rfl (by simp [enc_length]) (by omega) (by omega) kp
    have c5 : getN ([UInt8.ofNat (128 + bl.length), 200] ++ (enc 2 (sizeR 200 bl.length / 4 - 1) ++ (enc 4 s ++ (enc 8 ntp ++ (enc 4 tm ++ (enc 4 pk ++ (enc 4 oc ++ (blksL bl ++ x)))))))) 24 4 = oc := by
      rw [a0, app_shift, app_shift (_ ++ _ ++ _), app_shift (_ ++ _ ++ _ ++ _), app_shift (_ ++ _ ++ _ ++ _ ++ _)]; exact getN_enc _ _ 24 4 oc 24 4 rfl rfl (by simp [enc_length]) (by omega) (by omega) ko
    have c6 : getKs ([UInt8.ofNat (128 + bl.length), 200] ++ (enc 2 (sizeR 200 bl.length / 4 - 1) ++ (enc 4 s ++ (enc 8 ntp ++ (enc 4 tm ++ (enc 4 pk ++ (enc 4 oc ++ (blksL bl ++ x)))))))) 28 bl.length = bl := by
      rw [a0, app_shift, app_shift (_ ++ _ ++ _), app_shift (_ ++ _ ++ _ ++ _), app_shift (_ ++ _ ++ _ ++ _ ++ _), app_shift (_ ++ _ ++ _ ++ _ ++ _ ++ _)]
      exact getKs_mid bl kb g6 _ x 28 bl.length (by simp [enc_length]) rfl
    rw [c1, c2, c3, c4, c5, c6]
  · have e : repL ⟨201, s, ntp, tm, pk, oc, bl, [], 0, []⟩ ++ x = [UInt8.ofNat (128 + bl.length), 201] ++ (enc 2 (sizeR 201 bl.length / 4 - 1) ++ (enc 4 s ++ (blksL bl ++ x))) := by
      unfold repL; simp
    obtain ⟨rfl, rfl, rfl, rfl⟩ : ntp = 0 ∧ tm = 0 ∧ pk = 0 ∧ oc = 0 := by rcases g4 with h | h <;> omega
    have b1 : byteN (repL ⟨201, s, 0, 0, 0, 0, bl, [], 0, []⟩ ++ x) 1 = 201 := by omega
    rw [if_neg (by omega), b1, e]
    have a0 := fun (y : List UInt8) => app_shift [UInt8.ofNat (128 + bl.length), (201 : UInt8)] (enc 2 (sizeR 201 bl.length / 4 - 1)) y
    have c1 : getN ([UInt8.ofNat (128 + bl.length), 201] ++ (enc 2 (sizeR 201 bl.length / 4 - 1) ++ (enc 4 s ++ (blksL bl ++ x)))) 4 4 = s := by
      rw [a0]; exact getN_enc _ _ 4 4 s 4 4 rfl rfl (by simp [enc_length]) (by omega) (by omega) ks
    have c6 : getKs ([UInt8.ofNat (128 + bl.length), 201] ++ (enc 2 (sizeR 201 bl.length / 4 - 1) ++ (enc 4 s ++ (blksL bl ++ x)))) 8 bl.length = bl := by
      rw [a0, app_shift]
      exact getKs_mid bl kb g6 _ x 8 bl.length (by simp [enc_length]) rfl
    rw [c1, c6]
    rfl

theorem enc_part (l : List UInt8) (a s : Nat) (A S : Int) (hA : A = a) (hS : S = s) (h : a + s ≤ l.length) (h1 : 1 ≤ s) (h8 : s ≤ 8) : enc s (getN l A S) = part l a s := by
  subst hA hS
  unfold getN
  rw [if_pos (by rw [withinB_iff]; omega), Int.toNat_natCast, Int.toNat_natCast]
  have := enc_beN (part l a s)
  rwa [part_length h] at this
theorem part_join (l : List UInt8) (a s t : Nat) : part l a s ++ part l (a + s) t = part l a (s + t) := by
  unfold part
  rw [List.take_add, List.drop_drop]
theorem take_part (l : List UInt8) (a s : Nat) : l.take a ++ part l a s = l.take (a + s) := by
  unfold part
  rw [List.take_add]
theorem blk_part (l : List UInt8) (a : Nat) (h : a + 24 ≤ l.length) : blkL (getK l a) = part l a 24 := by
  have ht : (getK l a).t < 16777216 := getN_ltS l (a + 5) 3
  rw [blkL_parts (getK_ok l a) ht]
  unfold getK
  simp only
  rw [enc_part l a 4 a 4 rfl rfl (by omega) (by omega) (by omega), enc_part l (a + 4) 1 _ 1 rfl rfl (by omega) (by omega) (by omega), enc_part l (a + 5) 3 _ 3 rfl rfl (by omega) (by omega) (by omega), enc_part l (a + 8) 4 _ 4 rfl rfl (by omega) (by omega) (by omega),
    enc_part l (a + 12) 4 _ 4 rfl rfl (by omega) (by omega) (by omega), enc_part l (a + 16) 4 _ 4 rfl rfl (by omega) (by omega) (by omega), enc_part l (a + 20) 4 _ 4 rfl rfl (by omega) (by omega) (by omega)]
  rw [part_join l (a + 16) 4 4, part_join l (a + 12) 4 8, part_join l (a + 8) 4 12, part_join l (a + 5) 3 16, part_join l (a + 4) 1 19, part_join l a 4 20]
theorem blks_part (l : List UInt8) (a m : Nat) (h : a + 24 * m ≤ l.length) : blksL (getKs l a m) = part l a (24 * m) := by
  induction m generalizing a with
  | zero => rw [Nat.mul_zero, part]; simp [getKs, blksL]
  | succ m ih =>
    rw [getKs_cons, blksL, List.flatMap_cons, ← blksL, blk_part l a (by omega), ih (a + 24) (by omega), part_join, show 24 + 24 * m = 24 * (m + 1) by omega]
theorem low_getKs (l : List UInt8) (a m : Nat) : lowB (getKs l a m) = true := by
  unfold lowB
  rw [List.all_eq_true]
  intro b hb
  unfold getKs at hb
  obtain ⟨j, _, rfl⟩ := List.mem_map.1 hb
  have : (getK l (a + 24 * j)).t < 16777216 := getN_ltS l (a + 24 * j + 5) 3
  simpa using this
/-- What is read is put as it was. -/
theorem getI_back {l : List UInt8} (h : rightE l = 0) : mayR (getI l) = true ∧ (getI l).Ok ∧ repL (getI l) = l.take (rightN l) ∧ 8 ≤ rightN l ∧ rightN l ≤ l.length ∧ (getI l).go = [] ∧ (getI l).pr = [] ∧ (getI l).me = 0 := by
  obtain ⟨h4, h32, hkn, h15, hlo, hz⟩ := right_ok h
  have hN : rightN l = longR l := by unfold rightN; rw [h]; rfl
  have hk : byteN l 1 = 200 ∨ byteN l 1 = 201 := by simp [knownB] at hkn; omega
  have hx := byteN_lt l 0
  have okk : ∀ a, ∀ b ∈ getKs l a (manyR l), b.Ok := fun a b hb => by
    unfold getKs at hb
    obtain ⟨j, _, rfl⟩ := List.mem_map.1 hb
    exact getK_ok l _
  have hm0 : 128 + manyR l = byteN l 0 := by unfold manyR; omega
  have d0 : UInt8.ofNat (128 + manyR l) = l[0] := by
    rw [hm0, byteN, List.getElem?_eq_getElem (by omega)]
    exact UInt8.ofNat_toNat
  have d1 : UInt8.ofNat (byteN l 1) = l[1] := by
    rw [byteN, List.getElem?_eq_getElem (by omega)]
    exact UInt8.ofNat_toNat
  have t2 : l.take 2 = [l[0], l[1]] := by
    rcases l with _ | ⟨a, _ | ⟨b, l⟩⟩ <;> simp at h4 ⊢
  have e2 : enc 2 (longR l / 4 - 1) = part l 2 2 := by
    rw [show longR l / 4 - 1 = getN l 2 2 by omega]
    exact enc_part l 2 2 2 2 rfl rfl (by omega) (by omega) (by omega)
  have f1 := getN_ltS l 4 4
  have f2 := getN_ltS l 8 8
  have f3 := getN_ltS l 16 4
  have f4 := getN_ltS l 20 4
  have f5 := getN_ltS l 24 4
  by_cases hc : byteN l 1 = 200
  · have hL : longR l = 28 + 24 * manyR l := by unfold longR sizeR; rw [if_pos (by omega)]; omega
    have hI : getI l = ⟨200, getN l 4 4, getN l 8 8, getN l 16 4, getN l 20 4, getN l 24 4, getKs l 28 (manyR l), [], 0, []⟩ := by unfold getI; rw [if_neg (by simp [h]), if_pos hc]
    refine ⟨?_, ?_, ?_, by omega, by omega, by rw [hI], by rw [hI], by rw [hI]⟩
    · rw [hI]; simp [mayR, knownB, bareB, getKs_length, low_getKs]; omega
    · rw [hI]; exact ⟨⟨by simp, by simp⟩, f1, f2, f3, f4, f5, okk 28, (fun x hx => by cases hx), by simp, (fun p hp => by cases hp)⟩
    · rw [hI, hN, hL]
      unfold repL
      simp only [getKs_length, if_pos]
      have hsz : sizeR 200 (manyR l) = longR l := by unfold longR; rw [hc]; rfl
      rw [hsz, e2, d0, show UInt8.ofNat (200 : Int).toNat = l[1] by rw [← d1, hc]; rfl, ← t2]
      rw [enc_part l 4 4 4 4 rfl rfl (by omega) (by omega) (by omega), enc_part l 8 8 8 8 rfl rfl (by omega) (by omega) (by omega), enc_part l 16 4 16 4 rfl rfl (by omega) (by omega) (by omega), enc_part l 20 4 20 4 rfl rfl (by omega) (by omega) (by omega), enc_part l 24 4 24 4 rfl rfl (by omega) (by omega) (by omega), blks_part l 28 (manyR l) (by omega)]
      rw [take_part, take_part, ← List.append_assoc (part l 8 8), part_join l 8 8 4, ← List.append_assoc (part l 8 (8 + 4)), part_join l 8 (8 + 4) 4, part_join l 8 (8 + 4 + 4) 4, take_part, take_part]
  · have hc1 : byteN l 1 = 201 := by omega
    have hL : longR l = 8 + 24 * manyR l := by unfold longR sizeR; rw [if_neg (by omega)]; omega
    have hI : getI l = ⟨byteN l 1, getN l 4 4, 0, 0, 0, 0, getKs l 8 (manyR l), [], 0, []⟩ := by unfold getI; rw [if_neg (by simp [h]), if_neg hc]
    refine ⟨?_, ?_, ?_, by omega, by omega, by rw [hI], by rw [hI], by rw [hI]⟩
    · rw [hI, hc1]; simp [mayR, knownB, bareB, getKs_length, low_getKs]; omega
    · rw [hI, hc1]; exact ⟨⟨by simp, by simp⟩, f1, by simp, by simp, by simp, by simp, okk 8, (fun x hx => by cases hx), by simp, (fun p hp => by cases hp)⟩
    · rw [hI, hN, hL]
      unfold repL
      simp only [getKs_length]
      have hsz : sizeR (byteN l 1) (manyR l) = longR l := rfl
      rw [if_neg (by omega), hsz, e2, d0, Int.toNat_natCast, d1, ← t2]
      rw [enc_part l 4 4 4 4 rfl rfl (by omega) (by omega) (by omega), blks_part l 8 (manyR l) (by omega), List.append_nil]
      rw [take_part, take_part, take_part]
end Go.Proofs.Ytnkclbaeamcplaa
