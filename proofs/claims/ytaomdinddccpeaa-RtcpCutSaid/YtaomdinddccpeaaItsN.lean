/-
Rows of items as bytes, in plain words: what is put is read as it was, what is read is put as it was, a beginning is too short. No function of the program is spoken of.
-/
import Derived.Test.YtaomdinddccpeaaItmN
namespace Go.Proofs.Ytaomdinddccpeaa
set_option linter.unusedVariables false
set_option linter.unusedSimpArgs false
open Go Go.RowKit

theorem byteN_tk {l : List UInt8} {n k : Nat} (h : k < n) : byteN (l.take n) k = byteN l k := by unfold byteN; rw [List.getElem?_take, if_pos h]
theorem getN_tk {l : List UInt8} {n : Nat} (h : 4 ≤ n) (hl : 4 ≤ l.length) : getN (l.take n) 2 2 = getN l 2 2 := by
  unfold getN
  rw [if_pos (by rw [withinB_iff, List.length_take]; omega), if_pos (by rw [withinB_iff]; omega)]
  congr 1
  unfold part
  rw [List.drop_take, List.take_take]
  congr 1
  simp; omega
/-- A beginning of an item is too short. -/
theorem gE_cut {i : Itm} (hm : mayG i = true) (ok : i.Ok) {n : Nat} (hn : n < (itemL i).length) : gE ((itemL i).take n) = 2 := by
  by_cases h4 : n < 4
  · unfold gE
    rw [if_pos (by rw [List.length_take]; omega)]
  cases hk : knownB i.k
  · obtain ⟨e, eN, eG⟩ := getG_put hm ok []
    rw [List.append_nil] at e eN eG
    have hg : gL (itemL i) = (itemL i).length := by unfold gN at eN; rw [if_pos e] at eN; exact eN
    have b0 : byteN ((itemL i).take n) 0 = byteN (itemL i) 0 := byteN_tk (by omega)
    have b1 : byteN ((itemL i).take n) 1 = byteN (itemL i) 1 := byteN_tk (by omega)
    have g2 : getN ((itemL i).take n) 2 2 = getN (itemL i) 2 2 := getN_tk (by omega) (by omega)
    have gl : gL ((itemL i).take n) = gL (itemL i) := by unfold gL; rw [g2]
    have hlt : ((itemL i).take n).length < gL (itemL i) := by rw [List.length_take, hg]; omega
    have hkn : knownB (byteN (itemL i) 1 : Nat) = false := by
      rcases item_shape hm hk with ⟨k, c1, c2, hi, hl⟩ | ⟨k, c1, c2, hi, hl⟩ | ⟨k, hi, hl⟩ <;> (rw [hl]; rfl)
    unfold gE at e ⊢
    rw [if_neg (by omega)] at e
    rw [if_neg (by rw [List.length_take]; omega), b0, b1, g2, gl]
    rw [hkn] at e ⊢
    simp only [Bool.false_eq_true, if_false] at e ⊢
    split at e
    · cases e
    rename_i h0
    rw [if_neg h0]
    split at e
    · rename_i h3
      rw [if_pos h3]
      split at e
      · rename_i h5
        rw [if_pos h5, if_pos hlt]
      · cases e
    · rename_i h3
      rw [if_neg h3]
      split at e
      · rename_i h5
        rw [if_pos h5]
        split at e
        · cases e
        rename_i h6
        rw [if_neg h6]
        split at e
        · rename_i h7
          rw [if_pos h7, if_pos hlt]
        · cases e
      · rename_i h5
        rw [if_neg h5]
        split at e
        · rename_i h8
          rw [if_pos h8]
          split at e
          · cases e
          rename_i h6
          rw [if_neg h6]
          split at e
          · rename_i h7
            rw [if_pos h7, if_pos hlt]
          · cases e
        · cases e
  · have hr : mayR i = true := by rw [← may_same hk]; exact hm
    rw [item_rep hr] at hn ⊢
    obtain ⟨h1, h2, h3, h4', h5, h6⟩ := rep_front hr []
    rw [List.append_nil] at h1 h2 h3
    have e := (rep_cut hr n hn).1
    have b0 : byteN ((repL i).take n) 0 = byteN (repL i) 0 := byteN_tk (by omega)
    have b1 : byteN ((repL i).take n) 1 = byteN (repL i) 1 := byteN_tk (by omega)
    have hkn : knownB (byteN (repL i) 1 : Nat) = true := by rw [h2]; exact hk
    unfold gE
    rw [if_neg (by rw [List.length_take]; omega), b0, b1, if_neg (by omega), if_pos hkn]
    exact e
theorem prs_part (l : List UInt8) (a m : Nat) (h : a + 4 * m ≤ l.length) : prsL (prG l a m) = part l a (4 * m) := by
  induction m generalizing a with
  | zero => rw [Nat.mul_zero, part]; simp [prG, prsL]
  | succ m ih =>
    have e : prsL (prG l a (m + 1)) = enc 2 (getN l a 2) ++ (enc 2 (getN l (a + 2 : Nat) 2) ++ prsL (prG l (a + 4) m)) := by
      rw [prG_cons]; simp [prsL]
    rw [e, ih (a + 4) (by omega), enc_part l a 2 a 2 rfl rfl (by omega) (by omega) (by omega), enc_part l (a + 2) 2 _ 2 rfl rfl (by omega) (by omega) (by omega), part_join l (a + 2) 2 (4 * m), part_join l a 2 (2 + 4 * m)]
    congr 1
    omega
theorem part_zero (l : List UInt8) (n : Nat) : part l 0 n = l.take n := by unfold part; rw [List.drop_zero]
/-- What is read is put as it was. -/
theorem getG_back {l : List UInt8} (h : gE l = 0) : mayG (getG l) = true ∧ (getG l).Ok ∧ itemL (getG l) = l.take (gL l) ∧ 8 ≤ gL l ∧ gL l ≤ l.length := by
  have h' := h
  unfold gE at h'
  split at h'
  · cases h'
  rename_i h4
  split at h'
  · cases h'
  rename_i hv
  have hv' : byteN l 0 / 32 = 4 := by omega
  have x1 := byteN_lt l 1
  split at h'
  · rename_i hk
    obtain ⟨g1, g2, g3, g4, g5, g6, g7, g8⟩ := getI_back h'
    obtain ⟨r1, r2, r3, r4, r5, r6⟩ := right_ok h'
    have hN : rightN l = gL l := by unfold rightN gL; rw [if_pos h', r6]
    have hG : getG l = getI l := by unfold getG; rw [if_neg (by rw [h]; simp), if_pos hk]
    rw [hN] at g3 g4 g5
    have hki : knownB (getI l).k = true := by cases hq : knownB (getI l).k <;> simp_all [mayR]
    rw [hG]
    exact ⟨by rw [may_same hki]; exact g1, g2, by rw [item_rep g1]; exact g3, g4, g5⟩
  rename_i hk
  have bytes2 : ∀ (x y : Nat), byteN l 0 = x → byteN l 1 = y → [UInt8.ofNat x, UInt8.ofNat y] ++ enc 2 (getN l 2 2) = l.take 4 := by
    rintro x y rfl rfl
    rw [show [UInt8.ofNat (byteN l 0), UInt8.ofNat (byteN l 1)] = [UInt8.ofNat (byteN l 0)] ++ [UInt8.ofNat (byteN l 1)] from rfl, byte_part l 0 (by omega), byte_part l 1 (by omega), enc_part l 2 2 2 2 rfl rfl (by omega) (by omega) (by omega), part_join l 0 1 1, part_join l 0 2 2, part_zero]
  split at h'
  · rename_i h3
    split at h'
    · rename_i h5
      split at h'
      · cases h'
      rename_i h6
      have hG : getG l = ⟨203, 0, 0, 0, 0, 0, [], csG l 4 (getN l 2 2), 0, []⟩ := by unfold getG; rw [if_neg (by rw [h]; simp), if_neg hk, if_pos h3]
      have hw : getN l 2 2 ≤ 15 := by omega
      have hgl : gL l = 4 + 4 * getN l 2 2 := by unfold gL; omega
      have hm : mayG ⟨203, 0, 0, 0, 0, 0, [], csG l 4 (getN l 2 2), 0, []⟩ = true := by simp [mayG, bareG, csG_len]; omega
      rw [hG]
      refine ⟨hm, ⟨by simp, by simp, by simp, by simp, by simp, by simp, by simp, ?_, by simp, by simp⟩, ?_, by omega, by omega⟩
      · intro x hx
        simp only [csG, List.mem_map] at hx
        obtain ⟨j, _, rfl⟩ := hx
        exact getN_ltS l _ 4
      · rcases item_shape hm rfl with ⟨k, c1, c2, hi, hl⟩ | ⟨k, c1, c2, hi, hl⟩ | ⟨k, hi, hl⟩
        · rw [hl]
          simp only [csG_len]
          have hc : foursL (csG l 4 (getN l 2 2)) = part l 4 (4 * getN l 2 2) := csL_part l 4 (getN l 2 2) (by omega)
          rw [hc, ← List.append_assoc, hgl, ← take_part l 4, ← bytes2 (128 + getN l 2 2) 203 (by omega) h3]
          rfl
        · cases k
        · cases k
    · cases h'
  rename_i h3
  split at h'
  · rename_i h5
    split at h'
    · cases h'
    rename_i h6
    split at h'
    · rename_i h7
      split at h'
      · cases h'
      rename_i h8
      have hG : getG l = ⟨205, getN l 4 4, 0, 0, 0, 0, [], [], getN l 8 4, prG l 12 (getN l 2 2 - 2)⟩ := by unfold getG; rw [if_neg (by rw [h]; simp), if_neg hk, if_neg h3, if_pos h5]
      have hgl : gL l = 12 + 4 * (getN l 2 2 - 2) := by unfold gL; omega
      have hm : mayG ⟨205, getN l 4 4, 0, 0, 0, 0, [], [], getN l 8 4, prG l 12 (getN l 2 2 - 2)⟩ = true := by simp [mayG, bareG, prG_len]; omega
      rw [hG]
      refine ⟨hm, ⟨by simp, getN_ltS l 4 4, by simp, by simp, by simp, by simp, by simp, by simp, getN_ltS l 8 4, ?_⟩, ?_, by omega, by omega⟩
      · intro x hx
        simp only [prG, List.mem_map] at hx
        obtain ⟨j, _, rfl⟩ := hx
        exact ⟨getN_ltS l _ 2, getN_ltS l _ 2⟩
      · rcases item_shape hm rfl with ⟨k, c1, c2, hi, hl⟩ | ⟨k, c1, c2, hi, hl⟩ | ⟨k, hi, hl⟩
        · cases k
        · rw [hl]
          simp only [prG_len]
          rw [prs_part l 12 (getN l 2 2 - 2) (by omega), show 2 + (getN l 2 2 - 2) = getN l 2 2 by omega, ← List.append_assoc, show ([129, 205] : List UInt8) = [UInt8.ofNat 129, UInt8.ofNat 205] from rfl, bytes2 129 205 (by omega) h5,
            enc_part l 4 4 4 4 rfl rfl (by omega) (by omega) (by omega), enc_part l 8 4 8 4 rfl rfl (by omega) (by omega) (by omega), part_join l 8 4, part_join l 4 4, take_part, hgl]
          congr 1
          omega
        · cases k
    · cases h'
  rename_i h5
  split at h'
  · rename_i h9
    split at h'
    · cases h'
    rename_i h6
    split at h'
    · rename_i h7
      split at h'
      · cases h'
      rename_i h8
      have hG : getG l = ⟨206, getN l 4 4, 0, 0, 0, 0, [], [], getN l 8 4, []⟩ := by unfold getG; rw [if_neg (by rw [h]; simp), if_neg hk, if_neg h3, if_neg h5]
      have hgl : gL l = 12 := by unfold gL; omega
      have hm : mayG ⟨206, getN l 4 4, 0, 0, 0, 0, [], [], getN l 8 4, []⟩ = true := by simp [mayG, bareG]
      rw [hG]
      refine ⟨hm, ⟨by simp, getN_ltS l 4 4, by simp, by simp, by simp, by simp, by simp, by simp, getN_ltS l 8 4, by simp⟩, ?_, by omega, by omega⟩
      · rcases item_shape hm rfl with ⟨k, c1, c2, hi, hl⟩ | ⟨k, c1, c2, hi, hl⟩ | ⟨k, hi, hl⟩
        · cases k
        · cases k
        · rw [hl]
          simp only
          have b4 := bytes2 129 206 (by omega) h9
          rw [h7] at b4
          rw [← List.append_assoc, show ([129, 206] : List UInt8) = [UInt8.ofNat 129, UInt8.ofNat 206] from rfl, b4,
            enc_part l 4 4 4 4 rfl rfl (by omega) (by omega) (by omega), enc_part l 8 4 8 4 rfl rfl (by omega) (by omega) (by omega), part_join l 4 4, take_part, hgl]
    · cases h'
  · cases h'
/-- Items' bytes, one behind the other. -/
def itsL (l : List Itm) : List UInt8 := l.flatMap itemL
def allG (l : List Itm) : Bool := l.all mayG
/-- The items that bytes are, if there is room for so many. -/
def gets : Nat → List UInt8 → Nat × List Itm
  | 0, _ => (3, [])
  | r + 1, l => if gE l ≠ 0 then (gE l, []) else if gL l = l.length then (0, [getG l]) else if (gets r (l.drop (gL l))).1 = 0 then (0, getG l :: (gets r (l.drop (gL l))).2) else ((gets r (l.drop (gL l))).1, [])
theorem itsL_cons (i : Itm) (l : List Itm) : itsL (i :: l) = itemL i ++ itsL l := by simp [itsL]
theorem itsL_append (l m : List Itm) : itsL (l ++ m) = itsL l ++ itsL m := by simp [itsL]
theorem item_pos {i : Itm} : 4 ≤ (itemL i).length := by unfold itemL; simp
theorem itsL_pos {l : List Itm} (h : l ≠ []) : 4 ≤ (itsL l).length := by
  rcases l with _ | ⟨i, l⟩
  · exact absurd rfl h
  · rw [itsL_cons, List.length_append]; have := item_pos (i := i); omega
theorem gL_put {i : Itm} (hm : mayG i = true) (ok : i.Ok) (x : List UInt8) : gL (itemL i ++ x) = (itemL i).length := by
  obtain ⟨e, eN, _⟩ := getG_put hm ok x
  unfold gN at eN
  rw [if_pos e] at eN
  exact eN
theorem gets_put (l : List Itm) (hm : allG l = true) (ok : ∀ i ∈ l, i.Ok) (h : l ≠ []) (r : Nat) (hr : l.length ≤ r) : gets r (itsL l) = (0, l) := by
  induction l generalizing r with
  | nil => exact absurd rfl h
  | cons i l ih =>
    rcases r with _ | r
    · simp at hr
    simp only [allG, List.all_cons, Bool.and_eq_true] at hm
    obtain ⟨e, eN, eG⟩ := getG_put hm.1 (ok i (by simp)) (itsL l)
    have eL := gL_put hm.1 (ok i (by simp)) (itsL l)
    rw [itsL_cons, gets, if_neg (by rw [e]; simp), eL, eG]
    by_cases hl : l = []
    · subst hl
      rw [if_pos (by simp [itsL])]
    · have hp := itsL_pos hl
      rw [if_neg (by rw [List.length_append]; omega), List.drop_left, ih hm.2 (fun j hj => ok j (by simp [hj])) hl r (by simpa using hr)]
      rfl
theorem gets_more (l : List Itm) (hm : allG l = true) (ok : ∀ i ∈ l, i.Ok) (r : Nat) (hr : r < l.length) : gets r (itsL l) = (3, []) := by
  induction l generalizing r with
  | nil => simp at hr
  | cons i l ih =>
    rcases r with _ | r
    · rfl
    simp only [allG, List.all_cons, Bool.and_eq_true] at hm
    obtain ⟨e, eN, eG⟩ := getG_put hm.1 (ok i (by simp)) (itsL l)
    have eL := gL_put hm.1 (ok i (by simp)) (itsL l)
    have hl : l ≠ [] := by rintro rfl; simp at hr
    have hp := itsL_pos hl
    rw [itsL_cons, gets, if_neg (by rw [e]; simp), eL, if_neg (by rw [List.length_append]; omega), List.drop_left, ih hm.2 (fun j hj => ok j (by simp [hj])) r (by simpa using hr)]
    rfl
theorem gets_back (r : Nat) (l : List UInt8) (h : (gets r l).1 = 0) : itsL (gets r l).2 = l ∧ allG (gets r l).2 = true ∧ (∀ i ∈ (gets r l).2, i.Ok) ∧ 1 ≤ (gets r l).2.length ∧ (gets r l).2.length ≤ r := by
  induction r generalizing l with
  | zero => cases h
  | succ r ih =>
    rw [gets] at h ⊢
    by_cases e : gE l = 0
    · rw [if_neg (by rw [e]; simp)] at h ⊢
      obtain ⟨b1, b2, b3, b4, b5⟩ := getG_back e
      by_cases el : gL l = l.length
      · rw [if_pos el]
        refine ⟨?_, by simp [allG, b1], by simpa using b2, by simp, by simp⟩
        simp only [itsL, List.flatMap_cons, List.flatMap_nil, List.append_nil]
        rw [b3, el, List.take_length]
      · rw [if_neg el] at h ⊢
        by_cases eg : (gets r (l.drop (gL l))).1 = 0
        · obtain ⟨i1, i2, i3, i4, i5⟩ := ih _ eg
          rw [if_pos eg]
          refine ⟨?_, ?_, ?_, by simp, by simpa using i5⟩
          · show itsL (getG l :: _) = l
            rw [itsL_cons, i1, b3, List.take_append_drop]
          · show allG (getG l :: _) = true
            simp only [allG, List.all_cons, Bool.and_eq_true]
            exact ⟨b1, i2⟩
          · intro i hi
            rcases List.mem_cons.1 hi with rfl | hi
            · exact b2
            · exact i3 i hi
        · rw [if_neg eg] at h
          exact absurd h eg
    · rw [if_pos e] at h
      exact absurd h e
theorem gets_no {r : Nat} {l : List UInt8} (h : (gets r l).1 ≠ 0) : (gets r l).2 = [] := by
  rcases r with _ | r
  · rfl
  rw [gets] at h ⊢
  split
  · rfl
  · rename_i h1
    rw [if_neg h1] at h
    split
    · rename_i h2
      rw [if_pos h2] at h
      exact absurd rfl h
    · rename_i h2
      rw [if_neg h2] at h
      split
      · rename_i h3
        rw [if_pos h3] at h
        exact absurd rfl h
      · rfl
/-- A beginning that ends within an item. -/
theorem gets_cut (l : List Itm) (hm : allG l = true) (ok : ∀ i ∈ l, i.Ok) (r : Nat) (hr : l.length ≤ r) (hr1 : 1 ≤ r) (n : Nat) (hn : n ≤ (itsL l).length) (hk : ∀ k, k ≤ l.length → 0 < k → (itsL (l.take k)).length ≠ n) : gets r ((itsL l).take n) = (2, []) := by
  induction l generalizing r n with
  | nil =>
    have : n = 0 := by simpa [itsL] using hn
    subst this
    rcases r with _ | r
    · omega
    rfl
  | cons i l ih =>
    rcases r with _ | r
    · simp at hr
    simp only [allG, List.all_cons, Bool.and_eq_true] at hm
    have oki := ok i (by simp)
    have e1 := hk 1 (by simp) (by omega)
    have e1' : (itemL i).length ≠ n := by simpa [itsL] using e1
    by_cases hlt : n < (itemL i).length
    · have ht : (itsL (i :: l)).take n = (itemL i).take n := by rw [itsL_cons, List.take_append_of_le_length (by omega)]
      rw [ht, gets, gE_cut hm.1 oki hlt]
      rfl
    · have hlt' : (itemL i).length < n := by omega
      have ht : (itsL (i :: l)).take n = itemL i ++ (itsL l).take (n - (itemL i).length) := by
        rw [itsL_cons, List.take_append, List.take_of_length_le (by omega)]
      have hl : l ≠ [] := by
        rintro rfl
        simp [itsL] at hn
        omega
      obtain ⟨e, eN, eG⟩ := getG_put hm.1 oki ((itsL l).take (n - (itemL i).length))
      have eL := gL_put hm.1 oki ((itsL l).take (n - (itemL i).length))
      have hll : 1 ≤ l.length := by
        rcases l with _ | ⟨j, l⟩
        · exact absurd rfl hl
        · simp
      rw [itsL_cons, List.length_append] at hn
      have hne : ((itsL l).take (n - (itemL i).length)).length ≠ 0 := by rw [List.length_take]; omega
      rw [ht, gets, if_neg (by rw [e]; simp), eL, if_neg (by rw [List.length_append]; omega), List.drop_left]
      have hr' : l.length ≤ r := by simpa using hr
      rw [ih hm.2 (fun j hj => ok j (by simp [hj])) r hr' (by omega) (n - (itemL i).length) (by omega) (fun k hk1 hk2 heq => by
        have := hk (k + 1) (by simp; omega) (by omega)
        rw [List.take_succ_cons, itsL_cons, List.length_append] at this
        omega)]
      rfl
/-- How many bytes items have; what is wrong with them; their bytes. -/
def sizG (l : List Itm) : Nat := if allG l then (itsL l).length else 0
def putsE (l : List Itm) : Nat := if 8 < l.length ∨ sizG l = 0 then 1 else if 512 < sizG l then 5 else 0
def putsL (l : List Itm) : List UInt8 := if putsE l = 0 then itsL l else []
/-- The items that bytes are. -/
def getsE (l : List UInt8) : Nat := if 512 < l.length then 5 else (gets 8 l).1
def getsL (l : List UInt8) : List Itm := if 512 < l.length then [] else (gets 8 l).2
theorem puts_ok {l : List Itm} (h : putsE l = 0) : allG l = true ∧ l ≠ [] ∧ l.length ≤ 8 ∧ (itsL l).length ≤ 512 ∧ putsL l = itsL l ∧ sizG l = (itsL l).length := by
  have h' := h
  unfold putsE at h'
  split at h'
  · cases h'
  rename_i h1
  split at h'
  · cases h'
  rename_i h2
  have ha : allG l = true := by
    cases hq : allG l
    · exact absurd (.inr (by unfold sizG; rw [hq]; rfl)) h1
    · rfl
  have hs : sizG l = (itsL l).length := by unfold sizG; rw [if_pos ha]
  refine ⟨ha, ?_, by omega, by omega, by unfold putsL; rw [if_pos h], hs⟩
  rintro rfl
  exact h1 (.inr hs)
theorem its_len_le {l : List Itm} (h : allG l = true) : ∀ {n}, (itsL l).length ≤ n → l.length * 4 ≤ n := by
  intro n hn
  have : l.length * 4 ≤ (itsL l).length := by
    clear h hn
    induction l with
    | nil => simp
    | cons i l ih => rw [itsL_cons, List.length_append, List.length_cons]; have := item_pos (i := i); omega
  omega
theorem gets_puts {l : List Itm} (h : putsE l = 0) (ok : ∀ i ∈ l, i.Ok) : getsE (putsL l) = 0 ∧ getsL (putsL l) = l := by
  obtain ⟨h1, h2, h3, h4, h5, h6⟩ := puts_ok h
  have := gets_put l h1 ok h2 8 h3
  unfold getsE getsL
  rw [h5, if_neg (by omega), if_neg (by omega), this]
  exact ⟨rfl, rfl⟩
theorem puts_gets {l : List UInt8} (h : getsE l = 0) : putsE (getsL l) = 0 ∧ putsL (getsL l) = l ∧ (∀ i ∈ getsL l, i.Ok) ∧ 1 ≤ (getsL l).length ∧ (getsL l).length ≤ 8 ∧ itsL (getsL l) = l ∧ l.length ≤ 512 := by
  unfold getsE at h
  split at h
  · cases h
  rename_i h5
  have hL : getsL l = (gets 8 l).2 := by unfold getsL; rw [if_neg h5]
  obtain ⟨b1, b2, b3, b4, b5⟩ := gets_back 8 l h
  rw [hL]
  have hs : sizG (gets 8 l).2 = l.length := by unfold sizG; rw [if_pos b2, b1]
  have hne : (gets 8 l).2 ≠ [] := by
    intro hn
    rw [hn] at b4
    simp at b4
  have hp := itsL_pos hne
  rw [b1] at hp
  have e : putsE (gets 8 l).2 = 0 := by
    unfold putsE
    rw [hs, if_neg (by omega), if_neg (by omega)]
  exact ⟨e, by unfold putsL; rw [if_pos e, b1], b3, b4, b5, b1, by omega⟩
theorem getsL_no {l : List UInt8} (h : getsE l ≠ 0) : getsL l = [] := by
  unfold getsE at h
  unfold getsL
  split
  · rfl
  · rename_i h5
    rw [if_neg h5] at h
    exact gets_no h
/-- Two rows of bytes that are items, one behind the other. -/
theorem gets_join {a b : List UInt8} (ha : getsE a = 0) (hb : getsE b = 0) :
    getsE (a ++ b) = (if 512 < a.length + b.length then 5 else if 8 < (getsL a).length + (getsL b).length then 3 else 0) ∧ (getsE (a ++ b) = 0 → getsL (a ++ b) = getsL a ++ getsL b) := by
  obtain ⟨_, _, a1, a2, a3, a4, a5⟩ := puts_gets ha
  obtain ⟨_, _, b1, b2, b3, b4, b5⟩ := puts_gets hb
  have hA : allG (getsL a) = true := (puts_ok (puts_gets ha).1).1
  have hB : allG (getsL b) = true := (puts_ok (puts_gets hb).1).1
  have hAB : allG (getsL a ++ getsL b) = true := by
    unfold allG at *
    rw [List.all_append, hA, hB]; rfl
  have hok : ∀ i ∈ getsL a ++ getsL b, i.Ok := by
    intro i hi
    rcases List.mem_append.1 hi with h | h
    · exact a1 i h
    · exact b1 i h
  have hl : itsL (getsL a ++ getsL b) = a ++ b := by rw [itsL_append, a4, b4]
  have hne : getsL a ++ getsL b ≠ [] := by
    intro hn
    have := congrArg List.length hn
    rw [List.length_append, List.length_nil] at this
    omega
  by_cases h5 : 512 < a.length + b.length
  · rw [if_pos h5]
    have : getsE (a ++ b) = 5 := by unfold getsE; rw [if_pos (by rw [List.length_append]; omega)]
    rw [this]
    exact ⟨rfl, fun h => by cases h⟩
  · rw [if_neg h5]
    have hg : getsE (a ++ b) = (gets 8 (a ++ b)).1 := by unfold getsE; rw [if_neg (by rw [List.length_append]; omega)]
    have hgl : getsL (a ++ b) = (gets 8 (a ++ b)).2 := by unfold getsL; rw [if_neg (by rw [List.length_append]; omega)]
    by_cases h8 : 8 < (getsL a).length + (getsL b).length
    · rw [if_pos h8, hg, ← hl, gets_more _ hAB hok 8 (by rw [List.length_append]; omega)]
      exact ⟨rfl, fun h => by cases h⟩
    · rw [if_neg h8, hg, hgl, ← hl, gets_put _ hAB hok hne 8 (by rw [List.length_append]; omega)]
      exact ⟨rfl, fun _ => rfl⟩
end Go.Proofs.Ytaomdinddccpeaa
