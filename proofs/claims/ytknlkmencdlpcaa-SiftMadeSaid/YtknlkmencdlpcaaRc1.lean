/-
Items of feedback as bytes, in plain words: what is put is read as it was, what is read is put as it was, a beginning is too short; rows of items. No function of the program is spoken of.
Rows of items as bytes, in plain words: what is put is read as it was, what is read is put as it was, a beginning is too short. No function of the program is spoken of.
Rows of items in memory. What size, counts and May of package rtcp tell.
-/
import Derived.Test.YtknlkmencdlpcaaRtpP
import Derived.Test.YtknlkmencdlpcaaRep1
import Derived.Test.YtknlkmencdlpcaaApp
import Derived.Test.YtknlkmencdlpcaaField2
namespace Go.Proofs.Ytknlkmencdlpcaa
set_option linter.unusedVariables false
set_option linter.unusedSimpArgs false
open Go Go.RowKit

theorem may_same {i : Itm} (h : knownB i.k = true) : mayG i = mayR i := by
  have hk : i.k = 200 ∨ i.k = 201 := by simpa [knownB] using h
  rw [Bool.eq_iff_iff]
  constructor
  · intro hm
    simp only [mayG, bareG, Bool.and_eq_true, decide_eq_true_eq, if_pos hk] at hm
    obtain ⟨⟨h1, h2, h3, h4, h5, h6⟩, h7, h8⟩ := hm
    have g : i.go = [] := by
      rcases h3 with h | h
      · omega
      · exact h
    have p : i.pr = [] := by
      rcases h4 with h | h
      · omega
      · exact h
    have m : i.me = 0 := by omega
    simp only [mayR, bareB, Bool.and_eq_true, decide_eq_true_eq]
    exact ⟨⟨⟨h, g, p, m, h1⟩, h8⟩, h7⟩
  · intro hm
    obtain ⟨_, g, p, m, h1, h8, h7⟩ := may_parts hm
    simp only [mayG, bareG, Bool.and_eq_true, decide_eq_true_eq, if_pos hk]
    exact ⟨⟨h1, by omega, .inr g, .inr p, .inr (.inr m), by omega⟩, h7, h8⟩
theorem item_rep {i : Itm} (hm : mayR i = true) : itemL i = repL i := by
  obtain ⟨hk, g, p, m, h1, h8, h7⟩ := may_parts hm
  have hl := (rep_front hm []).2.2.2.2.2
  have hb : bodyL i = enc 4 i.s ++ ((if i.k = 200 then enc 8 i.ntp ++ (enc 4 i.tm ++ (enc 4 i.pk ++ enc 4 i.oc)) else []) ++ blksL i.bl) := by
    unfold bodyL headL
    rw [if_neg (by omega), if_neg (show ¬ (i.k = 205 ∨ i.k = 206) by omega), g, p]
    simp [foursL, prsL]
  have hr : repL i = [UInt8.ofNat (128 + i.bl.length), UInt8.ofNat i.k.toNat] ++ (enc 2 (sizeR i.k i.bl.length / 4 - 1) ++ bodyL i) := by
    rw [hb]; unfold repL; simp only [List.append_assoc]
  have hbl : (bodyL i).length = sizeR i.k i.bl.length - 4 := by
    have := congrArg List.length hr
    rw [hl] at this
    simp [enc_length] at this
    omega
  obtain ⟨q, hq⟩ := sizeR_four i.k i.bl.length
  have hs : sizeR i.k i.bl.length ≤ 400 := by unfold sizeR; split <;> omega
  have e2 : enc 2 (sizeR i.k i.bl.length / 4 - 1) = [0, UInt8.ofNat ((bodyL i).length / 4)] := by
    rw [hbl]
    show [UInt8.ofNat ((sizeR i.k i.bl.length / 4 - 1) / 256), UInt8.ofNat (sizeR i.k i.bl.length / 4 - 1)] = _
    rw [show (sizeR i.k i.bl.length / 4 - 1) / 256 = 0 by omega, show (sizeR i.k i.bl.length - 4) / 4 = sizeR i.k i.bl.length / 4 - 1 by omega]
    rfl
  rw [hr, e2]
  unfold itemL countG
  rw [if_neg (by omega), g]
  simp
/-- How many bytes an item says that it has. -/
def gL (l : List UInt8) : Nat := (getN l 2 2 + 1) * 4
/-- What is wrong with the item that bytes begin with. -/
def gE (l : List UInt8) : Nat :=
  if l.length < 4 then 2 else if byteN l 0 / 32 ≠ 4 then 1 else if knownB (byteN l 1) then rightE l else
    if byteN l 1 = 203 then (if 1 ≤ byteN l 0 % 32 ∧ byteN l 0 % 32 ≤ 15 ∧ getN l 2 2 = byteN l 0 % 32 then (if l.length < gL l then 2 else 0) else 1)
    else if byteN l 1 = 205 then (if byteN l 0 % 32 ≠ 1 then 4 else if 3 ≤ getN l 2 2 ∧ getN l 2 2 ≤ 18 then (if l.length < gL l then 2 else 0) else 1)
    else if byteN l 1 = 206 then (if byteN l 0 % 32 ≠ 1 then 4 else if getN l 2 2 = 2 then (if l.length < gL l then 2 else 0) else 1)
    else 4
def gN (l : List UInt8) : Nat := if gE l = 0 then gL l else 0
def prG (l : List UInt8) (a k : Nat) : List (Nat × Nat) := (List.range k).map fun i => (getN l (a + 4 * i : Nat) 2, getN l (a + 4 * i + 2 : Nat) 2)
/-- The item that bytes begin with. -/
def getG (l : List UInt8) : Itm :=
  if gE l ≠ 0 then bareI 0 else if knownB (byteN l 1) then getI l else
    if byteN l 1 = 203 then ⟨203, 0, 0, 0, 0, 0, [], csG l 4 (getN l 2 2), 0, []⟩
    else if byteN l 1 = 205 then ⟨205, getN l 4 4, 0, 0, 0, 0, [], [], getN l 8 4, prG l 12 (getN l 2 2 - 2)⟩
    else ⟨206, getN l 4 4, 0, 0, 0, 0, [], [], getN l 8 4, []⟩
theorem csG_len (l : List UInt8) (a k : Nat) : (csG l a k).length = k := by simp [csG]
theorem prG_len (l : List UInt8) (a k : Nat) : (prG l a k).length = k := by simp [prG]
theorem csG_succ (l : List UInt8) (a k : Nat) : csG l a (k + 1) = csG l a k ++ [getN l (a + 4 * k : Nat) 4] := by simp [csG, List.range_succ]
theorem prG_succ (l : List UInt8) (a k : Nat) : prG l a (k + 1) = prG l a k ++ [(getN l (a + 4 * k : Nat) 2, getN l (a + 4 * k + 2 : Nat) 2)] := by simp [prG, List.range_succ]
theorem prG_cons (l : List UInt8) (a m : Nat) : prG l a (m + 1) = (getN l a 2, getN l (a + 2 : Nat) 2) :: prG l (a + 4) m := by
  unfold prG
  rw [List.range_succ_eq_map, List.map_cons, List.map_map]
  congr 1
  refine List.map_congr_left fun j _ => ?_
  simp only [Function.comp]
  rw [show a + 4 * Nat.succ j = a + 4 + 4 * j by omega]
theorem prG_mid (pr : List (Nat × Nat)) (h : ∀ p ∈ pr, p.1 < 65536 ∧ p.2 < 65536) (pre post : List UInt8) (a : Nat) (ha : pre.length = a) : prG (pre ++ (prsL pr ++ post)) a pr.length = pr := by
  induction pr generalizing pre a with
  | nil => rfl
  | cons p pr ih =>
    obtain ⟨h1, h2⟩ := h p (by simp)
    have e : pre ++ (prsL (p :: pr) ++ post) = pre ++ (enc 2 p.1 ++ (enc 2 p.2 ++ (prsL pr ++ post))) := by
      unfold prsL; simp
    rw [List.length_cons, prG_cons, e]
    rw [getN_enc pre _ a 2 p.1 a 2 rfl rfl ha (by omega) (by omega) h1, app_shift, getN_enc (pre ++ enc 2 p.1) _ (a + 2) 2 p.2 (a + 2 : Nat) 2 rfl rfl (by simp [enc_length, ha]) (by omega) (by omega) h2, app_shift, ih (fun q hq => h q (by simp [hq])) _ (a + 4) (by simp [enc_length, ha])]
theorem foursL_len (ns : List Nat) : (foursL ns).length = ns.length * 4 := by
  unfold foursL
  induction ns with
  | nil => rfl
  | cons n ns ih => rw [List.flatMap_cons, List.length_append, ih, enc_length, List.length_cons]; omega
theorem prsL_len (l : List (Nat × Nat)) : (prsL l).length = l.length * 4 := by
  unfold prsL
  induction l with
  | nil => rfl
  | cons n ns ih => rw [List.flatMap_cons, List.length_append, List.length_append, ih, enc_length, enc_length, List.length_cons]; omega
/-- The items that are no reports: their bytes. -/
theorem item_shape {i : Itm} (hm : mayG i = true) (hk : knownB i.k = false) :
    (i.k = 203 ∧ 1 ≤ i.go.length ∧ i.go.length ≤ 15 ∧ i = ⟨203, 0, 0, 0, 0, 0, [], i.go, 0, []⟩ ∧ itemL i = [UInt8.ofNat (128 + i.go.length), 203] ++ (enc 2 i.go.length ++ foursL i.go)) ∨
    (i.k = 205 ∧ 1 ≤ i.pr.length ∧ i.pr.length ≤ 16 ∧ i = ⟨205, i.s, 0, 0, 0, 0, [], [], i.me, i.pr⟩ ∧ itemL i = [129, 205] ++ (enc 2 (2 + i.pr.length) ++ (enc 4 i.s ++ (enc 4 i.me ++ prsL i.pr)))) ∨
    (i.k = 206 ∧ i = ⟨206, i.s, 0, 0, 0, 0, [], [], i.me, []⟩ ∧ itemL i = [129, 206] ++ (enc 2 2 ++ (enc 4 i.s ++ enc 4 i.me))) := by
  obtain ⟨k, s, ntp, tm, pk, oc, bl, go, me, pr⟩ := i
  have hk2 : k ≠ 200 ∧ k ≠ 201 := by
    simp only [knownB, decide_eq_false_iff_not] at hk
    omega
  simp only [mayG, bareG, Bool.and_eq_true, decide_eq_true_eq] at hm
  obtain ⟨⟨h1, h2, h3, h4, h5, h6⟩, h7⟩ := hm
  rw [if_neg (by omega)] at h7
  obtain ⟨rfl, rfl, rfl, rfl⟩ : ntp = 0 ∧ tm = 0 ∧ pk = 0 ∧ oc = 0 := by omega
  have hbl : bl = [] := by
    rcases h2 with h | h | h
    · omega
    · omega
    · exact h
  subst hbl
  have two : ∀ n, n < 256 → [(0 : UInt8), UInt8.ofNat n] = enc 2 n := by
    intro n hn
    show _ = [UInt8.ofNat (n / 256), UInt8.ofNat n]
    rw [show n / 256 = 0 by omega]
    rfl
  by_cases c3 : k = 203
  · subst c3
    rw [if_pos rfl, decide_eq_true_eq] at h7
    obtain rfl : me = 0 := by omega
    obtain rfl : s = 0 := by omega
    obtain rfl : pr = [] := by
      rcases h4 with h | h
      · omega
      · exact h
    refine .inl ⟨rfl, h7.1, h7.2, rfl, ?_⟩
    have hb : bodyL ⟨203, 0, 0, 0, 0, 0, [], go, 0, []⟩ = foursL go := by
      simp [bodyL, headL, blksL, prsL]
    unfold itemL
    rw [hb, foursL_len, show go.length * 4 / 4 = go.length by omega]
    rw [← two go.length (by omega)]
    simp [countG]
  · rw [if_neg c3] at h7
    obtain rfl : go = [] := by
      rcases h3 with h | h
      · omega
      · exact h
    by_cases c5 : k = 205
    · subst c5
      rw [if_pos rfl, decide_eq_true_eq] at h7
      refine .inr (.inl ⟨rfl, h7.1, h7.2, rfl, ?_⟩)
      have hb : bodyL ⟨205, s, 0, 0, 0, 0, [], [], me, pr⟩ = enc 4 s ++ (enc 4 me ++ prsL pr) := by
        simp [bodyL, headL, blksL, foursL]
      unfold itemL
      rw [hb, List.length_append, List.length_append, prsL_len, enc_length, enc_length, show (4 + (4 + pr.length * 4)) / 4 = 2 + pr.length by omega]
      rw [← two (2 + pr.length) (by omega)]
      simp [countG]
    · rw [if_neg c5, decide_eq_true_eq] at h7
      subst h7
      obtain rfl : pr = [] := by
        rcases h4 with h | h
        · omega
        · exact h
      refine .inr (.inr ⟨rfl, rfl, ?_⟩)
      have hb : bodyL ⟨206, s, 0, 0, 0, 0, [], [], me, []⟩ = enc 4 s ++ enc 4 me := by
        simp [bodyL, headL, blksL, foursL, prsL]
      unfold itemL
      rw [hb, List.length_append, enc_length, enc_length]
      rw [← two 2 (by omega)]
      simp [countG]
/-- The front of such an item. -/
theorem front_of {a b : UInt8} {w : Nat} {r : List UInt8} (hw : w < 65536) : byteN ([a, b] ++ (enc 2 w ++ r)) 0 = a.toNat ∧ byteN ([a, b] ++ (enc 2 w ++ r)) 1 = b.toNat ∧ getN ([a, b] ++ (enc 2 w ++ r)) 2 2 = w ∧ ([a, b] ++ (enc 2 w ++ r)).length = 4 + r.length := by
  refine ⟨rfl, rfl, getN_enc _ _ 2 2 w 2 2 rfl rfl rfl (by omega) (by omega) hw, by simp [enc_length]; omega⟩
theorem gL_pos (l : List UInt8) : 4 ≤ gL l := by unfold gL; omega
theorem known_nat {k : Nat} : knownB (k : Int) = decide (k = 200 ∨ k = 201) := by unfold knownB; rw [Bool.eq_iff_iff]; simp; omega
/-- What is put is read as it was. -/
theorem getG_put {i : Itm} (hm : mayG i = true) (ok : i.Ok) (x : List UInt8) : gE (itemL i ++ x) = 0 ∧ gN (itemL i ++ x) = (itemL i).length ∧ getG (itemL i ++ x) = i := by
  cases hk : knownB i.k
  · have key : ∀ l, gE l = 0 → gL l = (itemL i).length → l = itemL i ++ x → getG l = i → gE (itemL i ++ x) = 0 ∧ gN (itemL i ++ x) = (itemL i).length ∧ getG (itemL i ++ x) = i := by
      rintro l h1 h2 rfl h3
      exact ⟨h1, by unfold gN; rw [if_pos h1, h2], h3⟩
    rcases item_shape hm hk with ⟨k, c1, c2, hi, hl⟩ | ⟨k, c1, c2, hi, hl⟩ | ⟨k, hi, hl⟩
    · have hl' : itemL i ++ x = [UInt8.ofNat (128 + i.go.length), 203] ++ (enc 2 i.go.length ++ (foursL i.go ++ x)) := by rw [hl]; simp
      obtain ⟨b0, b1, b2, b3⟩ := front_of (a := UInt8.ofNat (128 + i.go.length)) (b := 203) (w := i.go.length) (r := foursL i.go ++ x) (by omega)
      rw [← hl'] at b0 b1 b2 b3
      have b0' : byteN (itemL i ++ x) 0 = 128 + i.go.length := by rw [b0, UInt8.toNat_ofNat']; omega
      have b1' : byteN (itemL i ++ x) 1 = 203 := b1
      have hlen : (itemL i).length = 4 + i.go.length * 4 := by rw [hl]; simp [enc_length, foursL_len]; omega
      have e : gE (itemL i ++ x) = 0 := by
        unfold gE gL
        rw [if_neg (by omega), b0', if_neg (by omega), b1', known_nat, if_neg (by decide), if_pos rfl, b2, if_pos (by omega), if_neg (by rw [List.length_append]; omega)]
      refine key _ e (by unfold gL; rw [b2]; omega) rfl ?_
      unfold getG
      rw [if_neg (by rw [e]; simp), b1', known_nat, if_neg (by decide), if_pos rfl, b2]
      have : csG (itemL i ++ x) 4 i.go.length = i.go := by
        rw [hl', app_shift]
        exact csG_mid i.go ok.go _ x 4 (by simp [enc_length])
      rw [this]
      exact hi.symm
    · have hl' : itemL i ++ x = [129, 205] ++ (enc 2 (2 + i.pr.length) ++ (enc 4 i.s ++ (enc 4 i.me ++ (prsL i.pr ++ x)))) := by rw [hl]; simp
      obtain ⟨b0, b1, b2, b3⟩ := front_of (a := 129) (b := 205) (w := 2 + i.pr.length) (r := enc 4 i.s ++ (enc 4 i.me ++ (prsL i.pr ++ x))) (by omega)
      rw [← hl'] at b0 b1 b2 b3
      have b0' : byteN (itemL i ++ x) 0 = 129 := b0
      have b1' : byteN (itemL i ++ x) 1 = 205 := b1
      have hlen : (itemL i).length = 12 + i.pr.length * 4 := by rw [hl]; simp [enc_length, prsL_len]; omega
      have e : gE (itemL i ++ x) = 0 := by
        unfold gE gL
        rw [if_neg (by omega), b0', if_neg (by omega), b1', known_nat, if_neg (by decide), if_neg (by decide), if_pos rfl, if_neg (by decide), b2, if_pos (by omega), if_neg (by rw [List.length_append]; omega)]
      refine key _ e (by unfold gL; rw [b2]; omega) rfl ?_
      unfold getG
      rw [if_neg (by rw [e]; simp), b1', known_nat, if_neg (by decide), if_neg (by decide), if_pos rfl, b2, show 2 + i.pr.length - 2 = i.pr.length by omega]
      have n1 : getN (itemL i ++ x) 4 4 = i.s := by rw [hl', app_shift]; exact getN_enc _ _ 4 4 i.s 4 4 rfl rfl (by simp [enc_length]) (by omega) (by omega) ok.s
      have n2 : getN (itemL i ++ x) 8 4 = i.me := by rw [hl', app_shift, app_shift (_ ++ _)]; exact getN_enc _ _ 8 4 i.me 8 4 rfl rfl (by simp [enc_length]) (by omega) (by omega) ok.me
      have n3 : prG (itemL i ++ x) 12 i.pr.length = i.pr := by
        rw [hl', app_shift, app_shift (_ ++ _), app_shift (_ ++ _ ++ _)]
        exact prG_mid i.pr ok.pr _ x 12 (by simp [enc_length])
      rw [n1, n2, n3]
      exact hi.symm
    · have hl' : itemL i ++ x = [129, 206] ++ (enc 2 2 ++ (enc 4 i.s ++ (enc 4 i.me ++ x))) := by rw [hl]; simp
      obtain ⟨b0, b1, b2, b3⟩ := front_of (a := 129) (b := 206) (w := 2) (r := enc 4 i.s ++ (enc 4 i.me ++ x)) (by omega)
      rw [← hl'] at b0 b1 b2 b3
      have b0' : byteN (itemL i ++ x) 0 = 129 := b0
      have b1' : byteN (itemL i ++ x) 1 = 206 := b1
      have hlen : (itemL i).length = 12 := by rw [hl]; simp [enc_length]
      have e : gE (itemL i ++ x) = 0 := by
        unfold gE gL
        rw [if_neg (by omega), b0', if_neg (by omega), b1', known_nat, if_neg (by decide), if_neg (by decide), if_neg (by decide), if_pos rfl, if_neg (by decide), b2, if_pos (by omega), if_neg (by rw [List.length_append]; omega)]
      refine key _ e (by unfold gL; rw [b2]; omega) rfl ?_
      unfold getG
      rw [if_neg (by rw [e]; simp), b1', known_nat, if_neg (by decide), if_neg (by decide), if_neg (by decide)]
      have n1 : getN (itemL i ++ x) 4 4 = i.s := by rw [hl', app_shift]; exact getN_enc _ _ 4 4 i.s 4 4 rfl rfl (by simp [enc_length]) (by omega) (by omega) ok.s
      have n2 : getN (itemL i ++ x) 8 4 = i.me := by rw [hl', app_shift, app_shift (_ ++ _)]; exact getN_enc _ _ 8 4 i.me 8 4 rfl rfl (by simp [enc_length]) (by omega) (by omega) ok.me
      rw [n1, n2]
      exact hi.symm
  · have hr : mayR i = true := by rw [← may_same hk]; exact hm
    rw [item_rep hr]
    obtain ⟨e0, e1, e2⟩ := rep_right hr x
    obtain ⟨h1, h2, h3, h4, h5, h6⟩ := rep_front hr x
    have hkn : knownB (byteN (repL i ++ x) 1 : Nat) = true := by rw [h2]; exact hk
    obtain ⟨r1, r2, r3, r4, r5, r6⟩ := right_ok e0
    have e : gE (repL i ++ x) = 0 := by
      unfold gE
      rw [if_neg (by omega), if_neg (by omega), if_pos hkn]
      exact e0
    refine ⟨e, ?_, ?_⟩
    · unfold gN gL
      rw [if_pos e, r6, h6]
      unfold rightN at e1
      rw [if_pos e0, h6] at e1
      exact e1
    · unfold getG
      rw [if_neg (by rw [e]; simp), if_pos hkn]
      exact getI_put hr ok x
end Go.Proofs.Ytknlkmencdlpcaa

namespace Go.Proofs.Ytknlkmencdlpcaa
set_option linter.unusedVariables false
set_option linter.unusedSimpArgs false
open Go Go.RowKit

theorem byteN_tk {l : List UInt8} {n k : Nat} (h : k < n) : byteN (l.take n) k = byteN l k := by unfold byteN; rw [List.getElem?_take, if_pos h]
theorem getN_tk {l : List UInt8} {n : Nat} (h : 4 ≤ n) (hl : 4 ≤ l.length) : getN (l.take n) 2 2 = getN l 2 2 := by
  unfold getN
  rw [if_pos (by rw [withinB_iff, List.length_take]; omega), if_pos (by rw [withinB_iff]; omega)]
  congr 1
  unfold part
  rw [List.drop_take, List.take_take]
  congr 1
  simp; omega
/-- A beginning of an item is too short. -/
theorem gE_cut {i : Itm} (hm : mayG i = true) (ok : i.Ok) {n : Nat} (hn : n < (itemL i).length) : gE ((itemL i).take n) = 2 := by
  by_cases h4 : n < 4
  · unfold gE
    rw [if_pos (by rw [List.length_take]; omega)]
  cases hk : knownB i.k
  · obtain ⟨e, eN, eG⟩ := getG_put hm ok []
    rw [List.append_nil] at e eN eG
    have hg : gL (itemL i) = (itemL i).length := by unfold gN at eN; rw [if_pos e] at eN; exact eN
    have b0 : byteN ((itemL i).take n) 0 = byteN (itemL i) 0 := byteN_tk (by omega)
    have b1 : byteN ((itemL i).take n) 1 = byteN (itemL i) 1 := byteN_tk (by omega)
    have g2 : getN ((itemL i).take n) 2 2 = getN (itemL i) 2 2 := getN_tk (by omega) (by omega)
    have gl : gL ((itemL i).take n) = gL (itemL i) := by unfold gL; rw [g2]
    have hlt : ((itemL i).take n).length < gL (itemL i) := by rw [List.length_take, hg]; omega
    have hkn : knownB (byteN (itemL i) 1 : Nat) = false := by
      rcases item_shape hm hk with ⟨k, c1, c2, hi, hl⟩ | ⟨k, c1, c2, hi, hl⟩ | ⟨k, hi, hl⟩ <;> (rw [hl]; rfl)
    unfold gE at e ⊢
    rw [if_neg (by omega)] at e
    rw [if_neg (by rw [List.length_take]; omega), b0, b1, g2, gl]
    rw [hkn] at e ⊢
    simp only [Bool.false_eq_true, if_false] at e ⊢
    split at e
    · cases e
    rename_i h0
    rw [if_neg h0]
    split at e
    · rename_i h3
      rw [if_pos h3]
      split at e
      · rename_i h5
        rw [if_pos h5, if_pos hlt]
      · cases e
    · rename_i h3
      rw [if_neg h3]
      split at e
      · rename_i h5
        rw [if_pos h5]
        split at e
        · cases e
        rename_i h6
        rw [if_neg h6]
        split at e
        · rename_i h7
          rw [if_pos h7, if_pos hlt]
        · cases e
      · rename_i h5
        rw [if_neg h5]
        split at e
        · rename_i h8
          rw [if_pos h8]
          split at e
          · cases e
          rename_i h6
          rw [if_neg h6]
          split at e
          · rename_i h7
            rw [if_pos h7, if_pos hlt]
          · cases e
        · cases e
  · have hr : mayR i = true := by rw [← may_same hk]; exact hm
    rw [item_rep hr] at hn ⊢
    obtain ⟨h1, h2, h3, h4', h5, h6⟩ := rep_front hr []
    rw [List.append_nil] at h1 h2 h3
    have e := (rep_cut hr n hn).1
    have b0 : byteN ((repL i).take n) 0 = byteN (repL i) 0 := byteN_tk (by omega)
    have b1 : byteN ((repL i).take n) 1 = byteN (repL i) 1 := byteN_tk (by omega)
    have hkn : knownB (byteN (repL i) 1 : Nat) = true := by rw [h2]; exact hk
    unfold gE
    rw [if_neg (by rw [List.length_take]; omega), b0, b1, if_neg (by omega), if_pos hkn]
    exact e
theorem prs_part (l : List UInt8) (a m : Nat) (h : a + 4 * m ≤ l.length) : prsL (prG l a m) = part l a (4 * m) := by
  induction m generalizing a with
  | zero => rw [Nat.mul_zero, part]; simp [prG, prsL]
  | succ m ih =>
    have e : prsL (prG l a (m + 1)) = enc 2 (getN l a 2) ++ (enc 2 (getN l (a + 2 : Nat) 2) ++ prsL (prG l (a + 4) m)) := by
      rw [prG_cons]; simp [prsL]
    rw [e, ih (a + 4) (by omega), enc_part l a 2 a 2 rfl rfl (by omega) (by omega) (by omega), enc_part l (a + 2) 2 _ 2 rfl rfl (by omega) (by omega) (by omega), part_join l (a + 2) 2 (4 * m), part_join l a 2 (2 + 4 * m)]
    congr 1
    omega
theorem part_zero (l : List UInt8) (n : Nat) : part l 0 n = l.take n := by unfold part; rw [List.drop_zero]
/-- What is read is put as it was. -/
theorem getG_back {l : List UInt8} (h : gE l = 0) : mayG (getG l) = true ∧ (getG l).Ok ∧ itemL (getG l) = l.take (gL l) ∧ 8 ≤ gL l ∧ gL l ≤ l.length := by
  have h' := h
  unfold gE at h'
  split at h'
  · cases h'
  rename_i h4
  split at h'
  · cases h'
  rename_i hv
  have hv' : byteN l 0 / 32 = 4 := by omega
  have x1 := byteN_lt l 1
  split at h'
  · rename_i hk
    obtain ⟨g1, g2, g3, g4, g5, g6, g7, g8⟩ := getI_back h'
    obtain ⟨r1, r2, r3, r4, r5, r6⟩ := right_ok h'
    have hN : rightN l = gL l := by unfold rightN gL; rw [if_pos h', r6]
    have hG : getG l = getI l := by unfold getG; rw [if_neg (by rw [h]; simp), if_pos hk]
    rw [hN] at g3 g4 g5
    have hki : knownB (getI l).k = true := by cases hq : knownB (getI l).k <;> simp_all [mayR]
    rw [hG]
    exact ⟨by rw [may_same hki]; exact g1, g2, by rw [item_rep g1]; exact g3, g4, g5⟩
  rename_i hk
  have bytes2 : ∀ (x y : Nat), byteN l 0 = x → byteN l 1 = y → [UInt8.ofNat x, UInt8.ofNat y] ++ enc 2 (getN l 2 2) = l.take 4 := by
    rintro x y rfl rfl
    rw [show [UInt8.ofNat (byteN l 0), UInt8.ofNat (byteN l 1)] = [UInt8.ofNat (byteN l 0)] ++ [UInt8.ofNat (byteN l 1)] from rfl, byte_part l 0 (by omega), byte_part l 1 (by omega), enc_part l 2 2 2 2 rfl rfl (by omega) (by omega) (by omega), part_join l 0 1 1, part_join l 0 2 2, part_zero]
  split at h'
  · rename_i h3
    split at h'
    · rename_i h5
      split at h'
      · cases h'
      rename_i h6
      have hG : getG l = ⟨203, 0, 0, 0, 0, 0, [], csG l 4 (getN l 2 2), 0, []⟩ := by unfold getG; rw [if_neg (by rw [h]; simp), if_neg hk, if_pos h3]
      have hw : getN l 2 2 ≤ 15 := by omega
      have hgl : gL l = 4 + 4 * getN l 2 2 := by unfold gL; omega
      have hm : mayG ⟨203, 0, 0, 0, 0, 0, [], csG l 4 (getN l 2 2), 0, []⟩ = true := by simp [mayG, bareG, csG_len]; omega
      rw [hG]
      refine ⟨hm, ⟨by simp, by simp, by simp, by simp, by simp, by simp, by simp, ?_, by simp, by simp⟩, ?_, by omega, by omega⟩
      · intro x hx
        simp only [csG, List.mem_map] at hx
        obtain ⟨j, _, rfl⟩ := hx
        exact getN_ltS l _ 4
      · rcases item_shape hm rfl with ⟨k, c1, c2, hi, hl⟩ | ⟨k, c1, c2, hi, hl⟩ | ⟨k, hi, hl⟩
        · rw [hl]
          simp only [csG_len]
          have hc : foursL (csG l 4 (getN l 2 2)) = part l 4 (4 * getN l 2 2) := csL_part l 4 (getN l 2 2) (by omega)
          rw [hc, ← List.append_assoc, hgl, ← take_part l 4, ← bytes2 (128 + getN l 2 2) 203 (by omega) h3]
          rfl
        · cases k
        · cases k
    · cases h'
  rename_i h3
  split at h'
  · rename_i h5
    split at h'
    · cases h'
    rename_i h6
    split at h'
    · rename_i h7
      split at h'
      · cases h'
      rename_i h8
      have hG : getG l = ⟨205, getN l 4 4, 0, 0, 0, 0, [], [], getN l 8 4, prG l 12 (getN l 2 2 - 2)⟩ := by unfold getG; rw [if_neg (by rw [h]; simp), if_neg hk, if_neg h3, if_pos h5]
      have hgl : gL l = 12 + 4 * (getN l 2 2 - 2) := by unfold gL; omega
      have hm : mayG ⟨205, getN l 4 4, 0, 0, 0, 0, [], [], getN l 8 4, prG l 12 (getN l 2 2 - 2)⟩ = true := by simp [mayG, bareG, prG_len]; omega
      rw [hG]
      refine ⟨hm, ⟨by simp, getN_ltS l 4 4, by simp, by simp, by simp, by simp, by simp, by simp, getN_ltS l 8 4, ?_⟩, ?_, by omega, by omega⟩
      · intro x hx
        simp only [prG, List.mem_map] at hx
        obtain ⟨j, _, rfl⟩ := hx
        exact ⟨getN_ltS l _ 2, getN_ltS l _ 2⟩
      · rcases item_shape hm rfl with ⟨k, c1, c2, hi, hl⟩ | ⟨k, c1, c2, hi, hl⟩ | ⟨k, hi, hl⟩
        · cases k
        · rw [hl]
          simp only [prG_len]
          rw [prs_part l 12 (getN l 2 2 - 2) (by omega), show 2 + (getN l 2 2 - 2) = getN l 2 2 by omega, ← List.append_assoc, show ([129, 205] : List UInt8) = [UInt8.ofNat 129, UInt8.ofNat 205] from rfl, bytes2 129 205 (by omega) h5,
            enc_part l 4 4 4 4 rfl rfl (by omega) (by omega) (by omega), enc_part l 8 4 8 4 rfl rfl (by omega) (by omega) (by omega), part_join l 8 4, part_join l 4 4, take_part, hgl]
          congr 1
          omega
        · cases k
    · cases h'
  rename_i h5
  split at h'
  · rename_i h9
    split at h'
    · cases h'
    rename_i h6
    split at h'
    · rename_i h7
      split at h'
      · cases h'
      rename_i h8
      have hG : getG l = ⟨206, getN l 4 4, 0, 0, 0, 0, [], [], getN l 8 4, []⟩ := by unfold getG; rw [if_neg (by rw [h]; simp), if_neg hk, if_neg h3, if_neg h5]
      have hgl : gL l = 12 := by unfold gL; omega
      have hm : mayG ⟨206, getN l 4 4, 0, 0, 0, 0, [], [], getN l 8 4, []⟩ = true := by simp [mayG, bareG]
      rw [hG]
      refine ⟨hm, ⟨by simp, getN_ltS l 4 4, by simp, by simp, by simp, by simp, by simp, by simp, getN_ltS l 8 4, by simp⟩, ?_, by omega, by omega⟩
      · rcases item_shape hm rfl with ⟨k, c1, c2, hi, hl⟩ | ⟨k, c1, c2, hi, hl⟩ | ⟨k, hi, hl⟩
        · cases k
        · cases k
        · rw [hl]
          simp only
          have b4 := bytes2 129 206 (by omega) h9
          rw [h7] at b4
          rw [← List.append_assoc, show ([129, 206] : List UInt8) = [UInt8.ofNat 129, UInt8.ofNat 206] from rfl, b4,
            enc_part l 4 4 4 4 rfl rfl (by omega) (by omega) (by omega), enc_part l 8 4 8 4 rfl rfl (by omega) (by omega) (by omega), part_join l 4 4, take_part, hgl]
    · cases h'
  · cases h'
/-- Items' bytes, one behind the other. -/
def itsL (l : List Itm) : List UInt8 := l.flatMap itemL
def allG (l : List Itm) : Bool := l.all mayG
/-- The items that bytes are, if there is room for so many. -/
def gets : Nat → List UInt8 → Nat × List Itm
  | 0, _ => (3, [])
  | r + 1, l => if gE l ≠ 0 then (gE l, []) else if gL l = l.length then (0, [getG l]) else if (gets r (l.drop (gL l))).1 = 0 then (0, getG l :: (gets r (l.drop (gL l))).2) else ((gets r (l.drop (gL l))).1, [])
theorem itsL_cons (i : Itm) (l : List Itm) : itsL (i :: l) = itemL i ++ itsL l := by simp [itsL]
theorem itsL_append (l m : List Itm) : itsL (l ++ m) = itsL l ++ itsL m := by simp [itsL]
theorem item_pos {i : Itm} : 4 ≤ (itemL i).length := by unfold itemL; simp
theorem itsL_pos {l : List Itm} (h : l ≠ []) : 4 ≤ (itsL l).length := by
  rcases l with _ | ⟨i, l⟩
  · exact absurd rfl h
  · rw [itsL_cons, List.length_append]; have := item_pos (i := i); omega
theorem gL_put {i : Itm} (hm : mayG i = true) (ok : i.Ok) (x : List UInt8) : gL (itemL i ++ x) = (itemL i).length := by
  obtain ⟨e, eN, _⟩ := getG_put hm ok x
  unfold gN at eN
  rw [if_pos e] at eN
  exact eN
theorem gets_put (l : List Itm) (hm : allG l = true) (ok : ∀ i ∈ l, i.Ok) (h : l ≠ []) (r : Nat) (hr : l.length ≤ r) : gets r (itsL l) = (0, l) := by
  induction l generalizing r with
  | nil => exact absurd rfl h
  | cons i l ih =>
    rcases r with _ | r
    · simp at hr
    simp only [allG, List.all_cons, Bool.and_eq_true] at hm
    obtain ⟨e, eN, eG⟩ := getG_put hm.1 (ok i (by simp)) (itsL l)
    have eL := gL_put hm.1 (ok i (by simp)) (itsL l)
    rw [itsL_cons, gets, if_neg (by rw [e]; simp), eL, eG]
    by_cases hl : l = []
    · subst hl
      rw [if_pos (by simp [itsL])]
    · have hp := itsL_pos hl
      rw [if_neg (by rw [List.length_append]; omega), List.drop_left, ih hm.2 (fun j hj => ok j (by simp [hj])) hl r (by simpa using hr)]
      rfl
theorem gets_more (l : List Itm) (hm : allG l = true) (ok : ∀ i ∈ l, i.Ok) (r : Nat) (hr : r < l.length) : gets r (itsL l) = (3, []) := by
  induction l generalizing r with
  | nil => simp at hr
  | cons i l ih =>
    rcases r with _ | r
    · rfl
    simp only [allG, List.all_cons, Bool.and_eq_true] at hm
    obtain ⟨e, eN, eG⟩ := getG_put hm.1 (ok i (by simp)) (itsL l)
    have eL := gL_put hm.1 (ok i (by simp)) (itsL l)
    have hl : l ≠ [] := by rintro rfl; simp at hr
    have hp := itsL_pos hl
    rw [itsL_cons, gets, if_neg (by rw [e]; simp), eL, if_neg (by rw [List.length_append]; omega), List.drop_left, ih hm.2 (fun j hj => ok j (by simp [hj])) r (by simpa using hr)]
    rfl
theorem gets_back (r : Nat) (l : List UInt8) (h : (gets r l).1 = 0) : itsL (gets r l).2 = l ∧ allG (gets r l).2 = true ∧ (∀ i ∈ (gets r l).2, i.Ok) ∧ 1 ≤ (gets r l).2.length ∧ (gets r l).2.length ≤ r := by
  induction r generalizing l with
  | zero => cases h
  | succ r ih =>
    rw [gets] at h ⊢
    by_cases e : gE l = 0
    · rw [if_neg (by rw [e]; simp)] at h ⊢
      obtain ⟨b1, b2, b3, b4, b5⟩ := getG_back e
      by_cases el : gL l = l.length
      · rw [if_pos el]
        refine ⟨?_, by simp [allG, b1], by simpa using b2, by simp, by simp⟩
        simp only [itsL, List.flatMap_cons, List.flatMap_nil, List.append_nil]
        rw [b3, el, List.take_length]
      · rw [if_neg el] at h ⊢
        by_cases eg : (gets r (l.drop (gL l))).1 = 0
        · obtain ⟨i1, i2, i3, i4, i5⟩ := ih _ eg
          rw [if_pos eg]
          refine ⟨?_, ?_, ?_, by simp, by simpa using i5⟩
          · show itsL (getG l :: _) = l
            rw [itsL_cons, i1, b3, List.take_append_drop]
          · show allG (getG l :: _) = true
            simp only [allG, List.all_cons, Bool.and_eq_true]
            exact ⟨b1, i2⟩
          · intro i hi
            rcases List.mem_cons.1 hi with rfl | hi
            · exact b2
            · exact i3 i hi
        · rw [if_neg eg] at h
          exact absurd h eg
    · rw [if_pos e] at h
      exact absurd h e
theorem gets_no {r : Nat} {l : List UInt8} (h : (gets r l).1 ≠ 0) : (gets r l).2 = [] := by
  rcases r with _ | r
  · rfl
  rw [gets] at h ⊢
  split
  · rfl
  · rename_i h1
    rw [if_neg h1] at h
    split
    · rename_i h2
      rw [if_pos h2] at h
      exact absurd rfl h
    · rename_i h2
      rw [if_neg h2] at h
      split
      · rename_i h3
        rw [if_pos h3] at h
        exact absurd rfl h
      · rfl
/-- A beginning that ends within an item. -/
theorem gets_cut (l : List Itm) (hm : allG l = true) (ok : ∀ i ∈ l, i.Ok) (r : Nat) (hr : l.length ≤ r) (hr1 : 1 ≤ r) (n : Nat) (hn : n ≤ (itsL l).length) (hk : ∀ k, k ≤ l.length → 0 < k → (itsL (l.take k)).length ≠ n) : gets r ((itsL l).take n) = (2, []) := by
  induction l generalizing r n with
  | nil =>
    have : n = 0 := by simpa [itsL] using hn
    subst this
    rcases r with _ | r
    · omega
    rfl
  | cons i l ih =>
    rcases r with _ | r
    · simp at hr
    simp only [allG, List.all_cons, Bool.and_eq_true] at hm
    have oki := ok i (by simp)
    have e1 := hk 1 (by simp) (by omega)
    have e1' : (itemL i).length ≠ n := by simpa [itsL] using e1
    by_cases hlt : n < (itemL i).length
    · have ht : (itsL (i :: l)).take n = (itemL i).take n := by rw [itsL_cons, List.take_append_of_le_length (by omega)]
      rw [ht, gets, gE_cut hm.1 oki hlt]
      rfl
    · have hlt' : (itemL i).length < n := by omega
      have ht : (itsL (i :: l)).take n = itemL i ++ (itsL l).take (n - (itemL i).length) := by
        rw [itsL_cons, List.take_append, List.take_of_length_le (by omega)]
      have hl : l ≠ [] := by
        rintro rfl
        simp [itsL] at hn
        omega
      obtain ⟨e, eN, eG⟩ := getG_put hm.1 oki ((itsL l).take (n - (itemL i).length))
      have eL := gL_put hm.1 oki ((itsL l).take (n - (itemL i).length))
      have hll : 1 ≤ l.length := by
        rcases l with _ | ⟨j, l⟩
        · exact absurd rfl hl
        · simp
      rw [itsL_cons, List.length_append] at hn
      have hne : ((itsL l).take (n - (itemL i).length)).length ≠ 0 := by rw [List.length_take]; omega
      rw [ht, gets, if_neg (by rw [e]; simp), eL, if_neg (by rw [List.length_append]; omega), List.drop_left]
      have hr' : l.length ≤ r := by simpa using hr
      rw [ih hm.2 (fun j hj => ok j (by simp [hj])) r hr' (by omega) (n - (itemL i).length) (by omega) (fun k hk1 hk2 heq => by
        have := hk (k + 1) (by simp; omega) (by omega)
        rw [List.take_succ_cons, itsL_cons, List.length_append] at this
        omega)]
      rfl
/-- How many bytes items have; what is wrong with them; their bytes. -/
def sizG (l : List Itm) : Nat := if allG l then (itsL l).length else 0
def putsE (l : List Itm) : Nat := if 8 < l.length ∨ sizG l = 0 then 1 else if 512 < sizG l then 5 else 0
def putsL (l : List Itm) : List UInt8 := if putsE l = 0 then itsL l else []
/-- The items that bytes are. -/
def getsE (l : List UInt8) : Nat := if 512 < l.length then 5 else (gets 8 l).1
def getsL (l : List UInt8) : List Itm := if 512 < l.length then [] else (gets 8 l).2
theorem puts_ok {l : List Itm} (h : putsE l = 0) : allG l = true ∧ l ≠ [] ∧ l.length ≤ 8 ∧ (itsL l).length ≤ 512 ∧ putsL l = itsL l ∧ sizG l = (itsL l).length := by
  have h' := h
  unfold putsE at h'
  split at h'
  · cases h'
  rename_i h1
  split at h'
  · cases h'
  rename_i h2
  have ha : allG l = true := by
    cases hq : allG l
    · exact absurd (.inr (by unfold sizG; rw [hq]; rfl)) h1
    · rfl
  have hs : sizG l = (itsL l).length := by unfold sizG; rw [if_pos ha]
  refine ⟨ha, ?_, by omega, by omega, by unfold putsL; rw [if_pos h], hs⟩
  rintro rfl
  exact h1 (.inr hs)
theorem its_len_le {l : List Itm} (h : allG l = true) : ∀ {n}, (itsL l).length ≤ n → l.length * 4 ≤ n := by
  intro n hn
  have : l.length * 4 ≤ (itsL l).length := by
    clear h hn
    induction l with
    | nil => simp
    | cons i l ih => rw [itsL_cons, List.length_append, List.length_cons]; have := item_pos (i := i); omega
  omega
theorem gets_puts {l : List Itm} (h : putsE l = 0) (ok : ∀ i ∈ l, i.Ok) : getsE (putsL l) = 0 ∧ getsL (putsL l) = l := by
  obtain ⟨h1, h2, h3, h4, h5, h6⟩ := puts_ok h
  have := gets_put l h1 ok h2 8 h3
  unfold getsE getsL
  rw [h5, if_neg (by omega), if_neg (by omega), this]
  exact ⟨rfl, rfl⟩
theorem puts_gets {l : List UInt8} (h : getsE l = 0) : putsE (getsL l) = 0 ∧ putsL (getsL l) = l ∧ (∀ i ∈ getsL l, i.Ok) ∧ 1 ≤ (getsL l).length ∧ (getsL l).length ≤ 8 ∧ itsL (getsL l) = l ∧ l.length ≤ 512 := by
  unfold getsE at h
  split at h
  · cases h
  rename_i h5
  have hL : getsL l = (gets 8 l).2 := by unfold getsL; rw [if_neg h5]
  obtain ⟨b1, b2, b3, b4, b5⟩ := gets_back 8 l h
  rw [hL]
  have hs : sizG (gets 8 l).2 = l.length := by unfold sizG; rw [if_pos b2, b1]
  have hne : (gets 8 l).2 ≠ [] := by
    intro hn
    rw [hn] at b4
    simp at b4
  have hp := itsL_pos hne
  rw [b1] at hp
  have e : putsE (gets 8 l).2 = 0 := by
    unfold putsE
    rw [hs, if_neg (by omega), if_neg (by omega)]
  exact ⟨e, by unfold putsL; rw [if_pos e, b1], b3, b4, b5, b1, by omega⟩
theorem getsL_no {l : List UInt8} (h : getsE l ≠ 0) : getsL l = [] := by
  unfold getsE at h
  unfold getsL
  split
  · rfl
  · rename_i h5
    rw [if_neg h5] at h
    exact gets_no h
/-- Two rows of bytes that are items, one behind the other. -/
theorem gets_join {a b : List UInt8} (ha : getsE a = 0) (hb : getsE b = 0) :
    getsE (a ++ b) = (if 512 < a.length + b.length then 5 else if 8 < (getsL a).length + (getsL b).length then 3 else 0) ∧ (getsE (a ++ b) = 0 → getsL (a ++ b) = getsL a ++ getsL b) := by
  obtain ⟨_, _, a1, a2, a3, a4, a5⟩ := puts_gets ha
  obtain ⟨_, _, b1, b2, b3, b4, b5⟩ := puts_gets hb
  have hA : allG (getsL a) = true := (puts_ok (puts_gets ha).1).1
  have hB : allG (getsL b) = true := (puts_ok (puts_gets hb).1).1
  have hAB : allG (getsL a ++ getsL b) = true := by
    unfold allG at *
    rw [List.all_append, hA, hB]; rfl
  have hok : ∀ i ∈ getsL a ++ getsL b, i.Ok := by
    intro i hi
    rcases List.mem_append.1 hi with h | h
    · exact a1 i h
    · exact b1 i h
  have hl : itsL (getsL a ++ getsL b) = a ++ b := by rw [itsL_append, a4, b4]
  have hne : getsL a ++ getsL b ≠ [] := by
    intro hn
    have := congrArg List.length hn
    rw [List.length_append, List.length_nil] at this
    omega
  by_cases h5 : 512 < a.length + b.length
  · rw [if_pos h5]
    have : getsE (a ++ b) = 5 := by unfold getsE; rw [if_pos (by rw [List.length_append]; omega)]
    rw [this]
    exact ⟨rfl, fun h => by cases h⟩
  · rw [if_neg h5]
    have hg : getsE (a ++ b) = (gets 8 (a ++ b)).1 := by unfold getsE; rw [if_neg (by rw [List.length_append]; omega)]
    have hgl : getsL (a ++ b) = (gets 8 (a ++ b)).2 := by unfold getsL; rw [if_neg (by rw [List.length_append]; omega)]
    by_cases h8 : 8 < (getsL a).length + (getsL b).length
    · rw [if_pos h8, hg, ← hl, gets_more _ hAB hok 8 (by rw [List.length_append]; omega)]
      exact ⟨rfl, fun h => by cases h⟩
    · rw [if_neg h8, hg, hgl, ← hl, gets_put _ hAB hok hne 8 (by rw [List.length_append]; omega)]
      exact ⟨rfl, fun _ => rfl⟩
end Go.Proofs.Ytknlkmencdlpcaa

namespace Go.Proofs.Ytknlkmencdlpcaa
set_option linter.unusedVariables false
set_option linter.unusedSimpArgs false
open Go Go.RowKit

/-- An item with its three slices. -/
structure Sl where
  (i : Itm) (A : Option Addr) (n c : Nat) (G : Option Addr) (gn gc : Nat) (P : Option Addr) (pn pc : Nat)
def slV (x : Sl) : List Value := [.int .i64 x.i.k, .int .u32 x.i.s, .int .u64 x.i.ntp, .int .u32 x.i.tm, .int .u32 x.i.pk, .int .u32 x.i.oc, .slice x.A x.n x.c, .slice x.G x.gn x.gc, .int .u32 x.i.me, .slice x.P x.pn x.pc]
def rowI (l : List Sl) : List Value := l.flatMap slV
theorem rowI_length (l : List Sl) : (rowI l).length = l.length * 10 := by
  induction l with
  | nil => rfl
  | cons b l ih => rw [rowI, List.flatMap_cons, List.length_append, ← rowI, ih]; simp [slV]; omega
theorem rowI_drop (l : List Sl) (k : Nat) : (rowI l).drop (k * 10) = rowI (l.drop k) := by
  induction l generalizing k with
  | nil => simp [rowI]
  | cons b l ih =>
    rcases k with _ | k
    · simp
    · rw [List.drop_succ_cons, ← ih k, rowI, List.flatMap_cons, ← rowI, show (k + 1) * 10 = (slV b).length + k * 10 by simp [slV]; omega, List.drop_append]
      simp
theorem rowI_at (l : List Sl) (k j : Nat) (h : k < l.length) (hj : j < 10) : (rowI l)[k * 10 + j]? = (slV l[k])[j]? := by
  rw [← List.getElem?_drop, rowI_drop, List.drop_eq_getElem_cons h, rowI, List.flatMap_cons, List.getElem?_append_left (by simp [slV]; exact hj)]
theorem rowI_snoc (l : List Sl) (b : Sl) : rowI (l ++ [b]) = rowI l ++ slV b := by simp [rowI]
theorem slV_one (b : Sl) : ∀ u ∈ slV b, u.oneCell' = true := by
  intro u hu
  simp only [slV, List.mem_cons, List.not_mem_nil, or_false] at hu
  rcases hu with rfl | rfl | rfl | rfl | rfl | rfl | rfl | rfl | rfl | rfl <;> rfl
/-- The ten cells of an item. -/
theorem rd_sl {w : World} {A : Option Addr} {l : List Sl} (h : Rd w A (rowI l)) {k : Nat} (hk : k < l.length) : ∃ ad, A = some ad ∧
    w.cell? (ad.add (k * 10)) = some (.int .i64 l[k].i.k) ∧ w.cell? ⟨(ad.add (k * 10)).block, (ad.add (k * 10)).off + 1, none⟩ = some (.int .u32 l[k].i.s) ∧ w.cell? ⟨(ad.add (k * 10)).block, (ad.add (k * 10)).off + 2, none⟩ = some (.int .u64 l[k].i.ntp) ∧
    w.cell? ⟨(ad.add (k * 10)).block, (ad.add (k * 10)).off + 3, none⟩ = some (.int .u32 l[k].i.tm) ∧ w.cell? ⟨(ad.add (k * 10)).block, (ad.add (k * 10)).off + 4, none⟩ = some (.int .u32 l[k].i.pk) ∧
    w.cell? ⟨(ad.add (k * 10)).block, (ad.add (k * 10)).off + 5, none⟩ = some (.int .u32 l[k].i.oc) ∧ w.cell? ⟨(ad.add (k * 10)).block, (ad.add (k * 10)).off + 6, none⟩ = some (.slice l[k].A l[k].n l[k].c) ∧
    w.cell? ⟨(ad.add (k * 10)).block, (ad.add (k * 10)).off + 7, none⟩ = some (.slice l[k].G l[k].gn l[k].gc) ∧ w.cell? ⟨(ad.add (k * 10)).block, (ad.add (k * 10)).off + 8, none⟩ = some (.int .u32 l[k].i.me) ∧
    w.cell? ⟨(ad.add (k * 10)).block, (ad.add (k * 10)).off + 9, none⟩ = some (.slice l[k].P l[k].pn l[k].pc) := by
  obtain ⟨ad, rfl, h0⟩ := h (k * 10) _ (rowI_at l k 0 hk (by omega))
  have hc : ∀ j u, (slV l[k])[j + 1]? = some u → j + 1 < 10 → w.cell? ⟨(ad.add (k * 10)).block, (ad.add (k * 10)).off + (j + 1), none⟩ = some u := fun j u hu hj => by
    obtain ⟨ad', he, hc⟩ := h (k * 10 + (j + 1)) u (by rw [rowI_at l k (j + 1) hk hj]; exact hu)
    injection he with he; subst he; exact fld_at hc
  exact ⟨ad, rfl, h0, hc 0 _ rfl (by omega), hc 1 _ rfl (by omega), hc 2 _ rfl (by omega), hc 3 _ rfl (by omega), hc 4 _ rfl (by omega), hc 5 _ rfl (by omega), hc 6 _ rfl (by omega), hc 7 _ rfl (by omega), hc 8 _ rfl (by omega)⟩
/-- An item's three rows. -/
structure SlR (w : World) (x : Sl) : Prop where
  (ra : Row w x.A x.n x.c 7 28 (rowK x.i.bl)) (rg : Row w x.G x.gn x.gc 1 4 (u32s x.i.go)) (rp : Row w x.P x.pn x.pc 2 4 (rowP x.i.pr)) (ok : x.i.Ok)
theorem SlR.below {w w' : World} {x : Sl} (h : SlR w x) (hb : Below w.heap.size w w') : SlR w' x := ⟨h.ra.below hb, h.rg.below hb, h.rp.below hb, h.ok⟩
/-- A slice of items. -/
structure Its (w : World) (A : Option Addr) (n c : Nat) (xs : List Sl) : Prop where
  (len : xs.length = n) (nc : n ≤ c) (cm : c ≤ maxLen) (rd : Rd w A (rowI xs)) (rows : ∀ x ∈ xs, SlR w x)
theorem Its.below {w w' : World} {A : Option Addr} {n c : Nat} {xs : List Sl} (h : Its w A n c xs) (hb : Below w.heap.size w w') : Its w' A n c xs := ⟨h.len, h.nc, h.cm, h.rd.below hb, fun x hx => (h.rows x hx).below hb⟩
def itm (xs : List Sl) : List Itm := xs.map Sl.i
theorem itm_ok {w : World} {A : Option Addr} {n c : Nat} {xs : List Sl} (h : Its w A n c xs) : ∀ i ∈ itm xs, i.Ok := by
  intro i hi
  obtain ⟨x, hx, rfl⟩ := List.mem_map.1 hi
  exact (h.rows x hx).ok
theorem itm_len (xs : List Sl) : (itm xs).length = xs.length := by simp [itm]
theorem itm_take {xs : List Sl} {k : Nat} (h : k < xs.length) : itm (xs.take (k + 1)) = itm (xs.take k) ++ [xs[k].i] := by
  rw [List.take_succ_eq_append_getElem h, itm, List.map_append]; rfl
/-- How many bytes an item of a kind has with so many parts. -/
def szK (k : Int) (n : Nat) : Nat := if k = 203 then 4 + 4 * n else if k = 205 then 12 + 4 * n else 12
def countsB (i : Itm) : Bool :=
  if i.k = 203 then decide (1 ≤ i.go.length ∧ i.go.length ≤ 15 ∧ i.pr = [] ∧ i.s = 0 ∧ i.me = 0) else if i.k = 205 then decide (1 ≤ i.pr.length ∧ i.pr.length ≤ 16 ∧ i.go = []) else decide (i.k = 206 ∧ i.pr = [] ∧ i.go = [])
theorem counts_may {i : Itm} (hk : knownB i.k = false) : mayG i = (countsB i && decide (i.ntp = 0 ∧ i.tm = 0 ∧ i.pk = 0 ∧ i.oc = 0 ∧ i.bl = [])) := by
  have hk2 : i.k ≠ 200 ∧ i.k ≠ 201 := by
    simp only [knownB, decide_eq_false_iff_not] at hk
    omega
  rw [Bool.eq_iff_iff]
  unfold mayG bareG countsB
  rw [if_neg (by omega : ¬ (i.k = 200 ∨ i.k = 201))]
  by_cases c3 : i.k = 203
  · rw [if_pos c3, if_pos c3]
    simp only [Bool.and_eq_true, decide_eq_true_eq]
    constructor
    · rintro ⟨⟨h1, h2, h3, h4, h5, h6⟩, h7⟩
      refine ⟨⟨h7.1, h7.2, ?_, by omega, by omega⟩, by omega, by omega, by omega, by omega, ?_⟩
      · rcases h4 with h | h
        · omega
        · exact h
      · rcases h2 with h | h | h
        · omega
        · omega
        · exact h
    · rintro ⟨⟨h1, h2, h3, h4, h5⟩, h6, h7, h8, h9, h10⟩
      exact ⟨⟨.inr ⟨h6, h7, h8, h9⟩, .inr (.inr h10), .inl c3, .inr h3, .inr (.inr h5), .inr h4⟩, h1, h2⟩
  · rw [if_neg c3, if_neg c3]
    by_cases c5 : i.k = 205
    · rw [if_pos c5, if_pos c5]
      simp only [Bool.and_eq_true, decide_eq_true_eq]
      constructor
      · rintro ⟨⟨h1, h2, h3, h4, h5, h6⟩, h7⟩
        refine ⟨⟨h7.1, h7.2, ?_⟩, by omega, by omega, by omega, by omega, ?_⟩
        · rcases h3 with h | h
          · omega
          · exact h
        · rcases h2 with h | h | h
          · omega
          · omega
          · exact h
      · rintro ⟨⟨h1, h2, h3⟩, h6, h7, h8, h9, h10⟩
        exact ⟨⟨.inr ⟨h6, h7, h8, h9⟩, .inr (.inr h10), .inr h3, .inl c5, .inl c5, .inl c3⟩, h1, h2⟩
    · rw [if_neg c5, if_neg c5]
      simp only [Bool.and_eq_true, decide_eq_true_eq]
      constructor
      · rintro ⟨⟨h1, h2, h3, h4, h5, h6⟩, h7⟩
        refine ⟨⟨h7, ?_, ?_⟩, by omega, by omega, by omega, by omega, ?_⟩
        · rcases h4 with h | h
          · omega
          · exact h
        · rcases h3 with h | h
          · omega
          · exact h
        · rcases h2 with h | h | h
          · omega
          · omega
          · exact h
      · rintro ⟨⟨h1, h2, h3⟩, h6, h7, h8, h9, h10⟩
        exact ⟨⟨.inr ⟨h6, h7, h8, h9⟩, .inr (.inr h10), .inr h3, .inr h2, .inr (.inl h1), .inl c3⟩, h1⟩
set_option maxRecDepth 20000 in
set_option maxHeartbeats 4000000 in
theorem rcsize_any (k : Int) (n : Nat) (N Z : Int) (hN : N = n) (hZ : Z = (szK k n : Nat)) (w : World) (hn : n ≤ 1000000000000) : Calls Try.prog 130 #[.int .i64 k, .int .i64 N] w fun e w' => e = .returned (.int .i64 Z) ∧ w' = w := by
  subst hN
  have HZ := Lib.hid hZ
  clear hZ
  go_enter Try.func130, Try.ntmps130
  go_wp2
  all_goals
    go_ret
    refine ⟨?_, rfl⟩
    rw [HZ.out]
    go_tidy
    unfold szK
    simp_all
set_option maxRecDepth 20000 in
set_option maxHeartbeats 4000000 in
theorem counts_any (i : Itm) (A : Option Addr) (n c : Nat) (G : Option Addr) (gn gc : Nat) (P : Option Addr) (pn pc : Nat) (w : World) (hg : i.go.length = gn) (hp : i.pr.length = pn) :
    Calls Try.prog 91 #[.agg #[.int .i64 i.k, .int .u32 i.s, .int .u64 i.ntp, .int .u32 i.tm, .int .u32 i.pk, .int .u32 i.oc, .slice A n c, .slice G gn gc, .int .u32 i.me, .slice P pn pc]] w fun e w' => e = .returned (.bool (countsB i)) ∧ Below w.heap.size w w' := by
  obtain ⟨k, s, ntp, tm, pk, oc, bl, go, me, pr⟩ := i
  simp only at hg hp ⊢
  have hkk : k = 203 ∨ k = 205 ∨ ((k == 203) = false ∧ (k == 205) = false) := by
    by_cases h2 : k = 203
    · exact .inl h2
    by_cases h3 : k = 205
    · exact .inr (.inl h3)
    · exact .inr (.inr ⟨by simp [h2], by simp [h3]⟩)
  rcases hkk with rfl | rfl | ⟨h0, h1⟩
  all_goals
    go_enter Try.func91, Try.ntmps91
    go_wp2
    all_goals
      go_ret
      refine ⟨congrArg Ending.returned (congrArg Value.bool ?_), (Below.refl _ _).alloc (Nat.le_refl _) _⟩
      rw [Bool.eq_iff_iff]
      go_tidy
      simp_all [countsB, ← List.length_eq_zero_iff]
      try omega
set_option maxRecDepth 20000 in
set_option maxHeartbeats 4000000 in
theorem rcmay_any (i : Itm) (A : Option Addr) (n c : Nat) (G : Option Addr) (gn gc : Nat) (P : Option Addr) (pn pc : Nat) (w : World) (ra : Row w A n c 7 28 (rowK i.bl)) (rg : Row w G gn gc 1 4 (u32s i.go)) (rp : Row w P pn pc 2 4 (rowP i.pr)) :
    Calls Try.prog 30 #[.agg #[.int .i64 i.k, .int .u32 i.s, .int .u64 i.ntp, .int .u32 i.tm, .int .u32 i.pk, .int .u32 i.oc, .slice A n c, .slice G gn gc, .int .u32 i.me, .slice P pn pc]] w fun e w' => e = .returned (.bool (mayG i)) ∧ Below w.heap.size w w' := by
  have hg : i.go.length = gn := by have := rg.len; rw [u32s_length] at this; omega
  have hp : i.pr.length = pn := by have := rp.len; rw [rowP_length] at this; omega
  have hbl : i.bl.length = n := by have := ra.len; rw [rowK_length] at this; omega
  have HG := Lib.hid (And.intro hg hp)
  have HB := Lib.hid hbl
  have HR := Lib.hid ra
  have hX := blk_alloc w (.cells #[.int .i64 i.k, .int .u32 i.s, .int .u64 i.ntp, .int .u32 i.tm, .int .u32 i.pk, .int .u32 i.oc, .slice A n c, .slice G gn gc, .int .u32 i.me, .slice P pn pc] 54)
  have hwX := (Below.refl w.heap.size w).alloc (Nat.le_refl _) (.cells #[.int .i64 i.k, .int .u32 i.s, .int .u64 i.ntp, .int .u32 i.tm, .int .u32 i.pk, .int .u32 i.oc, .slice A n c, .slice G gn gc, .int .u32 i.me, .slice P pn pc] 54)
  clear ra rg rp hg hp hbl
  cases hk : knownB i.k
  · have HM := Lib.hid (counts_may hk)
    have k0 : (i.k == 200) = false := by simp only [knownB, decide_eq_false_iff_not] at hk; simp; omega
    have k1 : (i.k == 201) = false := by simp only [knownB, decide_eq_false_iff_not] at hk; simp; omega
    clear hk
    cases hc : countsB i
    · have HF : Hid (mayG i = false) := by show _ = _; rw [HM.out, hc]; rfl
      go_enter Try.func30, Try.ntmps30
      go_wp2_with (go_at_call 91; ((with_reducible refine (counts_any i A n c G gn gc P pn pc _ HG.out.1 HG.out.2).mono ?_); rintro e w1 ⟨rfl, hb1⟩; rw [hc]))
      go_ret
      exact ⟨by rw [HF.out]; rfl, hwX.trans (hb1.mono hwX.size)⟩
    · have HF : Hid (mayG i = decide (i.ntp = 0 ∧ i.tm = 0 ∧ i.pk = 0 ∧ i.oc = 0 ∧ n = 0)) := by
        show _ = _
        rw [HM.out, hc, Bool.true_and]
        congr 1
        rw [← HB.out, List.length_eq_zero_iff]
      go_enter Try.func30, Try.ntmps30
      go_wp2_with (go_at_call 91; ((with_reducible refine (counts_any i A n c G gn gc P pn pc _ HG.out.1 HG.out.2).mono ?_); rintro e w1 ⟨rfl, hb1⟩; rw [hc]; obtain ⟨x0, x1, x2, x3, x4, x5, x6, x7, x8, x9⟩ := row10_cells (blk_below hX hb1); have hw1 := hwX.trans (hb1.mono hwX.size)))
      all_goals
        go_ret
        refine ⟨congrArg Ending.returned (congrArg Value.bool ?_), hw1⟩
        rw [HF.out, Bool.eq_iff_iff]
        go_tidy
        simp_all
        try omega
  · have hM : Hid (mayG i = mayR i) := may_same hk
    have kk : i.k = 200 ∨ i.k = 201 := by simpa [knownB] using hk
    clear hk
    obtain ⟨k, s, ntp, tm, pk, oc, bl, go, me, pr⟩ := i
    simp only at HG HR HB kk hX hwX ⊢
    rcases kk with rfl | rfl
    all_goals
      go_enter Try.func30, Try.ntmps30
      go_wp2_with (go_at_call 90; ((with_reducible refine (may_any ⟨_, s, ntp, tm, pk, oc, bl, go, me, pr⟩ A n c G gn gc P pn pc _ (HR.out.below hwX) HG.out.1 HG.out.2).mono ?_); rintro e w1 ⟨rfl, hb1⟩))
      go_ret
      exact ⟨congrArg Ending.returned (congrArg Value.bool hM.out.symm), hwX.trans (hb1.mono hwX.size)⟩
end Go.Proofs.Ytknlkmencdlpcaa
