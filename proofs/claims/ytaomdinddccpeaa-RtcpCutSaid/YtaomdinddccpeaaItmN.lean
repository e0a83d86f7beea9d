/-
Items of feedback as bytes, in plain words: what is put is read as it was, what is read is put as it was, a beginning is too short; rows of items. No function of the program is spoken of.
-/
import Derived.Test.YtaomdinddccpeaaRtpP
namespace Go.Proofs.Ytaomdinddccpeaa
set_option linter.unusedVariables false
set_option linter.unusedSimpArgs false
open Go Go.RowKit

theorem may_same {i : Itm} (h : knownB i.k = true) : mayG i = mayR i := by
  have hk : i.k = 200 ∨ i.k = 201 := by simpa [knownB] using h
  rw [Bool.eq_iff_iff]
  constructor
  · intro hm
    simp only [mayG, bareG, Bool.and_eq_true, decide_eq_true_eq, if_pos hk] at hm
    obtain ⟨⟨h1, h2, h3, h4, h5, h6⟩, h7, h8⟩ := hm
    have g : i.go = [] := by
      rcases h3 with h | h
      · omega
      · exact h
    have p : i.pr = [] := by
      rcases h4 with h | h
      · omega
      · exact h
    have m : i.me = 0 := by omega
    simp only [mayR, bareB, Bool.and_eq_true, decide_eq_true_eq]
    exact ⟨⟨⟨h, g, p, m, h1⟩, h8⟩, h7⟩
  · intro hm
    obtain ⟨_, g, p, m, h1, h8, h7⟩ := may_parts hm
    simp only [mayG, bareG, Bool.and_eq_true, decide_eq_true_eq, if_pos hk]
    exact ⟨⟨h1, by omega, .inr g, .inr p, .inr (.inr m), by omega⟩, h7, h8⟩
theorem item_rep {i : Itm} (hm : mayR i = true) : itemL i = repL i := by
  obtain ⟨hk, g, p, m, h1, h8, h7⟩ := may_parts hm
  have hl := (rep_front hm []).2.2.2.2.2
  have hb : bodyL i = enc 4 i.s ++ ((if i.k = 200 then enc 8 i.ntp ++ (enc 4 i.tm ++ (enc 4 i.pk ++ enc 4 i.oc)) else []) ++ blksL i.bl) := by
    unfold bodyL headL
    rw [if_neg (by omega), if_neg (show ¬ (i.k = 205 ∨ i.k = 206) by omega), g, p]
    simp [foursL, prsL]
  have hr : repL i = [UInt8.ofNat (128 + i.bl.length), UInt8.ofNat i.k.toNat] ++ (enc 2 (sizeR i.k i.bl.length / 4 - 1) ++ bodyL i) := by
    rw [hb]; unfold repL; simp only [List.append_assoc]
  have hbl : (bodyL i).length = sizeR i.k i.bl.length - 4 := by
    have := congrArg List.length hr
    rw [hl] at this
    simp [enc_length] at this
    omega
  obtain ⟨q, hq⟩ := sizeR_four i.k i.bl.length
  have hs : sizeR i.k i.bl.length ≤ 400 := by unfold sizeR; split <;> omega
  have e2 : enc 2 (sizeR i.k i.bl.length / 4 - 1) = [0, UInt8.ofNat ((bodyL i).length / 4)] := by
    rw [hbl]
    show [UInt8.ofNat ((sizeR i.k i.bl.length / 4 - 1) / 256), UInt8.ofNat (sizeR i.k i.bl.length / 4 - 1)] = _
    rw [show (sizeR i.k i.bl.length / 4 - 1) / 256 = 0 by omega, show (sizeR i.k i.bl.length - 4) / 4 = sizeR i.k i.bl.length / 4 - 1 by omega]
    rfl
  rw [hr, e2]
  unfold itemL countG
  rw [if_neg (by omega), g]
  simp
/-- How many bytes an item says that it has. -/
def gL (l : List UInt8) : Nat := (getN l 2 2 + 1) * 4
/-- What is wrong with the item that bytes begin with. -/
def gE (l : List UInt8) : Nat :=
  if l.length < 4 then 2 else if byteN l 0 / 32 ≠ 4 then 1 else if knownB (byteN l 1) then rightE l else
    if byteN l 1 = 203 then (if 1 ≤ byteN l 0 % 32 ∧ byteN l 0 % 32 ≤ 15 ∧ getN l 2 2 = byteN l 0 % 32 then (if l.length < gL l then 2 else 0) else 1)
    else if byteN l 1 = 205 then (if byteN l 0 % 32 ≠ 1 then 4 else if 3 ≤ getN l 2 2 ∧ getN l 2 2 ≤ 18 then (if l.length < gL l then 2 else 0) else 1)
    else if byteN l 1 = 206 then (if byteN l 0 % 32 ≠ 1 then 4 else if getN l 2 2 = 2 then (if l.length < gL l then 2 else 0) else 1)
    else 4
def gN (l : List UInt8) : Nat := if gE l = 0 then gL l else 0
def prG (l : List UInt8) (a k : Nat) : List (Nat × Nat) := (List.range k).map fun i => (getN l (a + 4 * i : Nat) 2, getN l (a + 4 * i + 2 : Nat) 2)
/-- The item that bytes begin with. -/
def getG (l : List UInt8) : Itm :=
  if gE l ≠ 0 then bareI 0 else if knownB (byteN l 1) then getI l else
    if byteN l 1 = 203 then ⟨203, 0, 0, 0, 0, 0, [], csG l 4 (getN l 2 2), 0, []⟩
    else if byteN l 1 = 205 then ⟨205, getN l 4 4, 0, 0, 0, 0, [], [], getN l 8 4, prG l 12 (getN l 2 2 - 2)⟩
    else ⟨206, getN l 4 4, 0, 0, 0, 0, [], [], getN l 8 4, []⟩
theorem csG_len (l : List UInt8) (a k : Nat) : (csG l a k).length = k := by simp [csG]
theorem prG_len (l : List UInt8) (a k : Nat) : (prG l a k).length = k := by simp [prG]
theorem csG_succ (l : List UInt8) (a k : Nat) : csG l a (k + 1) = csG l a k ++ [getN l (a + 4 * k : Nat) 4] := by simp [csG, List.range_succ]
theorem prG_succ (l : List UInt8) (a k : Nat) : prG l a (k + 1) = prG l a k ++ [(getN l (a + 4 * k : Nat) 2, getN l (a + 4 * k + 2 : Nat) 2)] := by simp [prG, List.range_succ]
theorem prG_cons (l : List UInt8) (a m : Nat) : prG l a (m + 1) = (getN l a 2, getN l (a + 2 : Nat) 2) :: prG l (a + 4) m := by
  unfold prG
  rw [List.range_succ_eq_map, List.map_cons, List.map_map]
  congr 1
  refine List.map_congr_left fun j _ => ?_
  simp only [Function.comp]
  rw [show a + 4 * Nat.succ j = a + 4 + 4 * j by omega]
theorem prG_mid (pr : List (Nat × Nat)) (h : ∀ p ∈ pr, p.1 < 65536 ∧ p.2 < 65536) (pre post : List UInt8) (a : Nat) (ha : pre.length = a) : prG (pre ++ (prsL pr ++ post)) a pr.length = pr := by
  induction pr generalizing pre a with
  | nil => rfl
  | cons p pr ih =>
    obtain ⟨h1, h2⟩ := h p (by simp)
    have e : pre ++ (prsL (p :: pr) ++ post) = pre ++ (enc 2 p.1 ++ (enc 2 p.2 ++ (prsL pr ++ post))) := by
      unfold prsL; simp
    rw [List.length_cons, prG_cons, e]
    rw [getN_enc pre _ a 2 p.1 a 2 rfl rfl ha (by omega) (by omega) h1, app_shift, getN_enc (pre ++ enc 2 p.1) _ (a + 2) 2 p.2 (a + 2 : Nat) 2 rfl rfl (by simp [enc_length, ha]) (by omega) (by omega) h2, app_shift, ih (fun q hq => h q (by simp [hq])) _ (a + 4) (by simp [enc_length, ha])]
theorem foursL_len (ns : List Nat) : (foursL ns).length = ns.length * 4 := by
  unfold foursL
  induction ns with
  | nil => rfl
  | cons n ns ih => rw [List.flatMap_cons, List.length_append, ih, enc_length, List.length_cons]; omega
theorem prsL_len (l : List (Nat × Nat)) : (prsL l).length = l.length * 4 := by
  unfold prsL
  induction l with
  | nil => rfl
  | cons n ns ih => rw [List.flatMap_cons, List.length_append, List.length_append, ih, enc_length, enc_length, List.length_cons]; omega
/-- The items that are no reports: their bytes. -/
theorem item_shape {i : Itm} (hm : mayG i = true) (hk : knownB i.k = false) :
    (i.k = 203 ∧ 1 ≤ i.go.length ∧ i.go.length ≤ 15 ∧ i = ⟨203, 0, 0, 0, 0, 0, [], i.go, 0, []⟩ ∧ itemL i = [UInt8.ofNat (128 + i.go.length), 203] ++ (enc 2 i.go.length ++ foursL i.go)) ∨
    (i.k = 205 ∧ 1 ≤ i.pr.length ∧ i.pr.length ≤ 16 ∧ i = ⟨205, i.s, 0, 0, 0, 0, [], [], i.me, i.pr⟩ ∧ itemL i = [129, 205] ++ (enc 2 (2 + i.pr.length) ++ (enc 4 i.s ++ (enc 4 i.me ++ prsL i.pr)))) ∨
    (i.k = 206 ∧ i = ⟨206, i.s, 0, 0, 0, 0, [], [], i.me, []⟩ ∧ itemL i = [129, 206] ++ (enc 2 2 ++ (enc 4 i.s ++ enc 4 i.me))) := by
  obtain ⟨k, s, ntp, tm, pk, oc, bl, go, me, pr⟩ := i
  have hk2 : k ≠ 200 ∧ k ≠ 201 := by
    simp only [knownB, decide_eq_false_iff_not] at hk
    omega
  simp only [mayG, bareG, Bool.and_eq_true, decide_eq_true_eq] at hm
  obtain ⟨⟨h1, h2, h3, h4, h5, h6⟩, h7⟩ := hm
  rw [if_neg (by omega)] at h7
  obtain ⟨rfl, rfl, rfl, rfl⟩ : ntp = 0 ∧ tm = 0 ∧ pk = 0 ∧ oc = 0 := by omega
  have hbl : bl = [] := by
    rcases h2 with h | h | h
    · omega
    · omega
    · exact h
  subst hbl
  have two : ∀ n, n < 256 → [(0 : UInt8), UInt8.ofNat n] = enc 2 n := by
    intro n hn
    show _ = [UInt8.ofNat (n / 256), UInt8.ofNat n]
    rw [show n / 256 = 0 by omega]
    rfl
  by_cases c3 : k = 203
  · subst c3
    rw [if_pos rfl, decide_eq_true_eq] at h7
    obtain rfl : me = 0 := by omega
    obtain rfl : s = 0 := by omega
    obtain rfl : pr = [] := by
      rcases h4 with h | h
      · omega
      · exact h
    refine .inl ⟨rfl, h7.1, h7.2, rfl, ?_⟩
    have hb : bodyL ⟨203, 0, 0, 0, 0, 0, [], go, 0, []⟩ = foursL go := by
      simp [bodyL, headL, blksL, prsL]
    unfold itemL
    rw [hb, foursL_len, show go.length * 4 / 4 = go.length by omega]
    rw [← two go.length (by omega)]
    simp [countG]
  · rw [if_neg c3] at h7
    obtain rfl : go = [] := by
      rcases h3 with h | h
      · omega
      · exact h
    by_cases c5 : k = 205
    · subst c5
      rw [if_pos rfl, decide_eq_true_eq] at h7
      refine .inr (.inl ⟨rfl, h7.1, h7.2, rfl, ?_⟩)
      have hb : bodyL ⟨205, s, 0, 0, 0, 0, [], [], me, pr⟩ = enc 4 s ++ (enc 4 me ++ prsL pr) := by
        simp [bodyL, headL, blksL, foursL]
      unfold itemL
      rw [hb, List.length_append, List.length_append, prsL_len, enc_length, enc_length, show (4 + (4 + pr.length * 4)) / 4 = 2 + pr.length by omega]
      rw [← two (2 + pr.length) (by omega)]
      simp [countG]
    · rw [if_neg c5, decide_eq_true_eq] at h7
      subst h7
      obtain rfl : pr = [] := by
        rcases h4 with h | h
        · omega
        · exact h
      refine .inr (.inr ⟨rfl, rfl, ?_⟩)
      have hb : bodyL ⟨206, s, 0, 0, 0, 0, [], [], me, []⟩ = enc 4 s ++ enc 4 me := by
        simp [bodyL, headL, blksL, foursL, prsL]
      unfold itemL
      rw [hb, List.length_append, enc_length, enc_length]
      rw [← two 2 (by omega)]
      simp [countG]
/-- The front of such an item. -/
theorem front_of {a b : UInt8} {w : Nat} {r : List UInt8} (hw : w < 65536) : byteN ([a, b] ++ (enc 2 w ++ r)) 0 = a.toNat ∧ byteN ([a, b] ++ (enc 2 w ++ r)) 1 = b.toNat ∧ getN ([a, b] ++ (enc 2 w ++ r)) 2 2 = w ∧ ([a, b] ++ (enc 2 w ++ r)).length = 4 + r.length := by
  refine ⟨rfl, rfl, getN_enc _ _ 2 2 w 2 2 rfl rfl rfl (by omega) (by omega) hw, by simp [enc_length]; omega⟩
theorem gL_pos (l : List UInt8) : 4 ≤ gL l := by unfold gL; omega
theorem known_nat {k : Nat} : knownB (k : Int) = decide (k = 200 ∨ k = 201) := by unfold knownB; rw [Bool.eq_iff_iff]; simp; omega
/-- What is put is read as it was. -/
theorem getG_put {i : Itm} (hm : mayG i = true) (ok : i.Ok) (x : List UInt8) : gE (itemL i ++ x) = 0 ∧ gN (itemL i ++ x) = (itemL i).length ∧ getG (itemL i ++ x) = i := by
  cases hk : knownB i.k
  · have key : ∀ l, gE l = 0 → gL l = (itemL i).length → l = itemL i ++ x → getG l = i → gE (itemL i ++ x) = 0 ∧ gN (itemL i ++ x) = (itemL i).length ∧ getG (itemL i ++ x) = i := by
      rintro l h1 h2 rfl h3
      exact ⟨h1, by unfold gN; rw [if_pos h1, h2], h3⟩
    rcases item_shape hm hk with ⟨k, c1, c2, hi, hl⟩ | ⟨k, c1, c2, hi, hl⟩ | ⟨k, hi, hl⟩
    · have hl' : itemL i ++ x = [UInt8.ofNat (128 + i.go.length), 203] ++ (enc 2 i.go.length ++ (foursL i.go ++ x)) := by rw [hl]; simp
      obtain ⟨b0, b1, b2, b3⟩ := front_of (a := UInt8.ofNat (128 + i.go.length)) (b := 203) (w := i.go.length) (r := foursL i.go ++ x) (by omega)
      rw [← hl'] at b0 b1 b2 b3
      have b0' : byteN (itemL i ++ x) 0 = 128 + i.go.length := by rw [b0, UInt8.toNat_ofNat']; omega
      have b1' : byteN (itemL i ++ x) 1 = 203 := b1
      have hlen : (itemL i).length = 4 + i.go.length * 4 := by rw [hl]; simp [enc_length, foursL_len]; omega
      have e : gE (itemL i ++ x) = 0 := by
        unfold gE gL
        rw [if_neg (by omega), b0', if_neg (by omega), b1', known_nat, if_neg (by decide), if_pos rfl, b2, if_pos (by omega), if_neg (by rw [List.length_append]; omega)]
      refine key _ e (by unfold gL; rw [b2]; omega) rfl ?_
      unfold getG
      rw [if_neg (by rw [e]; simp), b1', known_nat, if_neg (by decide), if_pos rfl, b2]
      have : csG (itemL i ++ x) 4 i.go.length = i.go := by
        rw [hl', app_shift]
        exact csG_mid i.go ok.go _ x 4 (by simp [enc_length])
      rw [this]
      exact hi.symm
    · have hl' : itemL i ++ x = [129, 205] ++ (enc 2 (2 + i.pr.length) ++ (enc 4 i.s ++ (enc 4 i.me ++ (prsL i.pr ++ x)))) := by rw [hl]; simp
      obtain ⟨b0, b1, b2, b3⟩ := front_of (a := 129) (b := 205) (w := 2 + i.pr.length) (r := enc 4 i.s ++ (enc 4 i.me ++ (prsL i.pr ++ x))) (by omega)
      rw [← hl'] at b0 b1 b2 b3
      have b0' : byteN (itemL i ++ x) 0 = 129 := b0
      have b1' : byteN (itemL i ++ x) 1 = 205 := b1
      have hlen : (itemL i).length = 12 + i.pr.length * 4 := by rw [hl]; simp [enc_length, prsL_len]; omega
      have e : gE (itemL i ++ x) = 0 := by
        unfold gE gL
        rw [if_neg (by omega), b0', if_neg (by omega), b1', known_nat, if_neg (by decide), if_neg (by decide), if_pos rfl, if_neg (by decide), b2, if_pos (by omega), if_neg (by rw [List.length_append]; omega)]
      refine key _ e (by unfold gL; rw [b2]; omega) rfl ?_
      unfold getG
      rw [if_neg (by rw [e]; simp), b1', known_nat, if_neg (by decide), if_neg (by decide), if_pos rfl, b2, show 2 + i.pr.length - 2 = i.pr.length by omega]
      have n1 : getN (itemL i ++ x) 4 4 = i.s := by rw [hl', app_shift]; exact getN_enc _ _ 4 4 i.s 4 4 rfl rfl (by simp [enc_length]) (by omega) (by omega) ok.s
      have n2 : getN (itemL i ++ x) 8 4 = i.me := by rw [hl', app_shift, app_shift (_ ++ _)]; exact getN_enc _ _ 8 4 i.me 8 4 rfl rfl (by simp [enc_length]) (by omega) (by omega) ok.me
      have n3 : prG (itemL i ++ x) 12 i.pr.length = i.pr := by
        rw [hl', app_shift, app_shift (_ ++ _), app_shift (_ ++ _ ++ _)]
        exact prG_mid i.pr ok.pr _ x 12 (by simp [enc_length])
      rw [n1, n2, n3]
      exact hi.symm
    · have hl' : itemL i ++ x = [129, 206] ++ (enc 2 2 ++ (enc 4 i.s ++ (enc 4 i.me ++ x))) := by rw [hl]; simp
      obtain ⟨b0, b1, b2, b3⟩ := front_of (a := 129) (b := 206) (w := 2) (r := enc 4 i.s ++ (enc 4 i.me ++ x)) (by omega)
      rw [← hl'] at b0 b1 b2 b3
      have b0' : byteN (itemL i ++ x) 0 = 129 := b0
      have b1' : byteN (itemL i ++ x) 1 = 206 := b1
      have hlen : (itemL i).length = 12 := by rw [hl]; simp [enc_length]
      have e : gE (itemL i ++ x) = 0 := by
        unfold gE gL
        rw [if_neg (by omega), b0', if_neg (by omega), b1', known_nat, if_neg (by decide), if_neg (by decide), if_neg (by decide), if_pos rfl, if_neg (by decide), b2, if_pos (by omega), if_neg (by rw [List.length_append]; omega)]
      refine key _ e (by unfold gL; rw [b2]; omega) rfl ?_
      unfold getG
      rw [if_neg (by rw [e]; simp), b1', known_nat, if_neg (by decide), if_neg (by decide), if_neg (by decide)]
      have n1 : getN (itemL i ++ x) 4 4 = i.s := by rw [hl', app_shift]; exact getN_enc _ _ 4 4 i.s 4 4 rfl rfl (by simp [enc_length]) (by omega) (by omega) ok.s
      have n2 : getN (itemL i ++ x) 8 4 = i.me := by rw [hl', app_shift, app_shift (_ ++ _)]; exact getN_enc _ _ 8 4 i.me 8 4 rfl rfl (by simp [enc_length]) (by omega) (by omega) ok.me
      rw [n1, n2]
      exact hi.symm
  · have hr : mayR i = true := by rw [← may_same hk]; exact hm
    rw [item_rep hr]
    obtain ⟨e0, e1, e2⟩ := rep_right hr x
    obtain ⟨h1, h2, h3, h4, h5, h6⟩ := rep_front hr x
    have hkn : knownB (byteN (repL i ++ x) 1 : Nat) = true := by rw [h2]; exact hk
    obtain ⟨r1, r2, r3, r4, r5, r6⟩ := right_ok e0
    have e : gE (repL i ++ x) = 0 := by
      unfold gE
      rw [if_neg (by omega), if_neg (by omega), if_pos hkn]
      exact e0
    refine ⟨e, ?_, ?_⟩
    · unfold gN gL
      rw [if_pos e, r6, h6]
      unfold rightN at e1
      rw [if_pos e0, h6] at e1
      exact e1
    · unfold getG
      rw [if_neg (by rw [e]; simp), if_pos hkn]
      exact getI_put hr ok x
end Go.Proofs.Ytaomdinddccpeaa
