/-
What is read of a line's words, word by word, in plain words (for the reference's one).
-/
import Derived.Test.YtaghecgjmkhpcaaGreatDoorTxL
namespace Go.Proofs.YtaghecgjmkhpcaaGreatDoor
set_option linter.unusedVariables false
set_option linter.unusedSimpArgs false
open Go

/-- What of an operation stands in the first i words behind the first. -/
def truncO (q : Opx) (i : Nat) : Opx := ⟨q.k, if 1 ≤ i then q.p else 0, if 2 ≤ i then q.s else 0, if 3 ≤ i then q.y else 0, if 2 ≤ i then q.nm else [], q.ss.take (i - 2), if 2 ≤ i then q.bs else []⟩
theorem trunc_end {q : Opx} (h : mayO q = true) : truncO q ((wrdsL q).length - 1) = q := by
  obtain ⟨hp, hs, hy, hc⟩ := may_cases h
  obtain ⟨k, p, s, y, nm, ss, bs⟩ := q
  dsimp only at *
  rcases hc with ⟨rfl, rfl, rfl, rfl, rfl, hb⟩ | ⟨rfl, rfl, rfl, rfl, rfl, hn⟩ | ⟨rfl, rfl, rfl, rfl, rfl, rfl⟩ | ⟨rfl, rfl, rfl, rfl, h1, h2⟩ | ⟨hk, rfl, rfl, rfl⟩ | ⟨hk, rfl, rfl, rfl, rfl⟩
  · rw [wrds_1 rfl rfl]
    by_cases hb : bs = []
    · subst hb; simp [truncO]
    · simp [truncO, hb]
  · rw [wrds_2 rfl rfl rfl]
    simp [truncO]
  · rw [wrds_3 rfl rfl rfl]
    simp [truncO]
  · rw [wrds_4 rfl rfl]
    simp [truncO]
  · rw [wrds_6 hk rfl rfl]
    simp [truncO]
  · rw [wrds_5 hk rfl rfl]
    simp [truncO]
/-- What one holds behind i words. -/
def Part (ws : List (List UInt8)) (i : Nat) (o : Opx) : Prop := ∀ q, mayO q = true → ssOk q → ws = wrdsL q → o = truncO q i
theorem part_start (ws : List (List UInt8)) (κ : Nat) (h : kindL (wd ws 0) = κ) : Part ws 0 ⟨κ, 0, 0, 0, [], [], []⟩ := by
  intro q hm hs hw
  have hk : 1 ≤ q.k ∧ q.k ≤ 12 := by have := may_cases hm; omega
  have e : wd ws 0 = wordL q.k := by rw [hw]; simp [wrdsL, wd]
  have := (kind_word q.k hk).1
  rw [← e, h] at this
  simp [truncO, this]
theorem part_p {ws : List (List UInt8)} {x : Opx} (h : Part ws 0 x) : Part ws 1 { x with p := numL (wd (ws.drop 1) 0) } := by
  intro q hm hs hw
  rw [h q hm hs hw, hw]
  have hmc := may_cases hm
  have e : wd ((wrdsL q).drop 1) 0 = decL q.p.toNat := by simp [wrdsL, wd]
  rw [e, numL_dec _ (by omega)]
  simp [truncO]
  omega
theorem part_s {ws : List (List UInt8)} {x : Opx} (h : Part ws 1 x) (hk : srcB x.k = true) : Part ws 2 { x with s := numL (wd (ws.drop 1) 1) } := by
  intro q hm hs hw
  have hx := h q hm hs hw
  have hq : srcB q.k = true := by rw [hx] at hk; exact hk
  have hmc := may_cases hm
  have e : wd ((wrdsL q).drop 1) 1 = decL q.s.toNat := by simp [wrdsL, wd, hq]
  have hk4 : 4 ≤ q.k := by simpa [srcB] using hq
  rw [hx, hw, e, numL_dec _ (by omega)]
  have hnb : q.nm = [] ∧ q.bs = [] := by
    rcases hmc.2.2.2 with h | h | h | h | h | h
    · omega
    · omega
    · omega
    · exact ⟨h.2.2.1, h.2.2.2.1⟩
    · exact ⟨h.2.1, h.2.2.2⟩
    · exact ⟨h.2.2.1, h.2.2.2.2⟩
  simp [truncO, hnb.1, hnb.2]
  omega
theorem part_nm {ws : List (List UInt8)} {x : Opx} (h : Part ws 1 x) (hk : x.k = 2) : Part ws 2 { x with nm := wd (ws.drop 1) 1 } := by
  intro q hm hs hw
  have hx := h q hm hs hw
  have hq : q.k = 2 := by rw [hx] at hk; exact hk
  have hmc := may_cases hm
  have e : wd ((wrdsL q).drop 1) 1 = q.nm := by simp [wrdsL, wd, hq, srcB, layB]
  rw [hx, hw, e]
  have hz : q.s = 0 ∧ q.bs = [] := by
    rcases hmc.2.2.2 with h | h | h | h | h | h
    · omega
    · exact ⟨h.2.1, h.2.2.2.2.1⟩
    · omega
    · omega
    · omega
    · omega
  simp [truncO, hz.1, hz.2]
theorem part_bs {ws : List (List UInt8)} {x : Opx} {b : List UInt8} (h : Part ws 1 x) (hk : x.k = 1) (hb : ∀ r, unhexL (wd (ws.drop 1) 1) = some r → b = r) : Part ws 2 { x with bs := b } := by
  intro q hm hs hw
  have hx := h q hm hs hw
  have hq : q.k = 1 := by rw [hx] at hk; exact hk
  have hmc := may_cases hm
  have hz : q.s = 0 ∧ q.nm = [] ∧ q.ss = [] := by
    rcases hmc.2.2.2 with h | h | h | h | h | h
    · exact ⟨h.2.1, h.2.2.2.1, h.2.2.2.2.1⟩
    · omega
    · omega
    · omega
    · omega
    · omega
  have e : wd ((wrdsL q).drop 1) 1 = hexL q.bs := by
    by_cases h0 : q.bs = []
    · simp [wrdsL, wd, hq, srcB, layB, hz.2.2, h0, hexL]
    · simp [wrdsL, wd, hq, srcB, layB, hz.2.2, h0]
  have := hb q.bs (by rw [hw, e, unhex_hex])
  rw [hx, this]
  simp [truncO, hz.1, hz.2.1]
theorem part_3 {ws : List (List UInt8)} {x : Opx} (h : Part ws 1 x) (hk : x.k = 3) : Part ws 2 x := by
  intro q hm hs hw
  have hx := h q hm hs hw
  have hq : q.k = 3 := by rw [hx] at hk; exact hk
  have hmc := may_cases hm
  have hz : q.s = 0 ∧ q.nm = [] ∧ q.bs = [] := by
    rcases hmc.2.2.2 with h | h | h | h | h | h
    · omega
    · omega
    · exact ⟨h.2.1, h.2.2.2.1, h.2.2.2.2.2⟩
    · omega
    · omega
    · omega
  rw [hx]
  simp [truncO, hz.1, hz.2.1, hz.2.2]
theorem part_y {ws : List (List UInt8)} {x : Opx} (h : Part ws 2 x) (hk : layB x.k = true) : Part ws 3 { x with y := numL (wd (ws.drop 1) 2) } := by
  intro q hm hs hw
  have hx := h q hm hs hw
  have hq : layB q.k = true := by rw [hx] at hk; exact hk
  have hmc := may_cases hm
  have hk6 : q.k = 6 ∨ q.k = 12 := by simpa [layB] using hq
  have hs4 : srcB q.k = true := by unfold srcB; simp; omega
  have e : wd ((wrdsL q).drop 1) 2 = decL q.y.toNat := by simp [wrdsL, wd, hq, hs4]
  rw [hx, hw, e, numL_dec _ (by omega)]
  have hz : q.ss = [] := by
    rcases hmc.2.2.2 with h | h | h | h | h | h
    · omega
    · omega
    · omega
    · omega
    · exact h.2.2.1
    · omega
  simp [truncO, hz]
  omega
theorem part_no {ws : List (List UInt8)} {x : Opx} {i : Nat} (h : Part ws i x) (hi : 2 ≤ i) (hk : x.k ≠ 4) (hl : i = 2 → layB x.k = false) : Part ws (i + 1) x := by
  intro q hm hs hw
  have hx := h q hm hs hw
  have hq : q.k ≠ 4 := by rw [hx] at hk; exact hk
  have hmc := may_cases hm
  have hz : q.ss = [] := by
    rcases hmc.2.2.2 with h | h | h | h | h | h
    · exact h.2.2.2.2.1
    · exact h.2.2.2.1
    · exact h.2.2.2.2.1
    · omega
    · exact h.2.2.1
    · exact h.2.2.2.1
  have hy : i = 2 → q.y = 0 := by
    intro h2
    have := hl h2
    rw [hx] at this
    have hl2 : layB q.k = false := this
    have hk6 : ¬ (q.k = 6 ∨ q.k = 12) := by intro h; rcases h with h | h <;> rw [h] at hl2 <;> cases hl2
    rcases hmc.2.2.2 with h | h | h | h | h | h
    · exact h.2.2.1
    · exact h.2.2.1
    · exact h.2.2.1
    · omega
    · exact absurd h.1 hk6
    · exact h.2.1
  rw [hx]
  by_cases h2 : i = 2
  · simp [truncO, hz, h2, hy h2]
  · have e1 : 1 ≤ i := by omega
    have e3 : 3 ≤ i := by omega
    have e4 : 2 ≤ i + 1 := by omega
    have e5 : 3 ≤ i + 1 := by omega
    simp [truncO, hz, e1, hi, e3, e4]
theorem word_ss {q : Opx} {i : Nat} (hk : q.k = 4) (hi : 2 ≤ i) (hb : q.bs = []) (hlt : i < (wrdsL q).length - 1) : ∃ h : i - 2 < q.ss.length, wd ((wrdsL q).drop 1) i = hexL (enc 4 q.ss[i - 2]) := by
  rw [wrds_4 hk hb] at hlt ⊢
  simp at hlt
  refine ⟨by omega, ?_⟩
  obtain ⟨t, rfl⟩ : ∃ t, i = t + 2 := ⟨i - 2, by omega⟩
  simp [wd]
  rw [List.getElem?_eq_getElem (by omega)]
  simp
theorem part_ss {ws : List (List UInt8)} {x : Opx} {i v : Nat} (h : Part ws i x) (hi : 2 ≤ i) (hk : x.k = 4) (hlt : i < ws.length - 1) (hv : ∀ z, z < 4294967296 → wd (ws.drop 1) i = hexL (enc 4 z) → v = z) : Part ws (i + 1) { x with ss := x.ss ++ [v] } := by
  intro q hm hs hw
  have hx := h q hm hs hw
  have hq : q.k = 4 := by rw [hx] at hk; exact hk
  have hmc := may_cases hm
  have hz : q.y = 0 ∧ q.nm = [] ∧ q.bs = [] := by
    rcases hmc.2.2.2 with h | h | h | h | h | h
    · omega
    · omega
    · omega
    · exact ⟨h.2.1, h.2.2.1, h.2.2.2.1⟩
    · omega
    · omega
  subst hw
  obtain ⟨h1, h2⟩ := word_ss hq hi hz.2.2 hlt
  have := hv _ (hs _ (List.getElem_mem h1)) h2
  subst this
  rw [hx]
  have e1 : 1 ≤ i := by omega
  have e4 : 2 ≤ i + 1 := by omega
  have e5 : i + 1 - 2 = i - 2 + 1 := by omega
  have : q.ss.take (i - 2) ++ [q.ss[i - 2]] = q.ss.take (i + 1 - 2) := by rw [e5, List.take_succ_eq_append_getElem h1]
  simp only [truncO, this, hz.1, e1, hi, e4, if_true, ite_self]
  simp
theorem part_bad {ws : List (List UInt8)} {x y : Opx} {i : Nat} (h : Part ws i x) (hi : 2 ≤ i) (hk : x.k = 4) (hlt : i < ws.length - 1) (hv : ∀ z, z < 4294967296 → wd (ws.drop 1) i = hexL (enc 4 z) → False) : Part ws (i + 1) y := by
  intro q hm hs hw
  have hx := h q hm hs hw
  have hq : q.k = 4 := by rw [hx] at hk; exact hk
  have hmc := may_cases hm
  have hz : q.bs = [] := by
    rcases hmc.2.2.2 with h | h | h | h | h | h
    · omega
    · omega
    · omega
    · exact h.2.2.2.1
    · omega
    · omega
  subst hw
  obtain ⟨h1, h2⟩ := word_ss hq hi hz hlt
  exact (hv _ (hs _ (List.getElem_mem h1)) h2).elim
end Go.Proofs.YtaghecgjmkhpcaaGreatDoor
