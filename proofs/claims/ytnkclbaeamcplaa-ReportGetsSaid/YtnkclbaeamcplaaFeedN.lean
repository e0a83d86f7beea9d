/-
Items of feedback, in plain words: which may be, their bytes. No function of the program is spoken of.
-/
import Derived.Test.YtnkclbaeamcplaaRepN
namespace Go.Proofs.Ytnkclbaeamcplaa
set_option linter.unusedVariables false
set_option linter.unusedSimpArgs false
open Go Go.RowKit

def bareG (i : Itm) : Bool :=
  decide ((i.k = 200 ∨ (i.ntp = 0 ∧ i.tm = 0 ∧ i.pk = 0 ∧ i.oc = 0)) ∧ (i.k = 200 ∨ i.k = 201 ∨ i.bl = []) ∧ (i.k = 203 ∨ i.go = []) ∧ (i.k = 205 ∨ i.pr = []) ∧ (i.k = 205 ∨ i.k = 206 ∨ i.me = 0) ∧ (i.k ≠ 203 ∨ i.s = 0))
def mayG (i : Itm) : Bool :=
  bareG i && (if i.k = 200 ∨ i.k = 201 then lowB i.bl && decide (i.bl.length ≤ 15) else if i.k = 203 then decide (1 ≤ i.go.length ∧ i.go.length ≤ 15) else if i.k = 205 then decide (1 ≤ i.pr.length ∧ i.pr.length ≤ 16) else decide (i.k = 206))
def headL (i : Itm) : List UInt8 := (if i.k = 203 then [] else enc 4 i.s) ++ ((if i.k = 200 then enc 8 i.ntp ++ (enc 4 i.tm ++ (enc 4 i.pk ++ enc 4 i.oc)) else []) ++ (if i.k = 205 ∨ i.k = 206 then enc 4 i.me else []))
def foursL (ns : List Nat) : List UInt8 := ns.flatMap (enc 4)
def prsL (l : List (Nat × Nat)) : List UInt8 := l.flatMap fun p => enc 2 p.1 ++ enc 2 p.2
def bodyL (i : Itm) : List UInt8 := headL i ++ (blksL i.bl ++ (foursL i.go ++ prsL i.pr))
def countG (i : Itm) : Nat := if i.k = 205 ∨ i.k = 206 then 1 else i.bl.length + i.go.length
/-- An item's bytes. -/
def itemL (i : Itm) : List UInt8 := [UInt8.ofNat (128 + countG i), UInt8.ofNat i.k.toNat, 0, UInt8.ofNat ((bodyL i).length / 4)] ++ bodyL i
/-- It may be: what that says of its parts. -/
structure Few (i : Itm) : Prop where
  (bl : i.bl.length ≤ 15) (go : i.go.length ≤ 15) (pr : i.pr.length ≤ 16) (low : lowB i.bl = true) (k : 0 ≤ i.k ∧ i.k ≤ 255)
theorem mayG_few {i : Itm} (h : mayG i = true) : Few i := by
  simp only [mayG, bareG, Bool.and_eq_true, decide_eq_true_eq] at h
  obtain ⟨⟨h1, h2, h3, h4, h5, h6⟩, h7⟩ := h
  by_cases c1 : i.k = 200 ∨ i.k = 201
  · rw [if_pos c1] at h7
    simp only [Bool.and_eq_true, decide_eq_true_eq] at h7
    have g : i.go = [] := by rcases h3 with h | h; · omega
                             · exact h
    have p : i.pr = [] := by rcases h4 with h | h; · omega
                             · exact h
    exact ⟨h7.2, by rw [g]; simp, by rw [p]; simp, h7.1, by omega⟩
  · rw [if_neg c1] at h7
    have b : i.bl = [] := by
      rcases h2 with h | h | h
      · omega
      · omega
      · exact h
    by_cases c2 : i.k = 203
    · rw [if_pos c2] at h7
      simp only [decide_eq_true_eq] at h7
      have p : i.pr = [] := by rcases h4 with h | h; · omega
                               · exact h
      exact ⟨by rw [b]; simp, h7.2, by rw [p]; simp, by rw [b]; rfl, by omega⟩
    · rw [if_neg c2] at h7
      have g : i.go = [] := by rcases h3 with h | h; · omega
                               · exact h
      by_cases c3 : i.k = 205
      · rw [if_pos c3] at h7
        simp only [decide_eq_true_eq] at h7
        exact ⟨by rw [b]; simp, by rw [g]; simp, h7.2, by rw [b]; rfl, by omega⟩
      · rw [if_neg c3] at h7
        simp only [decide_eq_true_eq] at h7
        have p : i.pr = [] := by rcases h4 with h | h; · omega
                                 · exact h
        exact ⟨by rw [b]; simp, by rw [g]; simp, by rw [p]; simp, by rw [b]; rfl, by omega⟩
end Go.Proofs.Ytnkclbaeamcplaa
