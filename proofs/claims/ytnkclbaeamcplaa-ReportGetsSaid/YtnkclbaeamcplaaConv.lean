/-
string(b): what it yields.
-/
import Derived.Test.YtnkclbaeamcplaaField2
import Derived.Laws.IdiomStrings
namespace Go.Proofs.Ytnkclbaeamcplaa
set_option linter.unusedVariables false
set_option linter.unusedSimpArgs false
open Go Go.RowKit

theorem cv_str {P : Program} {src dst e : TypeId} (hs : P.underlying src = some (.slice e)) (he : P.underlying e = some (.int .u8)) (hd : P.underlying dst = some .string)
    (w : World) (A : Option Addr) (n c : Nat) (l : List UInt8) (hn : l.length = n) (hr : Rd w A (bys l)) : (convert src dst (.slice A n c)).run P w = .ok (.string ⟨l.toArray⟩) w := by
  subst hn
  rcases A with _ | ad
  · obtain rfl : l = [] := by
      rcases l with _ | ⟨x, l⟩
      · rfl
      · obtain ⟨ad, h, _⟩ := hr 0 _ rfl
        cases h
    rw [run_convert_bytes_string w src dst e none _ c hs he hd]
    rfl
  · refine run_convert_bytes_back w src dst e ad c l hs he hd fun j hj => ?_
    obtain ⟨ad', h, hc⟩ := RdB.at_ hr hj
    injection h with h; subst h
    exact hc
theorem cv_rd {w : World} {A : Option Addr} {n c : Nat} {l : List UInt8} (hn : l.length = n) (h : Rd w A (bys l)) : (convert 30 9 (.slice A n c)).run Try.prog w = .ok (.string ⟨l.toArray⟩) w :=
  cv_str Try.underlying30 Try.underlying5 Try.underlying9 w A n c l hn h
theorem cv_own {w : World} {base : Nat} {A : Option Addr} {n c : Nat} {l : List UInt8} (h : w.ownsRow base 5 1 (.slice A n c) n (bys l)) : (convert 30 9 (.slice A n c)).run Try.prog w = .ok (.string ⟨l.toArray⟩) w :=
  cv_rd (by have := h.1; rw [bys_length] at this; omega) (Rd.own h)
end Go.Proofs.Ytnkclbaeamcplaa
