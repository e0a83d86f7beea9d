/-
Media packets, in plain words: which may be, their bytes. No function of the program is spoken of.
-/
import Derived.Test.YtnkclbaeamcplaaRepN
namespace Go.Proofs.Ytnkclbaeamcplaa
set_option linter.unusedVariables false
set_option linter.unusedSimpArgs false
open Go Go.RowKit

/-- A packet. -/
structure Pkt where
  (mr : Bool) (ty : Int) (sq tm ss : Nat) (cs : List Nat) (hx : Bool) (pf : Nat) (ex pl : List UInt8) (pad : Int)
structure Pkt.Ok (p : Pkt) : Prop where
  (ty : -9223372036854775808 ≤ p.ty ∧ p.ty ≤ 9223372036854775807) (sq : p.sq < 65536) (tm : p.tm < 4294967296) (ss : p.ss < 4294967296) (cs : ∀ x ∈ p.cs, x < 4294967296) (pf : p.pf < 65536) (pad : -9223372036854775808 ≤ p.pad ∧ p.pad ≤ 9223372036854775807)
def fbB (b : Nat) : Bool := decide (192 ≤ b ∧ b ≤ 223)
/-- The second byte. -/
def secN (p : Pkt) : Nat := if p.mr then 128 + (p.ty % 128).toNat else (p.ty % 256).toNat
def mayP (p : Pkt) : Bool := decide (0 ≤ p.ty ∧ p.ty ≤ 127) && (!fbB (secN p) && (decide (p.cs.length ≤ 15 ∧ 0 ≤ p.pad ∧ p.pad ≤ 255) && decide (p.ex.length % 4 = 0 ∧ (p.hx = true ∨ (p.ex = [] ∧ p.pf = 0)))))
def headP (p : Pkt) : Nat := 12 + 4 * p.cs.length + (if p.hx then 4 + p.ex.length else 0)
def sizeP (p : Pkt) : Nat := if mayP p then headP p + p.pl.length + p.pad.toNat else 0
def firstN (p : Pkt) : Nat := 128 + p.cs.length + (if 0 < p.pad then 32 else 0) + (if p.hx then 16 else 0)
/-- A packet's bytes. -/
def pktL (p : Pkt) : List UInt8 :=
  [UInt8.ofNat (firstN p), UInt8.ofNat (secN p)] ++ (enc 2 p.sq ++ (enc 4 p.tm ++ (enc 4 p.ss ++ (p.cs.flatMap (enc 4) ++ ((if p.hx then enc 2 p.pf ++ (enc 2 (p.ex.length / 4) ++ p.ex) else []) ++ (p.pl ++ (if 0 < p.pad then List.replicate (p.pad.toNat - 1) 0 ++ [UInt8.ofNat p.pad.toNat] else [])))))))
theorem secN_lt (p : Pkt) : secN p < 256 := by unfold secN; split <;> omega
end Go.Proofs.Ytnkclbaeamcplaa
