/-
Scripts as texts, in plain words: digits, lines, what may stand in a line.
-/
import Derived.Test.YtaghecgjmkhpcaaGreatDoorRepN
namespace Go.Proofs.YtaghecgjmkhpcaaGreatDoor
set_option linter.unusedVariables false
set_option linter.unusedSimpArgs false

/-- An operation, its name and its slices as lists. -/
structure Opx where
  (k p s y : Int) (nm : List UInt8) (ss : List Nat) (bs : List UInt8)
/-- A digit of sixteen. -/
def hexD (x : Nat) : UInt8 := if x < 10 then UInt8.ofNat (48 + x) else UInt8.ofNat (87 + x)
def hexL (l : List UInt8) : List UInt8 := l.flatMap fun b => [hexD (b.toNat / 16), hexD (b.toNat % 16)]
/-- A number from 0 to 999. -/
def decL (n : Nat) : List UInt8 :=
  if n < 10 then [UInt8.ofNat (48 + n)] else if n < 100 then [UInt8.ofNat (48 + n / 10), UInt8.ofNat (48 + n % 10)] else [UInt8.ofNat (48 + n / 100), UInt8.ofNat (48 + n / 10 % 10), UInt8.ofNat (48 + n % 10)]
def wordsT : List (List UInt8) :=
  [[], [105, 110], [106, 111, 105, 110], [108, 101, 97, 118, 101], [112, 117, 98, 108, 105, 115, 104], [117, 110, 112, 117, 98, 108, 105, 115, 104], [115, 117, 98, 115, 99, 114, 105, 98, 101],
   [117, 110, 115, 117, 98, 115, 99, 114, 105, 98, 101], [109, 117, 116, 101], [117, 110, 109, 117, 116, 101], [112, 97, 117, 115, 101], [114, 101, 115, 117, 109, 101], [115, 119, 105, 116, 99, 104]]
def wordL (k : Int) : List UInt8 := wordsT.getD k.toNat []
def srcB (k : Int) : Bool := decide (4 ≤ k)
def layB (k : Int) : Bool := k == 6 || k == 12
def smlB (n : Int) : Bool := decide (0 ≤ n ∧ n ≤ 999)
theorem hexL_length (l : List UInt8) : (hexL l).length = 2 * l.length := by
  induction l with
  | nil => rfl
  | cons b l ih =>
    have e : hexL (b :: l) = [hexD (b.toNat / 16), hexD (b.toNat % 16)] ++ hexL l := rfl
    rw [e, List.length_append, ih]
    simp
    omega
theorem hexL_append (l m : List UInt8) : hexL (l ++ m) = hexL l ++ hexL m := by simp [hexL]
/-- The words of an operation's line. -/
def wrdsL (o : Opx) : List (List UInt8) :=
  [wordL o.k, decL o.p.toNat] ++ ((if srcB o.k then [decL o.s.toNat] else []) ++ ((if layB o.k then [decL o.y.toNat] else []) ++ ((if o.k = 2 then [o.nm] else []) ++ (o.ss.map (fun x => hexL (enc 4 x)) ++ (if o.bs = [] then [] else [hexL o.bs])))))
/-- Words with a byte between them. -/
def joinL (c : UInt8) : List (List UInt8) → List UInt8
  | [] => []
  | [x] => x
  | x :: y :: l => x ++ c :: joinL c (y :: l)
def lineL (o : Opx) : List UInt8 := joinL 32 (wrdsL o) ++ [10]
end Go.Proofs.YtaghecgjmkhpcaaGreatDoor
