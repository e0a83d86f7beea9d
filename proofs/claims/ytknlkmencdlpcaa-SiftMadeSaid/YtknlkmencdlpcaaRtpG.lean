/-
What bytes are as a packet, in plain words. No function of the program is spoken of.
-/
import Derived.Test.YtknlkmencdlpcaaRepN
import Derived.Test.YtknlkmencdlpcaaRep1
namespace Go.Proofs.Ytknlkmencdlpcaa
set_option linter.unusedVariables false
set_option linter.unusedSimpArgs false
open Go Go.RowKit

def nCs (l : List UInt8) : Nat := byteN l 0 % 16
def atP (l : List UInt8) : Nat := 12 + 4 * nCs l
def exB (l : List UInt8) : Bool := decide (byteN l 0 / 16 % 2 = 1)
def extA (l : List UInt8) : Nat := if exB l then atP l + 4 else atP l
def frmA (l : List UInt8) : Nat := if exB l then atP l + 4 + 4 * getN l (atP l + 2 : Nat) 2 else atP l
def padX (r : List UInt8) : Nat := byteN r (r.length - 1)
/-- How much padding the rest of a packet has. -/
def padT (b0 : Nat) (r : List UInt8) : Option Nat :=
  if b0 / 32 % 2 = 0 then some 0 else if r.length = 0 then none else
    if padX r = 0 ∨ r.length < padX r then none else if ((r.drop (r.length - padX r)).take (padX r - 1)).all (fun y => y == 0) then some (padX r) else none
def padN (l : List UInt8) : Option Nat := padT (byteN l 0) (l.drop (frmA l))
def lookE (l : List UInt8) : Nat :=
  if l.length > 512 then 5 else if l.length < 12 then 2 else if byteN l 0 / 64 ≠ 2 then 1 else if fbB (byteN l 1) then 4 else if l.length < frmA l then 2 else if (padN l).isNone then 1 else 0
def lookX (l : List UInt8) : Nat := if lookE l = 0 then extA l else 0
def lookF (l : List UInt8) : Nat := if lookE l = 0 then frmA l else 0
def lookT (l : List UInt8) : Nat := if lookE l = 0 then l.length - (padN l).getD 0 else 0
def csL (l : List UInt8) (k : Nat) : List Nat := (List.range k).map fun i => getN l (12 + 4 * i : Nat) 4
def zeroP : Pkt := ⟨false, 0, 0, 0, 0, [], false, 0, [], [], 0⟩
def pfG (l : List UInt8) : Nat := if exB l then getN l (atP l : Nat) 2 else 0
def exG (l : List UInt8) : List UInt8 := if exB l then (l.drop (extA l)).take (frmA l - extA l) else []
def plG (l : List UInt8) : List UInt8 := (l.drop (frmA l)).take (lookT l - frmA l)
/-- The packet that bytes are. -/
def getP (l : List UInt8) : Pkt :=
  if lookE l = 0 then ⟨decide (128 ≤ byteN l 1), (byteN l 1 % 128 : Nat), getN l 2 2, getN l 4 4, getN l 8 4, csL l (nCs l), exB l, pfG l, exG l, plG l, (l.length - lookT l : Nat)⟩ else zeroP
theorem csL_succ (l : List UInt8) (k : Nat) : csL l (k + 1) = csL l k ++ [getN l (12 + 4 * k : Nat) 4] := by simp [csL, List.range_succ]
theorem csL_length (l : List UInt8) (k : Nat) : (csL l k).length = k := by simp [csL]
theorem nCs_lt (l : List UInt8) : nCs l < 16 := Nat.mod_lt _ (by omega)
theorem ext_le_frm (l : List UInt8) : extA l ≤ frmA l := by unfold extA frmA; split <;> omega
theorem at_le_ext (l : List UInt8) : atP l ≤ extA l := by unfold extA; split <;> omega
theorem rtpbits : ∀ k : Nat, k < 256 → (bits .and .u8 (k : Int) 16 == 0) = decide (k / 16 % 2 = 0) ∧ (bits .and .u8 (k : Int) 32 == 0) = decide (k / 32 % 2 = 0) ∧ bits .and .u8 (k : Int) 15 = ((k % 16 : Nat) : Int) ∧ (bits .and .u8 (k : Int) 128 != 0) = decide (128 ≤ k) ∧ bits .and .u8 (k : Int) 127 = ((k % 128 : Nat) : Int) ∧ (bits .and .u8 (k : Int) 16 != 0) = decide (k / 16 % 2 = 1) := by
  have h : (List.range 256).all (fun k => decide ((bits .and .u8 (k : Int) 16 == 0) = decide (k / 16 % 2 = 0) ∧ (bits .and .u8 (k : Int) 32 == 0) = decide (k / 32 % 2 = 0) ∧ bits .and .u8 (k : Int) 15 = ((k % 16 : Nat) : Int) ∧ (bits .and .u8 (k : Int) 128 != 0) = decide (128 ≤ k) ∧ bits .and .u8 (k : Int) 127 = ((k % 128 : Nat) : Int) ∧ (bits .and .u8 (k : Int) 16 != 0) = decide (k / 16 % 2 = 1))) = true := by decide +kernel
  intro k hk
  exact of_decide_eq_true (List.all_eq_true.1 h k (List.mem_range.2 hk))
theorem look_ok {l : List UInt8} (h : lookE l = 0) : l.length ≤ 512 ∧ 12 ≤ l.length ∧ byteN l 0 / 64 = 2 ∧ fbB (byteN l 1) = false ∧ frmA l ≤ l.length ∧ ∃ k, padN l = some k ∧ k ≤ l.length - frmA l ∧ lookT l = l.length - k := by
  have h' := h
  unfold lookE at h
  split at h
  · cases h
  split at h
  · cases h
  split at h
  · cases h
  split at h
  · cases h
  split at h
  · cases h
  split at h
  · cases h
  rename_i h1 h2 h3 h4 h5 h6
  refine ⟨by omega, by omega, by omega, by simpa using h4, by omega, ?_⟩
  rcases hp : padN l with _ | k
  · rw [hp] at h6; simp at h6
  · refine ⟨k, rfl, ?_, by unfold lookT; rw [if_pos h', hp]; rfl⟩
    unfold padN padT at hp
    split at hp
    · injection hp with hp; omega
    split at hp
    · cases hp
    split at hp
    · cases hp
    split at hp
    · injection hp with hp
      rename_i h8 _
      subst hp
      simp only [List.length_drop] at h8 ⊢
      omega
    · cases hp
end Go.Proofs.Ytknlkmencdlpcaa
