/-
Reports, in plain words: blocks, items, their bytes. No function of the program is spoken of.
Media packets, in plain words: which may be, their bytes. No function of the program is spoken of.
Items of feedback, in plain words: which may be, their bytes. No function of the program is spoken of.
-/
import Derived.Test.YtaghecgjmkhpcaaGreatDoorNum
import Derived.Test.YtaghecgjmkhpcaaGreatDoorMem
namespace Go.Proofs.YtaghecgjmkhpcaaGreatDoor
set_option linter.unusedVariables false
set_option linter.unusedSimpArgs false
open Go Go.RowKit

/-- A report's block. -/
structure Blk where
  (s lo t h j la d : Nat)
/-- An item. -/
structure Itm where
  (k : Int) (s ntp tm pk oc : Nat) (bl : List Blk) (go : List Nat) (me : Nat) (pr : List (Nat × Nat))
def blkV (b : Blk) : List Value := [.int .u32 b.s, .int .u8 b.lo, .int .u32 b.t, .int .u32 b.h, .int .u32 b.j, .int .u32 b.la, .int .u32 b.d]
def rowK (l : List Blk) : List Value := l.flatMap blkV
def u32s (l : List Nat) : List Value := l.map fun (x : Nat) => .int .u32 (x : Int)
def prV (p : Nat × Nat) : List Value := [.int .u16 p.1, .int .u16 p.2]
def rowP (l : List (Nat × Nat)) : List Value := l.flatMap prV
theorem rowK_length (l : List Blk) : (rowK l).length = l.length * 7 := by
  induction l with
  | nil => rfl
  | cons b l ih => rw [rowK, List.flatMap_cons, List.length_append, ← rowK, ih]; simp [blkV]; omega
theorem rowK_drop (l : List Blk) (k : Nat) : (rowK l).drop (k * 7) = rowK (l.drop k) := by
  induction l generalizing k with
  | nil => simp [rowK]
  | cons b l ih =>
    rcases k with _ | k
    · simp
    · rw [List.drop_succ_cons, ← ih k, rowK, List.flatMap_cons, ← rowK, show (k + 1) * 7 = (blkV b).length + k * 7 by simp [blkV]; omega, List.drop_append]
      simp
theorem rowK_at (l : List Blk) (k j : Nat) (h : k < l.length) (hj : j < 7) : (rowK l)[k * 7 + j]? = (blkV l[k])[j]? := by
  rw [← List.getElem?_drop, rowK_drop, List.drop_eq_getElem_cons h, rowK, List.flatMap_cons, List.getElem?_append_left (by simp [blkV]; exact hj)]
theorem rowP_length (l : List (Nat × Nat)) : (rowP l).length = l.length * 2 := by
  induction l with
  | nil => rfl
  | cons b l ih => rw [rowP, List.flatMap_cons, List.length_append, ← rowP, ih]; simp [prV]; omega
theorem u32s_length (l : List Nat) : (u32s l).length = l.length := by simp [u32s]

theorem fld_at {w : World} {ad : Addr} {a j : Nat} {v : Value} (h : w.cell? (ad.add (a + (j + 1))) = some v) : w.cell? ⟨(ad.add a).block, (ad.add a).off + (j + 1), none⟩ = some v := by
  have e : ad.add (a + (j + 1)) = ⟨(ad.add a).block, (ad.add a).off + (j + 1), none⟩ := by
    rw [← add_add, Addr.add, if_neg (by omega)]
  rw [← e]; exact h
/-- The seven cells of a block. -/
theorem rd_blk {w : World} {A : Option Addr} {l : List Blk} (h : Rd w A (rowK l)) {k : Nat} (hk : k < l.length) : ∃ ad, A = some ad ∧
    w.cell? (ad.add (k * 7)) = some (.int .u32 l[k].s) ∧ w.cell? ⟨(ad.add (k * 7)).block, (ad.add (k * 7)).off + 1, none⟩ = some (.int .u8 l[k].lo) ∧ w.cell? ⟨(ad.add (k * 7)).block, (ad.add (k * 7)).off + 2, none⟩ = some (.int .u32 l[k].t) ∧
    w.cell? ⟨(ad.add (k * 7)).block, (ad.add (k * 7)).off + 3, none⟩ = some (.int .u32 l[k].h) ∧ w.cell? ⟨(ad.add (k * 7)).block, (ad.add (k * 7)).off + 4, none⟩ = some (.int .u32 l[k].j) ∧
    w.cell? ⟨(ad.add (k * 7)).block, (ad.add (k * 7)).off + 5, none⟩ = some (.int .u32 l[k].la) ∧ w.cell? ⟨(ad.add (k * 7)).block, (ad.add (k * 7)).off + 6, none⟩ = some (.int .u32 l[k].d) := by
  obtain ⟨ad, rfl, h0⟩ := h (k * 7) _ (rowK_at l k 0 hk (by omega))
  have hc : ∀ j u, (blkV l[k])[j + 1]? = some u → j + 1 < 7 → w.cell? ⟨(ad.add (k * 7)).block, (ad.add (k * 7)).off + (j + 1), none⟩ = some u := fun j u hu hj => by
    obtain ⟨ad', he, hc⟩ := h (k * 7 + (j + 1)) u (by rw [rowK_at l k (j + 1) hk hj]; exact hu)
    injection he with he; subst he; exact fld_at hc
  exact ⟨ad, rfl, h0, hc 0 _ rfl (by omega), hc 1 _ rfl (by omega), hc 2 _ rfl (by omega), hc 3 _ rfl (by omega), hc 4 _ rfl (by omega), hc 5 _ rfl (by omega)⟩
theorem row10_cells {w : World} {g : Nat} {t : TypeId} {fr : Nat × Nat} {a0 a1 a2 a3 a4 a5 a6 a7 a8 a9 : Value} (h : w.heap[g]? = some (.cells #[a0, a1, a2, a3, a4, a5, a6, a7, a8, a9] t fr)) :
    w.cell? ⟨g, 0, none⟩ = some a0 ∧ w.cell? ⟨g, 1, none⟩ = some a1 ∧ w.cell? ⟨g, 2, none⟩ = some a2 ∧ w.cell? ⟨g, 3, none⟩ = some a3 ∧ w.cell? ⟨g, 4, none⟩ = some a4 ∧
    w.cell? ⟨g, 5, none⟩ = some a5 ∧ w.cell? ⟨g, 6, none⟩ = some a6 ∧ w.cell? ⟨g, 7, none⟩ = some a7 ∧ w.cell? ⟨g, 8, none⟩ = some a8 ∧ w.cell? ⟨g, 9, none⟩ = some a9 := by
  refine ⟨?_, ?_, ?_, ?_, ?_, ?_, ?_, ?_, ?_, ?_⟩ <;> (rw [cell_of_row _ _ _ _ _ _ h]; rfl)
theorem blk_alloc (w : World) (o : Obj) : (w.alloc o).heap[w.heap.size]? = some o := heap_alloc_new w o
theorem blk_in {w : World} {g : Nat} {o : Obj} (h : w.heap[g]? = some o) : g < w.heap.size := by
  rcases Nat.lt_or_ge g w.heap.size with h' | h'
  · exact h'
  · rw [Array.getElem?_eq_none (by exact h')] at h; cases h
theorem blk_below {w w' : World} {g : Nat} {o : Obj} (h : w.heap[g]? = some o) (hb : Below w.heap.size w w') : w'.heap[g]? = some o := (hb.block g (blk_in h)).trans h

def bareB (i : Itm) : Bool := decide (i.go = [] ∧ i.pr = [] ∧ i.me = 0 ∧ (i.k = 200 ∨ (i.ntp = 0 ∧ i.tm = 0 ∧ i.pk = 0 ∧ i.oc = 0)))
def knownB (k : Int) : Bool := decide (k = 200 ∨ k = 201)
def lowB (l : List Blk) : Bool := l.all fun b => decide (b.t < 16777216)
def mayR (i : Itm) : Bool := knownB i.k && bareB i && decide (i.bl.length ≤ 15) && lowB i.bl
def sizeR (k : Int) (n : Nat) : Nat := 8 + 24 * n + (if k = 200 then 20 else 0)
def blkL (b : Blk) : List UInt8 := enc 4 b.s ++ (enc 4 (b.lo * 16777216 + b.t) ++ (enc 4 b.h ++ (enc 4 b.j ++ (enc 4 b.la ++ enc 4 b.d))))
def blksL (l : List Blk) : List UInt8 := l.flatMap blkL
/-- A report's bytes. -/
def repL (i : Itm) : List UInt8 :=
  [UInt8.ofNat (128 + i.bl.length), UInt8.ofNat i.k.toNat] ++ enc 2 (sizeR i.k i.bl.length / 4 - 1) ++ enc 4 i.s ++ (if i.k = 200 then enc 8 i.ntp ++ (enc 4 i.tm ++ (enc 4 i.pk ++ enc 4 i.oc)) else []) ++ blksL i.bl
/-- Its numbers have the sizes of their fields. -/
structure Blk.Ok (b : Blk) : Prop where
  (s : b.s < 4294967296) (lo : b.lo < 256) (t : b.t < 4294967296) (h : b.h < 4294967296) (j : b.j < 4294967296) (la : b.la < 4294967296) (d : b.d < 4294967296)
structure Itm.Ok (i : Itm) : Prop where
  (k : -9223372036854775808 ≤ i.k ∧ i.k ≤ 9223372036854775807) (s : i.s < 4294967296) (ntp : i.ntp < 18446744073709551616) (tm : i.tm < 4294967296) (pk : i.pk < 4294967296) (oc : i.oc < 4294967296)
  (bl : ∀ b ∈ i.bl, b.Ok) (go : ∀ x ∈ i.go, x < 4294967296) (me : i.me < 4294967296) (pr : ∀ p ∈ i.pr, p.1 < 65536 ∧ p.2 < 65536)
/-- A row of values, as a slice has it. -/
structure Row (w : World) (A : Option Addr) (n c size bytes : Nat) (xs : List Value) : Prop where
  (len : xs.length = n * size) (nc : n ≤ c) (cm : c ≤ maxLen) (nil : A = none → n = 0 ∧ c = 0) (rd : Rd w A xs)
theorem Row.below {w w' : World} {A : Option Addr} {n c size bytes : Nat} {xs : List Value} (h : Row w A n c size bytes xs) (hb : Below w.heap.size w w') : Row w' A n c size bytes xs :=
  ⟨h.len, h.nc, h.cm, h.nil, h.rd.below hb⟩
end Go.Proofs.YtaghecgjmkhpcaaGreatDoor

namespace Go.Proofs.YtaghecgjmkhpcaaGreatDoor
set_option linter.unusedVariables false
set_option linter.unusedSimpArgs false
open Go Go.RowKit

/-- A packet. -/
structure Pkt where
  (mr : Bool) (ty : Int) (sq tm ss : Nat) (cs : List Nat) (hx : Bool) (pf : Nat) (ex pl : List UInt8) (pad : Int)
structure Pkt.Ok (p : Pkt) : Prop where
  (ty : -9223372036854775808 ≤ p.ty ∧ p.ty ≤ 9223372036854775807) (sq : p.sq < 65536) (tm : p.tm < 4294967296) (ss : p.ss < 4294967296) (cs : ∀ x ∈ p.cs, x < 4294967296) (pf : p.pf < 65536) (pad : -9223372036854775808 ≤ p.pad ∧ p.pad ≤ 9223372036854775807)
def fbB (b : Nat) : Bool := decide (192 ≤ b ∧ b ≤ 223)
/-- The second byte. -/
def secN (p : Pkt) : Nat := if p.mr then 128 + (p.ty % 128).toNat else (p.ty % 256).toNat
def mayP (p : Pkt) : Bool := decide (0 ≤ p.ty ∧ p.ty ≤ 127) && (!fbB (secN p) && (decide (p.cs.length ≤ 15 ∧ 0 ≤ p.pad ∧ p.pad ≤ 255) && decide (p.ex.length % 4 = 0 ∧ (p.hx = true ∨ (p.ex = [] ∧ p.pf = 0)))))
def headP (p : Pkt) : Nat := 12 + 4 * p.cs.length + (if p.hx then 4 + p.ex.length else 0)
def sizeP (p : Pkt) : Nat := if mayP p then headP p + p.pl.length + p.pad.toNat else 0
def firstN (p : Pkt) : Nat := 128 + p.cs.length + (if 0 < p.pad then 32 else 0) + (if p.hx then 16 else 0)
/-- A packet's bytes. -/
def pktL (p : Pkt) : List UInt8 :=
  [UInt8.ofNat (firstN p), UInt8.ofNat (secN p)] ++ (enc 2 p.sq ++ (enc 4 p.tm ++ (enc 4 p.ss ++ (p.cs.flatMap (enc 4) ++ ((if p.hx then enc 2 p.pf ++ (enc 2 (p.ex.length / 4) ++ p.ex) else []) ++ (p.pl ++ (if 0 < p.pad then List.replicate (p.pad.toNat - 1) 0 ++ [UInt8.ofNat p.pad.toNat] else [])))))))
theorem secN_lt (p : Pkt) : secN p < 256 := by unfold secN; split <;> omega
end Go.Proofs.YtaghecgjmkhpcaaGreatDoor

namespace Go.Proofs.YtaghecgjmkhpcaaGreatDoor
set_option linter.unusedVariables false
set_option linter.unusedSimpArgs false
open Go Go.RowKit

def bareG (i : Itm) : Bool :=
  decide ((i.k = 200 ∨ (i.ntp = 0 ∧ i.tm = 0 ∧ i.pk = 0 ∧ i.oc = 0)) ∧ (i.k = 200 ∨ i.k = 201 ∨ i.bl = []) ∧ (i.k = 203 ∨ i.go = []) ∧ (i.k = 205 ∨ i.pr = []) ∧ (i.k = 205 ∨ i.k = 206 ∨ i.me = 0) ∧ (i.k ≠ 203 ∨ i.s = 0))
def mayG (i : Itm) : Bool :=
  bareG i && (if i.k = 200 ∨ i.k = 201 then lowB i.bl && decide (i.bl.length ≤ 15) else if i.k = 203 then decide (1 ≤ i.go.length ∧ i.go.length ≤ 15) else if i.k = 205 then decide (1 ≤ i.pr.length ∧ i.pr.length ≤ 16) else decide (i.k = 206))
def headL (i : Itm) : List UInt8 := (if i.k = 203 then [] else enc 4 i.s) ++ ((if i.k = 200 then enc 8 i.ntp ++ (enc 4 i.tm ++ (enc 4 i.pk ++ enc 4 i.oc)) else []) ++ (if i.k = 205 ∨ i.k = 206 then enc 4 i.me else []))
def foursL (ns : List Nat) : List UInt8 := ns.flatMap (enc 4)
def prsL (l : List (Nat × Nat)) : List UInt8 := l.flatMap fun p => enc 2 p.1 ++ enc 2 p.2
def bodyL (i : Itm) : List UInt8 := headL i ++ (blksL i.bl ++ (foursL i.go ++ prsL i.pr))
def countG (i : Itm) : Nat := if i.k = 205 ∨ i.k = 206 then 1 else i.bl.length + i.go.length
/-- An item's bytes. -/
def itemL (i : Itm) : List UInt8 := [UInt8.ofNat (128 + countG i), UInt8.ofNat i.k.toNat, 0, UInt8.ofNat ((bodyL i).length / 4)] ++ bodyL i
/-- It may be: what that says of its parts. -/
structure Few (i : Itm) : Prop where
  (bl : i.bl.length ≤ 15) (go : i.go.length ≤ 15) (pr : i.pr.length ≤ 16) (low : lowB i.bl = true) (k : 0 ≤ i.k ∧ i.k ≤ 255)
theorem mayG_few {i : Itm} (h : mayG i = true) : Few i := by
  simp only [mayG, bareG, Bool.and_eq_true, decide_eq_true_eq] at h
  obtain ⟨⟨h1, h2, h3, h4, h5, h6⟩, h7⟩ := h
  by_cases c1 : i.k = 200 ∨ i.k = 201
  · rw [if_pos c1] at h7
    simp only [Bool.and_eq_true, decide_eq_true_eq] at h7
    have g : i.go = [] := by rcases h3 with h | h; · omega
                             · exact h
    have p : i.pr = [] := by rcases h4 with h | h; · omega
                             · exact h
    exact ⟨h7.2, by rw [g]; simp, by rw [p]; simp, h7.1, by omega⟩
  · rw [if_neg c1] at h7
    have b : i.bl = [] := by
      rcases h2 with h | h | h
      · omega
      · omega
      · exact h
    by_cases c2 : i.k = 203
    · rw [if_pos c2] at h7
      simp only [decide_eq_true_eq] at h7
      have p : i.pr = [] := by rcases h4 with h | h; · omega
                               · exact h
      exact ⟨by rw [b]; simp, h7.2, by rw [p]; simp, by rw [b]; rfl, by omega⟩
    · rw [if_neg c2] at h7
      have g : i.go = [] := by rcases h3 with h | h; · omega
                               · exact h
      by_cases c3 : i.k = 205
      · rw [if_pos c3] at h7
        simp only [decide_eq_true_eq] at h7
        exact ⟨by rw [b]; simp, by rw [g]; simp, h7.2, by rw [b]; rfl, by omega⟩
      · rw [if_neg c3] at h7
        simp only [decide_eq_true_eq] at h7
        have p : i.pr = [] := by rcases h4 with h | h; · omega
                                 · exact h
        exact ⟨by rw [b]; simp, by rw [g]; simp, by rw [p]; simp, by rw [b]; rfl, by omega⟩
end Go.Proofs.YtaghecgjmkhpcaaGreatDoor
