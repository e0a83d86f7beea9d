/-
What Put of package rtp writes.
-/
import Derived.Test.YtknlkmencdlpcaaRtp1
import Derived.Test.YtknlkmencdlpcaaApp
import Derived.Deep.CutBlock
namespace Go.Proofs.Ytknlkmencdlpcaa
set_option linter.unusedVariables false
set_option linter.unusedSimpArgs false
open Go Go.RowKit

def errP (p : Pkt) : Nat := if sizeP p = 0 then 1 else if sizeP p > 512 then 5 else 0
def outP (p : Pkt) : List UInt8 := if errP p = 0 then pktL p else []
/-- What Put keeps between its steps: so many bytes are written, the others are 0. -/
structure PutP (w0 w : World) (it : Array Value) (g n : Nat) (d : List UInt8) : Prop where
  it : w.heap[w0.heap.size]? = some (.cells it 39 (0, 0))
  own : w.ownsRow w0.heap.size 5 1 (.slice (some ⟨g, 0, none⟩) n n) n (bys (d ++ List.replicate (n - d.length) 0))
  b : Below w0.heap.size w0 w
  len : d.length ≤ n
theorem zeros_eq (n : Nat) : List.replicate n (Value.int .u8 0) = bys (List.replicate n 0) := by simp [bys, u8v]
theorem PutP.below {w0 w w' : World} {it : Array Value} {g n : Nat} {d : List UInt8} (h : PutP w0 w it g n d) (hb : Below w.heap.size w w') : PutP w0 w' it g n d :=
  ⟨blk_below h.it hb, h.own.kept (own_below hb) (own_none _), h.b.trans (hb.mono h.b.size), h.len⟩
theorem PutP.drew {w0 w : World} {it : Array Value} {g n : Nat} {d : List UInt8} (h : PutP w0 w it g n d) : PutP w0 w.drew it g n d := h.below ((Below.refl _ _).drew)
theorem PutP.grow {w0 w w' : World} {it : Array Value} {g n : Nat} {d d' : List UInt8} (h : PutP w0 w it g n d) (ho : w'.ownsRow w0.heap.size 5 1 (.slice (some ⟨g, 0, none⟩) n n) n (bys (d' ++ List.replicate (n - d'.length) 0))) (hg : w.grownBy w' (some g)) (hl : d'.length ≤ n) : PutP w0 w' it g n d' := by
  have hne := own_off h.own h.it (by decide)
  rw [ownBlock_slice] at hne
  refine ⟨(hg.block _ (blk_in h.it) (fun e => ?_)).trans h.it, ho, h.b.grown hg h.b.size (fun q hq => own_from h.own q hq), hl⟩
  rcases hne with hne | hne
  · cases hne
  · exact hne e.symm
/-- The first two bytes are stored. -/
theorem PutP.two {w0 w : World} {it : Array Value} {g n : Nat} (h : PutP w0 w it g n []) (hn : 2 ≤ n) (x y : Nat) (hx : x < 256) (hy : y < 256) :
    (w.cell? ⟨g, 0, none⟩ = some (.int .u8 0) ∧ w.frozen? ⟨g, 0, none⟩ = false) ∧ ((w.setCell ⟨g, 0, none⟩ (.int .u8 x)).cell? ⟨g, 1, none⟩ = some (.int .u8 0) ∧ (w.setCell ⟨g, 0, none⟩ (.int .u8 x)).frozen? ⟨g, 1, none⟩ = false) ∧
    PutP w0 ((w.setCell ⟨g, 0, none⟩ (.int .u8 x)).setCell ⟨g, 1, none⟩ (.int .u8 y)) it g n [UInt8.ofNat x, UInt8.ofNat y] := by
  obtain ⟨m, rfl⟩ : ∃ m, n = m + 2 := ⟨n - 2, by omega⟩
  have ho := h.own
  simp only [List.nil_append, List.length_nil, Nat.sub_zero] at ho
  have e0 : bys (List.replicate (m + 2) (0 : UInt8)) = .int .u8 0 :: .int .u8 0 :: bys (List.replicate m 0) := by simp [bys, u8v, List.replicate_succ]
  rw [e0] at ho
  have c0 := ho.cellAt 0 (by omega)
  have f0 := ho.frozenAt 0
  obtain ⟨ho1, hg1⟩ := ho.stored 0 (.int .u8 x)
  have c1 := ho1.cellAt 1 (by omega)
  have f1 := ho1.frozenAt 1
  obtain ⟨ho2, hg2⟩ := ho1.stored 1 (.int .u8 y)
  refine ⟨⟨by rw [c0]; rfl, f0⟩, ⟨by rw [c1]; rfl, f1⟩, h.grow ?_ (grown_tr hg1 hg2) (by simp)⟩
  have e1 : bys ([UInt8.ofNat x, UInt8.ofNat y] ++ List.replicate (m + 2 - [UInt8.ofNat x, UInt8.ofNat y].length) 0) = ((Value.int IntKind.u8 0 :: Value.int IntKind.u8 0 :: bys (List.replicate m 0)).set 0 (.int .u8 x)).set 1 (.int .u8 y) := by
    simp [bys, u8v, UInt8.toNat_ofNat']
    omega
  rw [e1]; exact ho2
theorem firstN_lt {p : Pkt} (h : p.cs.length ≤ 15) : firstN p < 256 := by
  unfold firstN
  split <;> split <;> omega
theorem put_next (d : List UInt8) (n s z : Nat) (h : d.length + s ≤ n) : splice' (d ++ List.replicate (n - d.length) 0) d.length (enc s z) = (d ++ enc s z) ++ List.replicate (n - (d ++ enc s z).length) 0 := by
  unfold splice'
  rw [List.take_left, List.drop_append, enc_length]
  simp [enc_length, Nat.sub_sub]
/-- A number is written behind what is written. -/
theorem PutP.put {w0 w : World} {it : Array Value} {g n : Nat} {d : List UInt8} (h : PutP w0 w it g n d) (A S Z : Int) (s z : Nat) (hA : A = d.length) (hS : S = s) (hZ : Z = z) (h1 : 1 ≤ s ∧ s ≤ 8) (hz : z < 256 ^ s) (hd : d.length + s ≤ n) (hn : n ≤ 512) :
    Calls Try.prog 79 #[.slice (some ⟨g, 0, none⟩) n n, .int .i64 A, .int .i64 S, .int .u64 Z] w fun e w' => e = .returned (.bool true) ∧ PutP w0 w' it g n (d ++ enc s z) := by
  subst hA hS hZ
  have hl : (d ++ List.replicate (n - d.length) (0 : UInt8)).length = n := by simp; have := h.len; omega
  have hf : fitsB (s : Int) z = true := by rw [fitsB_iff]; exact ⟨by omega, by omega, by rw [Int.toNat_natCast]; exact hz⟩
  have hw : withinB (d ++ List.replicate (n - d.length) (0 : UInt8)).length d.length s = true := by rw [withinB_iff, hl]; omega
  have h64 : z ≤ 18446744073709551615 := by have := pow_le_8 s (by omega); rw [Int.toNat_natCast] at this; omega
  have hb : putB (d ++ List.replicate (n - d.length) (0 : UInt8)) d.length s ((z : Int).toNat) = true := by unfold putB; rw [hw, Int.toNat_natCast, hf]; rfl
  refine (put_any w0.heap.size (some ⟨g, 0, none⟩) n n _ d.length s z w hl (Nat.le_refl _) (by unfold maxLen; omega) h.own (by omega) (by omega) (by omega) (by omega)).mono ?_
  rintro e w' ⟨rfl, ho, hg, _⟩
  rw [hb]
  refine ⟨rfl, h.grow ?_ hg (by simp [enc_length]; omega)⟩
  unfold putL at ho
  rw [if_pos hb, Int.toNat_natCast, Int.toNat_natCast, Int.toNat_natCast, put_next d n s z hd] at ho
  exact ho
def fm4 (l : List Nat) : List UInt8 := l.flatMap (enc 4)
theorem fm4_length (ns : List Nat) : (fm4 ns).length = ns.length * 4 := by
  induction ns with
  | nil => rfl
  | cons x l ih => rw [fm4, List.flatMap_cons, List.length_append, ← fm4, ih, enc_length, List.length_cons]; omega
theorem fm4_take (l : List Nat) {k : Nat} (h : k < l.length) : fm4 (l.take (k + 1)) = fm4 (l.take k) ++ enc 4 l[k] := by
  rw [List.take_succ_eq_append_getElem h, fm4, List.flatMap_append, ← fm4]
  simp
theorem u32_at {w : World} {A : Option Addr} {l : List Nat} (h : Rd w A (u32s l)) {k : Nat} (hk : k < l.length) : ∃ ad, A = some ad ∧ w.cell? (ad.add k) = some (.int .u32 l[k]) := by
  obtain ⟨ad, rfl, hc⟩ := h k (.int .u32 l[k]) (by simp [u32s, hk])
  exact ⟨ad, rfl, hc⟩
/-- A row of bytes is copied behind what is written. -/
theorem PutP.cpd {w0 w w' : World} {it : Array Value} {g n : Nat} {d : List UInt8} (h : PutP w0 w it g n d) (xs : List UInt8) (hd : d.length + xs.length ≤ n) (k dl : Nat) (hk : k = d.length) (hdl : dl = n - k)
    (ho : w'.ownsRow w0.heap.size 5 1 (.slice (some ⟨g, 0, none⟩) n n) n ((bys (d ++ List.replicate (n - d.length) 0)).take k ++ (bys xs).take dl ++ (bys (d ++ List.replicate (n - d.length) 0)).drop (k + ((bys xs).take dl).length)))
    (hg : w.grownBy w' (Option.map Addr.block (some ⟨g, 0, none⟩))) : PutP w0 w' it g n (d ++ xs) := by
  subst hk hdl
  have e1 : (bys xs).take (n - d.length) = bys xs := List.take_of_length_le (by rw [bys_length]; omega)
  rw [e1, bys_length] at ho
  refine h.grow ?_ hg (by simp; omega)
  have e2 : (bys (d ++ List.replicate (n - d.length) 0)).take d.length ++ bys xs ++ (bys (d ++ List.replicate (n - d.length) 0)).drop (d.length + xs.length) = bys (d ++ xs ++ List.replicate (n - (d ++ xs).length) 0) := by
    unfold bys
    rw [← List.map_take, ← List.map_drop, ← List.map_append, ← List.map_append]
    congr 1
    rw [List.take_left, List.drop_append]
    simp [Nat.sub_sub]
  rw [e2] at ho
  exact ho
theorem PutP.fin0 {w0 w : World} {it : Array Value} {g n : Nat} {d : List UInt8} (h : PutP w0 w it g n d) (hd : d.length = n) : w.ownsRow w0.heap.size 5 1 (.slice (some ⟨g, 0, none⟩) n n) n (bys d) ∧ Below w0.heap.size w0 w := by
  refine ⟨?_, h.b⟩
  have := h.own
  rwa [hd, Nat.sub_self, List.replicate_zero, List.append_nil] at this
theorem PutP.fin1 {w0 w : World} {it : Array Value} {g n : Nat} {d : List UInt8} (h : PutP w0 w it g n d) (k x : Nat) (hx : x < 256) (h1 : 1 ≤ k) (hd : d.length + k = n) :
    w.cell? ⟨g, n - 1, none⟩ = some (.int .u8 0) ∧ w.frozen? ⟨g, n - 1, none⟩ = false ∧
    (w.setCell ⟨g, n - 1, none⟩ (.int .u8 x)).ownsRow w0.heap.size 5 1 (.slice (some ⟨g, 0, none⟩) n n) n (bys (d ++ (List.replicate (k - 1) 0 ++ [UInt8.ofNat x]))) ∧ Below w0.heap.size w0 (w.setCell ⟨g, n - 1, none⟩ (.int .u8 x)) := by
  obtain ⟨m, rfl⟩ : ∃ m, k = m + 1 := ⟨k - 1, by omega⟩
  have ho := h.own
  have e0 : n - d.length = m + 1 := by omega
  have e1 : bys (d ++ List.replicate (n - d.length) 0) = bys (d ++ List.replicate m 0) ++ [.int .u8 0] := by
    rw [e0, List.replicate_succ', ← List.append_assoc]; simp [bys, u8v]
  have l1 : (bys (d ++ List.replicate m 0)).length = n - 1 := by rw [bys_length]; simp; omega
  rw [e1] at ho
  have c0 := ho.cellAt (n - 1) (by omega)
  have f0 := ho.frozenAt (n - 1)
  obtain ⟨ho1, hg1⟩ := ho.stored (n - 1) (.int .u8 x)
  refine ⟨?_, f0, ?_, h.b.grown hg1 h.b.size (fun q hq => own_from h.own q hq)⟩
  · rw [c0]; simp [List.getElem?_append_right, l1]
  · have e2 : (bys (d ++ List.replicate m 0) ++ [Value.int .u8 0]).set (n - 1) (.int .u8 x) = bys (d ++ (List.replicate (m + 1 - 1) 0 ++ [UInt8.ofNat x])) := by
      rw [List.set_append_right _ _ (by omega), l1, Nat.sub_self, Nat.add_sub_cancel, ← List.append_assoc]
      simp [bys, u8v, UInt8.toNat_ofNat']
      omega
    rw [e2] at ho1
    exact ho1
theorem PutP.last {w0 w : World} {it : Array Value} {g n : Nat} {d : List UInt8} (h : PutP w0 w it g n d) (m : Nat) (hm : m < n) : ∃ v, w.cell? ⟨g, m, none⟩ = some v ∧ w.frozen? ⟨g, m, none⟩ = false := by
  have hl : (bys (d ++ List.replicate (n - d.length) 0)).length = n := by rw [bys_length]; simp; have := h.len; omega
  have c0 := h.own.cellAt m (by omega)
  exact ⟨_, c0.trans (List.getElem?_eq_getElem (by rw [hl]; exact hm)), h.own.frozenAt m⟩
theorem pktL_split (p : Pkt) (D X : List UInt8) (hD : D = [UInt8.ofNat (firstN p), UInt8.ofNat (secN p)] ++ (enc 2 p.sq ++ (enc 4 p.tm ++ (enc 4 p.ss ++ (p.cs.flatMap (enc 4) ++ X))))) (hX : X = if p.hx then enc 2 p.pf ++ (enc 2 (p.ex.length / 4) ++ p.ex) else []) :
    pktL p = (D ++ p.pl) ++ (if 0 < p.pad then List.replicate (p.pad.toNat - 1) 0 ++ [UInt8.ofNat p.pad.toNat] else []) := by
  rw [hD, hX]; unfold pktL; simp only [List.append_assoc]
end Go.Proofs.Ytknlkmencdlpcaa
