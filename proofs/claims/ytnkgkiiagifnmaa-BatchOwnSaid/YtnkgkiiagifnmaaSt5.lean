/-
What is kept in the walk of a law over a store: the store, some variables of the law's own, all that was there ahead.
-/
import Derived.Test.YtnkgkiiagifnmaaSt4
import Derived.Test.YtnkgkiiagifnmaaFrame
namespace Go.Proofs.Ytnkgkiiagifnmaa
set_option linter.unusedVariables false
set_option linter.unusedSimpArgs false
open Go Go.RowKit

/-- A row's block is none of the store's, and no variable of one's own. -/
def Off (w0 : World) (F : Nat → Prop) (H : List (Nat × Obj)) (A : Option Addr) : Prop := ∀ b, A.map Addr.block = some b → ¬ F b ∧ w0.heap.size ≤ b ∧ ∀ x ∈ H, x.1 ≠ b
structure OwK (w0 w : World) (base : Nat) (F : Nat → Prop) (P n : Nat) (S : List Slo) (L : Nat → List UInt8) (H : List (Nat × Obj)) : Prop where
  st : Sto w base F P n S L
  vars : ∀ x ∈ H, w.heap[x.1]? = some x.2 ∧ ¬ F x.1
  b : Below w0.heap.size w0 w
  hB : w0.heap.size ≤ base
section
variable {w0 w w' : World} {base : Nat} {F F' X : Nat → Prop} {P n : Nat} {S S' : List Slo} {L L' : Nat → List UInt8} {H : List (Nat × Obj)}
theorem OwK.below (h : OwK w0 w base F P n S L H) (hb : Below w.heap.size w w') : OwK w0 w' base F P n S L H :=
  ⟨h.st.below hb, fun x hx => ⟨(hb.block _ (block_lt (h.vars x hx).1)).trans (h.vars x hx).1, (h.vars x hx).2⟩, h.b.trans (hb.mono h.b.size), h.hB⟩
theorem OwK.alloc (h : OwK w0 w base F P n S L H) (o : Obj) : OwK w0 (w.alloc o) base F P n S L H := h.below ((Below.refl _ _).alloc (Nat.le_refl _) o)
theorem OwK.drew (h : OwK w0 w base F P n S L H) : OwK w0 w.drew base F P n S L H := h.below ((Below.refl _ _).drew)
theorem OwK.step (h : OwK w0 w base F P n S L H) (hs : Sto w' base F' P n S' L') (hG : Grw F F' w.heap.size) (hw : Wen w w' F) : OwK w0 w' base F' P n S' L' H :=
  ⟨hs, fun x hx => ⟨(hw.block _ (block_lt (h.vars x hx).1) (h.vars x hx).2).trans (h.vars x hx).1, fun hF => by
    rcases hG _ hF with h1 | h1
    · exact (h.vars x hx).2 h1
    · have := block_lt (h.vars x hx).1; omega⟩, h.b.trans (hw.below (fun k hk => Nat.le_trans h.hB (h.st.lt k hk).1) h.b.size), h.hB⟩
theorem OwK.same (h : OwK w0 w base F P n S L H) (hs : Sto w' base F P n S' L') (hw : Wen w w' F) : OwK w0 w' base F P n S' L' H := h.step hs (Grw.refl _ _) hw
/-- Something else is written. -/
theorem OwK.else (h : OwK w0 w base F P n S L H) (hw : Wen w w' X) (hx : ∀ k, X k → ¬ F k ∧ w0.heap.size ≤ k ∧ ∀ x ∈ H, x.1 ≠ k) : OwK w0 w' base F P n S L H :=
  ⟨h.st.wen hw (fun k hk hX => (hx k hX).1 hk), fun x hm => ⟨(hw.block _ (block_lt (h.vars x hm).1) (fun hX => (hx _ hX).2.2 x hm rfl)).trans (h.vars x hm).1, (h.vars x hm).2⟩, h.b.trans (hw.below (fun k hk => (hx k hk).2.1) h.b.size), h.hB⟩
/-- A variable of one's own is made. -/
theorem OwK.add (h : OwK w0 w base F P n S L H) {o o' : Obj} (hg : (w.alloc o).grownBy w' (some w.heap.size)) (hi : w'.heap[w.heap.size]? = some o') : OwK w0 w' base F P n S L ((w.heap.size, o') :: H) := by
  have h1 := (h.alloc o).else (Wen.of_grown hg) (fun k e => by
    injection e with e
    subst e
    exact ⟨fun hF => by have := (h.st.lt _ hF).2; omega, h.b.size, fun x hx e => by have := block_lt (h.vars x hx).1; omega⟩)
  refine ⟨h1.st, fun x hx => ?_, h1.b, h1.hB⟩
  rcases List.mem_cons.1 hx with rfl | hx
  · exact ⟨hi, fun hF => by have := (h.st.lt _ hF).2; simp at this⟩
  · exact h1.vars x hx
theorem OwK.row (h : OwK w0 w base F P n S L H) (hw : Wen w w' F) {e : TypeId} {size : Nat} {B : Nat} {A : Option Addr} {m c : Nat} {xs : List Value} (ho : w.ownsRow B e size (.slice A m c) m xs) (hn : ∀ b, A.map Addr.block = some b → ¬ F b) : w'.ownsRow B e size (.slice A m c) m xs := own_wen ho hw hn
theorem OwK.fresh (h : OwK w0 w base F P n S L H) {e : TypeId} {size : Nat} {A : Option Addr} {m c : Nat} {xs : List Value} {w1 : World} (ho : w1.ownsRow w.heap.size e size (.slice A m c) m xs) : Off w0 F H A := fun b hb => by
  have h1 := own_from ho b hb
  refine ⟨fun hF => by have := (h.st.lt b hF).2; omega, Nat.le_trans h.b.size h1, fun x hx e => by have := block_lt (h.vars x hx).1; omega⟩
end
/-- A row of small numbers, whatever they are. -/
def U8s (xs : List Value) : Prop := ∀ u ∈ xs, ∃ z : Int, u = .int .u8 z
theorem u8s_bys (l : List UInt8) : U8s (bys l) := fun u hu => by
  simp only [bys, List.mem_map] at hu
  obtain ⟨x, _, rfl⟩ := hu
  exact ⟨_, rfl⟩
theorem U8s.set {xs : List Value} (h : U8s xs) (i : Nat) (z : Int) : U8s (xs.set i (.int .u8 z)) := fun u hu => by
  rcases List.mem_or_eq_of_mem_set hu with hu | rfl
  · exact h u hu
  · exact ⟨_, rfl⟩
/-- One of a row's numbers is rewritten. -/
theorem u8_cell {w : World} {B n c : Nat} {A : Option Addr} {xs : List Value} (ho : w.ownsRow B 5 1 (.slice A n c) n xs) (hu : U8s xs) {k : Nat} (hk : k < n) :
    ∃ g z, A = some ⟨g, 0, none⟩ ∧ w.cell? ⟨g, k, none⟩ = some (.int .u8 z) ∧ w.frozen? ⟨g, k, none⟩ = false ∧ n ≤ c ∧
      ∀ z', (w.setCell ⟨g, k, none⟩ (.int .u8 z')).ownsRow B 5 1 (.slice A n c) n (xs.set k (.int .u8 z')) ∧ w.grownBy (w.setCell ⟨g, k, none⟩ (.int .u8 z')) (some g) := by
  have hl := ho.1
  obtain ⟨g, cap, hv, _⟩ := ho.form (by omega)
  injection hv with h1 h2 h3
  subst h1
  have hx : k < xs.length := by omega
  obtain ⟨z, hz⟩ := hu _ (List.getElem_mem hx)
  refine ⟨g, z, rfl, ?_, ho.frozenAt k, own_cap' ho, fun z' => ho.stored k _⟩
  rw [ho.cellAt k (by omega), List.getElem?_eq_getElem hx, hz]
section
variable {w0 w w' : World} {F F' : Nat → Prop} {H : List (Nat × Obj)} {A : Option Addr} {B m c : Nat} {e : TypeId} {size : Nat} {xs : List Value}
theorem Off.step (h : Off w0 F H A) (ho : w.ownsRow B e size (.slice A m c) m xs) (hG : Grw F F' w.heap.size) : Off w0 F' H A := fun b hb => by
  obtain ⟨h1, h2, h3⟩ := h b hb
  refine ⟨fun hF => ?_, h2, h3⟩
  rcases hG b hF with h4 | h4
  · exact h1 h4
  · have := (ho.lt b (by rw [ownBlock_slice]; exact hb)).2; omega
theorem Off.add (h : Off w0 F H A) (ho : w.ownsRow B e size (.slice A m c) m xs) {o : Obj} : Off w0 F ((w.heap.size, o) :: H) A := fun b hb => by
  obtain ⟨h1, h2, h3⟩ := h b hb
  refine ⟨h1, h2, fun x hx => ?_⟩
  rcases List.mem_cons.1 hx with rfl | hx
  · have := (ho.lt b (by rw [ownBlock_slice]; exact hb)).2
    show w.heap.size ≠ b; omega
  · exact h3 x hx
theorem Off.not (h : Off w0 F H A) : ∀ b, A.map Addr.block = some b → ¬ F b := fun b hb => (h b hb).1
end
end Go.Proofs.Ytnkgkiiagifnmaa
