/-
The choice of a handle in law 12; Refs and Free of the document's own store.
What a walk holds: a list of things, each at blocks of its own; a step that changes one of them leaves the others.
-/
import Derived.Test.YtknlkmencdlpcaaSt8
import Derived.Test.YtknlkmencdlpcaaFrame
namespace Go.Proofs.Ytknlkmencdlpcaa
set_option linter.unusedVariables false
set_option linter.unusedSimpArgs false
open Go Go.RowKit

theorem Rto.refs {w : World} {base : Nat} {F : Nat → Prop} {P n : Nat} {S : List Slo} {L : Nat → List UInt8} (h : Rto w base F P n S L) (i gn : Int) :
    Calls Try.prog 52 #[.pointer (some ⟨P, 0, none⟩), .agg #[.int .i64 i, .int .u32 gn]] w fun e w' => e = .returned (.int .i64 (refsS S i gn)) ∧ Below w.heap.size w w' := by
  obtain ⟨q, c, g, d, V, hC⟩ := h
  exact rrefs_any hC.ar i gn
theorem Rto.free {w : World} {base : Nat} {F : Nat → Prop} {P n : Nat} {S : List Slo} {L : Nat → List UInt8} (h : Rto w base F P n S L) :
    Calls Try.prog 54 #[.pointer (some ⟨P, 0, none⟩)] w fun e w' => e = .returned (.int .i64 (freeS S)) ∧ Below w.heap.size w w' := by
  obtain ⟨q, c, g, d, V, hC⟩ := h
  exact rfree_any hC.ar
set_option maxRecDepth 20000
theorem some12_none (A : Option Addr) (ct : Nat) (x : Int) (w : World) : Calls Try.prog 40 #[.slice A 0 ct, .int .i64 x] w fun e w' => (∃ i g : Int, e = .returned (.agg #[.int .i64 i, .int .u32 g])) ∧ Below w.heap.size w w' := by
  have hb0 := (Below.refl w.heap.size w).alloc (Nat.le_refl _) (.cells #[.int .i64 0, .int .u32 0] 69)
  have d0 := heap_alloc_new w (.cells #[.int .i64 0, .int .u32 0] 69)
  obtain ⟨b0, b1⟩ := row2_cells d0
  go_enter Try.func40, Try.ntmps40
  go_wp2
  exact bodyPost_ret (v := .agg #[.int .i64 0, .int .u32 0]) (by simp [results, Try.results40, go_sem, b0, b1]) rfl ⟨⟨0, 0, rfl⟩, hb0⟩
set_option maxHeartbeats 400000 in
theorem some12_any (q n c : Nat) (l : List Slo) (x : Int) (w : World) (hx : -9223372036854775808 ≤ x ∧ x ≤ 9223372036854775807) (hlen : l.length = n) (h1 : 1 ≤ n) (h2 : n ≤ 60) (hr : Rd w (some ⟨q, 0, none⟩) (rowH l)) :
    Calls Try.prog 40 #[.slice (some ⟨q, 0, none⟩) n c, .int .i64 x] w fun e w' => (∃ i g : Int, e = .returned (.agg #[.int .i64 i, .int .u32 g])) ∧ Below w.heap.size w w' := by
  have hb0 := (Below.refl w.heap.size w).alloc (Nat.le_refl _) (.cells #[.int .i64 0, .int .u32 0] 69)
  have d0 := heap_alloc_new w (.cells #[.int .i64 0, .int .u32 0] 69)
  have hr0 := hr.below hb0
  have n0 : ((n : Int) == 0) = false := by simp; omega
  obtain ⟨K, hK, hKn⟩ := pick_is x n h1 h2
  have c0 := rd_at hr0 (rowH_slot l K (by omega))
  have c1 := rd_at hr0 (rowH_gen l K (by omega))
  obtain ⟨⟨x0, x1⟩, ⟨x2, x3⟩, x4⟩ := row2_store d0 (.int .i64 l[K].1) (.int .u32 l[K].2)
  obtain ⟨r0, r1⟩ := row2_cells x4
  obtain ⟨q0, q1⟩ := row2_cells (heap_alloc_new w (.cells #[.int .i64 l[K].1, .int .u32 l[K].2] 69))
  go_enter Try.func40, Try.ntmps40
  go_wp2
  exact bodyPost_ret (v := .agg #[.int .i64 l[K].1, .int .u32 l[K].2]) (by simp [results, Try.results40, go_sem, r0, r1, q0, q1]) rfl ⟨⟨_, _, rfl⟩, by first | exact (Below.refl _ w).alloc (Nat.le_refl _) _ | exact (hb0.setCell (p := ⟨w.heap.size, 0, none⟩) (Nat.le_refl _) _).setCell (p := ⟨w.heap.size, 1, none⟩) (Nat.le_refl _) _⟩
end Go.Proofs.Ytknlkmencdlpcaa

namespace Go.Proofs.Ytknlkmencdlpcaa
set_option linter.unusedVariables false
set_option linter.unusedSimpArgs false
open Go Go.RowKit

/-- A thing in memory: what is known of it, and its blocks. -/
abbrev Rsc := (World → Prop) × (Nat → Prop)
/-- It stands as long as its blocks are not written. -/
def Stb (r : Rsc) : Prop := ∀ w w' X, r.1 w → Wen w w' X → (∀ k, r.2 k → ¬ X k) → r.1 w'
structure Hold (w0 w : World) (B : Nat) (l : List Rsc) : Prop where
  now : ∀ r ∈ l, r.1 w
  lt : ∀ r ∈ l, ∀ k, r.2 k → B ≤ k ∧ k < w.heap.size
  stb : ∀ r ∈ l, Stb r
  dis : ∀ (i j : Nat) (r q : Rsc), l[i]? = some r → l[j]? = some q → i ≠ j → ∀ k, r.2 k → ¬ q.2 k
  b : Below w0.heap.size w0 w
  hB : w0.heap.size ≤ B
  hs : B ≤ w.heap.size
section
variable {w0 w w' : World} {B : Nat} {l : List Rsc} {r r' : Rsc}
theorem Hold.get (h : Hold w0 w B l) (i : Nat) (hi : l[i]? = some r) : r.1 w := h.now r (List.mem_of_getElem? hi)
theorem Hold.size (h : Hold w0 w B l) : w0.heap.size ≤ w.heap.size := h.b.size
theorem Hold.nil (hb : Below w0.heap.size w0 w) (hB : w0.heap.size ≤ B) (hs : B ≤ w.heap.size) : Hold w0 w B [] :=
  ⟨fun r h => by simp at h, fun r h => by simp at h, fun r h => by simp at h, fun i j r q h => by simp at h, hb, hB, hs⟩
theorem Hold.wen (h : Hold w0 w B l) {X : Nat → Prop} (hw : Wen w w' X) (hx : ∀ r ∈ l, ∀ k, r.2 k → ¬ X k) (hX : ∀ k, X k → w0.heap.size ≤ k) : Hold w0 w' B l :=
  ⟨fun r hr => h.stb r hr _ _ _ (h.now r hr) hw (hx r hr), fun r hr k hk => ⟨(h.lt r hr k hk).1, Nat.lt_of_lt_of_le (h.lt r hr k hk).2 hw.size⟩, h.stb, h.dis, h.b.trans (hw.below hX h.b.size), h.hB, Nat.le_trans h.hs hw.size⟩
theorem Hold.below (h : Hold w0 w B l) (hb : Below w.heap.size w w') : Hold w0 w' B l :=
  h.wen (Wen.of_below hb (fun _ => False)) (fun _ _ _ _ hf => hf) (fun _ hf => hf.elim)
theorem Hold.alloc (h : Hold w0 w B l) (o : Obj) : Hold w0 (w.alloc o) B l := h.below ((Below.refl _ _).alloc (Nat.le_refl _) o)
theorem Hold.drew (h : Hold w0 w B l) : Hold w0 w.drew B l := h.below ((Below.refl _ _).drew)
/-- Something is written that lies behind all that is held. -/
theorem Hold.off (h : Hold w0 w B l) {X : Nat → Prop} (hw : Wen w w' X) (hX : ∀ k, X k → w.heap.size ≤ k) : Hold w0 w' B l :=
  h.wen hw (fun r hr k hk hx => by have := (h.lt r hr k hk).2; have := hX k hx; omega) (fun k hk => Nat.le_trans h.b.size (hX k hk))
/-- One of the things has changed. -/
theorem Hold.step (h : Hold w0 w B l) (i : Nat) (hi : l[i]? = some r) (hn : r'.1 w') (hst : Stb r') (hG : Grw r.2 r'.2 w.heap.size) (hlt : ∀ k, r'.2 k → B ≤ k ∧ k < w'.heap.size) (hw : Wen w w' r.2) : Hold w0 w' B (l.set i r') := by
  have hmem : ∀ q ∈ l.set i r', q = r' ∨ ∃ j, j ≠ i ∧ l[j]? = some q := by
    intro q hq
    obtain ⟨j, hj⟩ := List.getElem?_of_mem hq
    by_cases e : j = i
    · subst e
      rw [List.getElem?_set_self (by exact (List.getElem?_eq_some_iff.1 hi).1)] at hj
      exact .inl (Option.some.inj hj).symm
    · rw [List.getElem?_set_ne (fun e' => e e'.symm)] at hj
      exact .inr ⟨j, e, hj⟩
  have hil := (List.getElem?_eq_some_iff.1 hi).1
  have hr := List.mem_of_getElem? hi
  refine ⟨fun q hq => ?_, fun q hq => ?_, fun q hq => ?_, fun a b q s ha hb hab k hk hk' => ?_, h.b.trans (hw.below (fun k hk => Nat.le_trans h.hB (h.lt r hr k hk).1) h.b.size), h.hB, Nat.le_trans h.hs hw.size⟩
  · rcases hmem q hq with rfl | ⟨j, hj, hq'⟩
    · exact hn
    · exact h.stb q (List.mem_of_getElem? hq') _ _ _ (h.now q (List.mem_of_getElem? hq')) hw (fun k hk hx => h.dis j i q r hq' hi hj k hk hx)
  · rcases hmem q hq with rfl | ⟨j, hj, hq'⟩
    · exact hlt
    · exact fun k hk => ⟨(h.lt q (List.mem_of_getElem? hq') k hk).1, Nat.lt_of_lt_of_le (h.lt q (List.mem_of_getElem? hq') k hk).2 hw.size⟩
  · rcases hmem q hq with rfl | ⟨j, hj, hq'⟩
    · exact hst
    · exact h.stb q (List.mem_of_getElem? hq')
  · by_cases e : a = i
    · subst e
      rw [List.getElem?_set_self hil] at ha
      obtain rfl := Option.some.inj ha
      rw [List.getElem?_set_ne hab] at hb
      rcases hG k hk with h1 | h1
      · exact h.dis a b r s hi hb hab k h1 hk'
      · have := (h.lt s (List.mem_of_getElem? hb) k hk').2; omega
    · rw [List.getElem?_set_ne (fun e' => e e'.symm)] at ha
      by_cases e2 : b = i
      · subst e2
        rw [List.getElem?_set_self hil] at hb
        obtain rfl := Option.some.inj hb
        rcases hG k hk' with h1 | h1
        · exact h.dis b a r q hi ha (fun e' => hab e'.symm) k h1 hk
        · have := (h.lt q (List.mem_of_getElem? ha) k hk).2; omega
      · rw [List.getElem?_set_ne (fun e' => e2 e'.symm)] at hb
        exact h.dis a b q s ha hb hab k hk hk'
/-- A new thing. -/
theorem Hold.new (h : Hold w0 w B l) (hn : r.1 w') (hst : Stb r) (hnew : ∀ k, r.2 k → w.heap.size ≤ k ∧ k < w'.heap.size) {X : Nat → Prop} (hw : Wen w w' X) (hX : ∀ k, X k → w.heap.size ≤ k) : Hold w0 w' B (r :: l) := by
  have h1 := h.off hw hX
  refine ⟨fun q hq => ?_, fun q hq => ?_, fun q hq => ?_, fun a b q s ha hb hab k hk hk' => ?_, h1.b, h1.hB, h1.hs⟩
  · rcases List.mem_cons.1 hq with rfl | hq
    · exact hn
    · exact h1.now q hq
  · rcases List.mem_cons.1 hq with rfl | hq
    · exact fun k hk => ⟨Nat.le_trans h.hs (hnew k hk).1, (hnew k hk).2⟩
    · exact h1.lt q hq
  · rcases List.mem_cons.1 hq with rfl | hq
    · exact hst
    · exact h1.stb q hq
  · match a, b with
    | 0, 0 => exact hab rfl
    | 0, b + 1 =>
      simp at ha hb
      subst ha
      have := (h.lt s (List.mem_of_getElem? hb) k hk').2
      have := (hnew k hk).1
      omega
    | a + 1, 0 =>
      simp at ha hb
      subst hb
      have := (h.lt q (List.mem_of_getElem? ha) k hk).2
      have := (hnew k hk').1
      omega
    | a + 1, b + 1 =>
      simp at ha hb
      exact h1.dis a b q s ha hb (fun e => hab (by rw [e])) k hk hk'
theorem Hold.tail (h : Hold w0 w B (r :: l)) : Hold w0 w B l :=
  ⟨fun q hq => h.now q (List.mem_cons_of_mem _ hq), fun q hq => h.lt q (List.mem_cons_of_mem _ hq), fun q hq => h.stb q (List.mem_cons_of_mem _ hq), fun i j q s hi hj hij => h.dis (i + 1) (j + 1) q s hi hj (by omega), h.b, h.hB, h.hs⟩
end
/-- The program's store; the document's store; a row; a variable. -/
def rSto (B : Nat) (F : Nat → Prop) (P n : Nat) (S : List Slo) (L : Nat → List UInt8) : Rsc := (fun w => Sto w B F P n S L, F)
def rRto (B : Nat) (F : Nat → Prop) (P n : Nat) (S : List Slo) (L : Nat → List UInt8) : Rsc := (fun w => Rto w B F P n S L, F)
def rRow (B : Nat) (e : TypeId) (size : Nat) (A : Option Addr) (n c : Nat) (xs : List Value) : Rsc := (fun w => w.ownsRow B e size (.slice A n c) n xs, fun k => A.map Addr.block = some k)
def rVar (b : Nat) (o : Obj) : Rsc := (fun w => w.heap[b]? = some o, fun k => k = b)
theorem stb_sto {B : Nat} {F : Nat → Prop} {P n : Nat} {S : List Slo} {L : Nat → List UInt8} : Stb (rSto B F P n S L) := fun w w' X h hw hx => Sto.wen h hw hx
theorem stb_rto {B : Nat} {F : Nat → Prop} {P n : Nat} {S : List Slo} {L : Nat → List UInt8} : Stb (rRto B F P n S L) := fun w w' X h hw hx => Rto.wen h hw hx
theorem stb_row {B : Nat} {e : TypeId} {size : Nat} {A : Option Addr} {n c : Nat} {xs : List Value} : Stb (rRow B e size A n c xs) := fun w w' X h hw hx => own_wen h hw (fun b hb => hx b hb)
theorem stb_var {b : Nat} {o : Obj} : Stb (rVar b o) := fun w w' X h hw hx => (hw.block b (block_lt h) (hx b rfl)).trans h
section
variable {w0 w w' : World} {B : Nat} {l : List Rsc} {F F' : Nat → Prop} {P n : Nat} {S S' : List Slo} {L L' : Nat → List UInt8}
theorem Hold.sto (h : Hold w0 w B l) (i : Nat) (hi : l[i]? = some (rSto B F P n S L)) (hs : Sto w' B F' P n S' L') (hG : Grw F F' w.heap.size) (hw : Wen w w' F) : Hold w0 w' B (l.set i (rSto B F' P n S' L')) :=
  h.step i hi hs stb_sto hG hs.lt hw
theorem Hold.rto (h : Hold w0 w B l) (i : Nat) (hi : l[i]? = some (rRto B F P n S L)) (hs : Rto w' B F' P n S' L') (hG : Grw F F' w.heap.size) (hw : Wen w w' F) : Hold w0 w' B (l.set i (rRto B F' P n S' L')) :=
  h.step i hi hs stb_rto hG hs.lt hw
theorem Hold.var (h : Hold w0 w B l) (i : Nat) {b : Nat} {o o' : Obj} (hi : l[i]? = some (rVar b o)) (hg : w.grownBy w' (some b)) (hb : w'.heap[b]? = some o') : Hold w0 w' B (l.set i (rVar b o')) :=
  h.step (r' := rVar b o') i hi hb stb_var (Grw.refl _ _) (fun k hk => by obtain rfl : k = b := hk; exact ⟨(h.lt _ (List.mem_of_getElem? hi) k rfl).1, block_lt hb⟩) ((Wen.of_grown hg).mono fun k _ e => by injection e with e; exact e.symm)
theorem Hold.vnew (h : Hold w0 w B l) {o o' : Obj} (hg : (w.alloc o).grownBy w' (some w.heap.size)) (hb : w'.heap[w.heap.size]? = some o') : Hold w0 w' B (rVar w.heap.size o' :: l) :=
  h.new (r := rVar w.heap.size o') hb stb_var (fun k hk => by obtain rfl : k = w.heap.size := hk; exact ⟨Nat.le_refl _, block_lt hb⟩)
    (X := fun k => k = w.heap.size) ((Wen.of_below ((Below.refl _ w).alloc (Nat.le_refl _) o) (fun k => k = w.heap.size)).trans (Wen.of_grown hg) (fun k _ e => by injection e with e; exact e.symm)) (fun k hk => by rw [hk]; exact Nat.le_refl _)
theorem Hold.vnew0 (h : Hold w0 w B l) (cs : Array Value) (t : TypeId) : Hold w0 (w.alloc (.cells cs t)) B (rVar w.heap.size (.cells cs t (0, 0)) :: l) :=
  h.new (r := rVar w.heap.size (.cells cs t (0, 0))) (heap_alloc_new w _) stb_var (fun k hk => by obtain rfl : k = w.heap.size := hk; exact ⟨Nat.le_refl _, by simp⟩)
    (X := fun _ => False) (Wen.of_below ((Below.refl _ w).alloc (Nat.le_refl _) _) _) (fun k hk => hk.elim)
/-- A row has grown by an append. -/
theorem Hold.app (h : Hold w0 w B l) (i : Nat) {e : TypeId} {size : Nat} {A A' : Option Addr} {n c n' c' : Nat} {xs xs' : List Value} (hi : l[i]? = some (rRow B e size A n c xs)) (ho : w'.ownsRow B e size (.slice A' n' c') n' xs') (hg : w.grownBy w' (A.map Addr.block)) (hA : A' = A ∨ A' = some ⟨w.heap.size, 0, none⟩) :
    Hold w0 w' B (l.set i (rRow B e size A' n' c' xs')) :=
  h.step (r' := rRow B e size A' n' c' xs') i hi ho stb_row (fun k hk => by
    rcases hA with rfl | rfl
    · exact .inl hk
    · simp [rRow] at hk; exact .inr (by omega)) (fun k hk => ho.lt k (by rw [ownBlock_slice]; exact hk)) ((Wen.of_grown hg).mono fun k _ e => e)
/-- A new row. -/
theorem Hold.rnew (h : Hold w0 w B l) {e : TypeId} {size : Nat} {A : Option Addr} {n c : Nat} {xs : List Value} (ho : w'.ownsRow w.heap.size e size (.slice A n c) n xs) (hb : Below w.heap.size w w') : Hold w0 w' B (rRow B e size A n c xs :: l) :=
  h.new (r := rRow B e size A n c xs) (own_mono ho h.hs) stb_row (fun k hk => ho.lt k (by rw [ownBlock_slice]; exact hk)) (X := fun _ => False) (Wen.of_below hb _) (fun k hk => hk.elim)
theorem Hold.rnil (h : Hold w0 w B l) (e : TypeId) (size : Nat) : Hold w0 w B (rRow B e size none 0 0 [] :: l) :=
  h.new (r := rRow B e size none 0 0 []) (World.ownsRow_nil _ _ _ _) stb_row (fun k hk => by simp [rRow] at hk) (X := fun _ => False) (Wen.refl _ _) (fun k hk => hk.elim)
end
/-- A store's base may be lowered. -/
theorem Core.mono {T : TypeId} {r : List Value} {w : World} {base base' : Nat} {F : Nat → Prop} {p q n c g d : Nat} {S : List Slo} {V : Nat → Bx} {L : Nat → List UInt8} (h : Core T r w base F p q n c g d S V L) (hb : base' ≤ base) : Core T r w base' F p q n c g d S V L :=
  ⟨⟨h.ar.ne, Nat.le_trans hb h.ar.hp, h.ar.head, own_mono h.ar.own hb, h.ar.len, h.ar.top, h.ar.bot, h.ar.gens⟩, ⟨own_mono h.rw.own hb, fun i hi => own_mono (h.rw.row i hi) hb, h.rw.dis, h.rw.top⟩, h.kd, h.inp, h.inq, h.ing, h.inr, fun k hk => ⟨Nat.le_trans hb (h.lt k hk).1, (h.lt k hk).2⟩⟩
theorem Sto.mono {w : World} {B B' : Nat} {F : Nat → Prop} {P n : Nat} {S : List Slo} {L : Nat → List UInt8} (h : Sto w B F P n S L) (hb : B' ≤ B) : Sto w B' F P n S L := by
  obtain ⟨p, q, c, g, d, V, hC, h1, h2⟩ := h
  exact ⟨p, q, c, g, d, V, hC.mono hb, h1, h2⟩
theorem Rto.mono {w : World} {B B' : Nat} {F : Nat → Prop} {P n : Nat} {S : List Slo} {L : Nat → List UInt8} (h : Rto w B F P n S L) (hb : B' ≤ B) : Rto w B' F P n S L := by
  obtain ⟨q, c, g, d, V, hC⟩ := h
  exact ⟨q, c, g, d, V, hC.mono hb⟩
section
variable {w0 w w' : World} {B : Nat} {l : List Rsc}
theorem Hold.snew (h : Hold w0 w B l) {P n : Nat} {S : List Slo} {L : Nat → List UInt8} (hs : Sto w' w.heap.size (fun k => w.heap.size ≤ k ∧ k < w'.heap.size) P n S L) (hb : Below w.heap.size w w') : Hold w0 w' B (rSto B (fun k => w.heap.size ≤ k ∧ k < w'.heap.size) P n S L :: l) :=
  h.new (r := rSto B _ P n S L) (Sto.mono hs h.hs) stb_sto (fun k hk => hk) (X := fun _ => False) (Wen.of_below hb _) (fun k hk => hk.elim)
theorem Hold.tnew (h : Hold w0 w B l) {P n : Nat} {S : List Slo} {L : Nat → List UInt8} (hs : Rto w' w.heap.size (fun k => w.heap.size ≤ k ∧ k < w'.heap.size) P n S L) (hb : Below w.heap.size w w') : Hold w0 w' B (rRto B (fun k => w.heap.size ≤ k ∧ k < w'.heap.size) P n S L :: l) :=
  h.new (r := rRto B _ P n S L) (Rto.mono hs h.hs) stb_rto (fun k hk => hk) (X := fun _ => False) (Wen.of_below hb _) (fun k hk => hk.elim)
end
/-- The document's store, its parts named. -/
def rCor (B : Nat) (F : Nat → Prop) (P q n c g d : Nat) (S : List Slo) (V : Nat → Bx) (L : Nat → List UInt8) : Rsc := (fun w => Core 85 [.slice (some ⟨g, 0, none⟩) n d] w B F P q n c g d S V L, F)
theorem stb_cor {B : Nat} {F : Nat → Prop} {P q n c g d : Nat} {S : List Slo} {V : Nat → Bx} {L : Nat → List UInt8} : Stb (rCor B F P q n c g d S V L) := fun w w' X h hw hx => Core.wen h hw hx
theorem Hold.open_ {w0 w : World} {B : Nat} {l : List Rsc} {F : Nat → Prop} {P n : Nat} {S : List Slo} {L : Nat → List UInt8} (h : Hold w0 w B l) (i : Nat) (hi : l[i]? = some (rRto B F P n S L)) : ∃ q c g d V, Hold w0 w B (l.set i (rCor B F P q n c g d S V L)) := by
  obtain ⟨q, c, g, d, V, hC⟩ := h.get i hi
  exact ⟨q, c, g, d, V, h.step (r' := rCor B F P q n c g d S V L) i hi hC stb_cor (Grw.refl _ _) hC.lt (Wen.refl _ _)⟩
theorem Hold.shut {w0 w : World} {B : Nat} {l : List Rsc} {F : Nat → Prop} {P q n c g d : Nat} {S : List Slo} {V : Nat → Bx} {L : Nat → List UInt8} (h : Hold w0 w B l) (i : Nat) (hi : l[i]? = some (rCor B F P q n c g d S V L)) : Hold w0 w B (l.set i (rRto B F P n S L)) :=
  h.step (r' := rRto B F P n S L) i hi ⟨q, c, g, d, V, h.get i hi⟩ stb_rto (Grw.refl _ _) (Core.lt (h.get i hi)) (Wen.refl _ _)
/-- The same things in another order. -/
theorem Hold.perm {w0 w : World} {B : Nat} {l l' : List Rsc} (h : Hold w0 w B l) (ix : List Nat) (hnd : ix.Nodup) (hl : l'.map some = ix.map (l[·]?)) : Hold w0 w B l' := by
  have key : ∀ (i : Nat) (r : Rsc), l'[i]? = some r → ∃ j, ix[i]? = some j ∧ l[j]? = some r := by
    intro i r hi
    have h1 : (l'.map some)[i]? = some (some r) := by rw [List.getElem?_map, hi]; rfl
    rw [hl, List.getElem?_map] at h1
    cases hj : ix[i]? with
    | none => rw [hj] at h1; cases h1
    | some j => rw [hj] at h1; exact ⟨j, rfl, Option.some.inj h1⟩
  have mem : ∀ r ∈ l', r ∈ l := by
    intro r hr
    obtain ⟨i, hi⟩ := List.getElem?_of_mem hr
    obtain ⟨j, _, hj⟩ := key i r hi
    exact List.mem_of_getElem? hj
  refine ⟨fun r hr => h.now r (mem r hr), fun r hr => h.lt r (mem r hr), fun r hr => h.stb r (mem r hr), fun i j r q hi hj hij => ?_, h.b, h.hB, h.hs⟩
  obtain ⟨a, ha, ha'⟩ := key i r hi
  obtain ⟨b, hb, hb'⟩ := key j q hj
  refine h.dis a b r q ha' hb' (fun e => hij ?_)
  subst e
  have h1 := List.getElem?_eq_some_iff.1 ha
  have h2 := List.getElem?_eq_some_iff.1 hb
  exact (List.getElem_inj hnd).1 (h1.2.trans h2.2.symm)
theorem Core.rto {w : World} {B : Nat} {F : Nat → Prop} {P q n c g d : Nat} {S : List Slo} {V : Nat → Bx} {L : Nat → List UInt8} (h : Core 85 [.slice (some ⟨g, 0, none⟩) n d] w B F P q n c g d S V L) : Rto w B F P n S L := ⟨q, c, g, d, V, h⟩
/-- One of the things comes first. -/
theorem Hold.up {w0 w : World} {B : Nat} {l : List Rsc} {r : Rsc} (h : Hold w0 w B l) (i : Nat) (hi : l[i]? = some r) : Hold w0 w B (r :: l.eraseIdx i) := by
  have key : ∀ (j : Nat) (q : Rsc), (r :: l.eraseIdx i)[j]? = some q → l[if j = 0 then i else if j - 1 < i then j - 1 else j]? = some q := by
    intro j q hj
    cases j with
    | zero => simp at hj; subst hj; simpa using hi
    | succ j =>
      rw [List.getElem?_cons_succ, List.getElem?_eraseIdx] at hj
      simp only [Nat.add_one_sub_one, Nat.add_eq_zero_iff, Nat.one_ne_zero, and_false, if_false]
      split at hj
      · rename_i h1; rw [if_pos h1]; exact hj
      · rename_i h1; rw [if_neg h1]; exact hj
  have mem : ∀ q ∈ r :: l.eraseIdx i, q ∈ l := by
    intro q hq
    obtain ⟨j, hj⟩ := List.getElem?_of_mem hq
    exact List.mem_of_getElem? (key j q hj)
  refine ⟨fun q hq => h.now q (mem q hq), fun q hq => h.lt q (mem q hq), fun q hq => h.stb q (mem q hq), fun a b q s ha hb hab => ?_, h.b, h.hB, h.hs⟩
  refine h.dis _ _ q s (key a q ha) (key b s hb) ?_
  split <;> split <;> (try split) <;> (try split) <;> omega
theorem Hold.del {w0 w : World} {B : Nat} {l : List Rsc} {r : Rsc} (h : Hold w0 w B l) (i : Nat) (hi : l[i]? = some r) : Hold w0 w B (l.eraseIdx i) := (h.up i hi).tail
end Go.Proofs.Ytknlkmencdlpcaa
