/-
May of package text, over an operation; strconv.Itoa of small numbers; what the package variables hold.
-/
import Derived.Test.YtaghecgjmkhpcaaGreatDoorTx6
import Derived.WalkSmall
import Derived.Lib.LaidTab
namespace Go.Proofs.YtaghecgjmkhpcaaGreatDoor
set_option linter.unusedVariables false
set_option linter.unusedSimpArgs false
open Go Go.RowKit

theorem eqU_self (A : Option Addr) (n c : Nat) (l : List Nat) (w : World) (h : Row w A n c 1 4 (u32s l)) :
    Calls Tryz.prog 32 #[.slice A n c, .slice A n c] w fun e w' => e = .returned (.bool true) ∧ Below w.heap.size w w' := by
  cases A with
  | none =>
    obtain ⟨rfl, rfl⟩ := h.nil rfl
    exact eqU_nil none 0 0 w
  | some ad => exact eqU_some ad n c l w h
theorem eqB_self (A : Option Addr) (n c : Nat) (l : List UInt8) (w : World) (h : Row w A n c 1 1 (bys l)) :
    Calls Tryz.prog 33 #[.slice A n c, .slice A n c] w fun e w' => e = .returned (.bool true) ∧ Below w.heap.size w w' := by
  cases A with
  | none =>
    obtain ⟨rfl, rfl⟩ := h.nil rfl
    exact eqB_nil none 0 0 w
  | some ad => exact eqB_some ad n c l w h
theorem row_len4 {w : World} {A : Option Addr} {n c : Nat} {l : List Nat} (h : Row w A n c 1 4 (u32s l)) : l.length = n := by have := h.len; rw [u32s_length] at this; omega
theorem row_len1 {w : World} {A : Option Addr} {n c : Nat} {l : List UInt8} (h : Row w A n c 1 1 (bys l)) : l.length = n := by have := h.len; rw [bys_length] at this; omega
theorem nil_len {α : Type} [BEq α] (l : List α) : (l == []) = (l.length == 0) := by cases l <;> rfl
theorem may_any (o : Opx) (A : Option Addr) (an ac : Nat) (B : Option Addr) (bn bc : Nat) (w : World) (hl : o.nm.length ≤ 281474976710656) (hA : Row w A an ac 1 4 (u32s o.ss)) (hB : Row w B bn bc 1 1 (bys o.bs)) :
    Calls Tryz.prog 6 #[opA o.k o.p o.s o.y o.nm A an ac B bn bc] w fun e w' => e = .returned (.bool (mayO o)) ∧ Below w.heap.size w w' := by
  obtain ⟨k, p, s, y, nm, ss, bs⟩ := o
  have la := row_len4 hA
  have lb := row_len1 hB
  simp only at la lb hA hB hl
  dsimp only
  have ea : (an == 0) = ss.isEmpty := by rw [← la]; cases ss <;> rfl
  have eb : (bn == 0) = bs.isEmpty := by rw [← lb]; cases bs <;> rfl
  have pack : ∀ (v : Value) (sm : Bool), ((1 ≤ k ∧ k ≤ 12) → sm = sameO ⟨k, p, s, y, nm, ss, bs⟩) → ((1 ≤ k ∧ k ≤ 12) → (∀ w', Below w.heap.size w w' → Calls Tryz.prog 14 #[opA k p s y nm A an ac B bn bc] w' fun e w'' => e = .returned v ∧ Below w'.heap.size w' w'')) →
      ((1 ≤ k ∧ k ≤ 12) → ∀ w', Below w.heap.size w w' → Calls Tryz.prog 13 #[opA k p s y nm A an ac B bn bc, v] w' fun e w'' => e = .returned (.bool sm) ∧ Below w'.heap.size w' w'') →
      Calls Tryz.prog 6 #[opA k p s y nm A an ac B bn bc] w fun e w' => e = .returned (.bool (mayO ⟨k, p, s, y, nm, ss, bs⟩)) ∧ Below w.heap.size w w' := by
    intro v sm h1 h2 h3
    refine (may_v k p s y nm A an ac B bn bc v sm w hl h2 h3).mono ?_
    rintro e w' ⟨rfl, hb⟩
    refine ⟨?_, hb⟩
    congr 2
    by_cases hk : 1 ≤ k ∧ k ≤ 12
    · rw [h1 hk, mayO, ← la, ← lb]
    · simp [mayO, hk]
  by_cases h1 : k = 1
  · subst h1
    refine pack (opA 1 p 0 0 [] none 0 0 B bn bc) ((s == 0) && (y == 0) && (nm == []) && (an == 0) && true) ?_ (fun _ w1 hb => named_1 p s y nm A an ac B bn bc w1) (fun _ w1 hb => ?_)
    · intro hk
      simp [sameO, srcB, layB, ea, eb]
    · exact same_v (1) p s y nm A an ac B bn bc 0 0 [] none 0 0 B bn bc (an == 0) true w1 (fun w1 hb2 => have hb := hb.trans (hb2.mono hb.size); eqU_nil A an ac w1) (fun w1 hb2 => have hb := hb.trans (hb2.mono hb.size); eqB_self B bn bc bs w1 (hB.below hb))
  by_cases h2 : k = 2
  · subst h2
    refine pack (opA 2 p 0 0 nm none 0 0 none 0 0) ((s == 0) && (y == 0) && (nm == nm) && (an == 0) && (bn == 0)) ?_ (fun _ w1 hb => named_2 p s y nm A an ac B bn bc w1) (fun _ w1 hb => ?_)
    · intro hk
      simp [sameO, srcB, layB, ea, eb]
    · exact same_v (2) p s y nm A an ac B bn bc 0 0 nm none 0 0 none 0 0 (an == 0) (bn == 0) w1 (fun w1 hb2 => have hb := hb.trans (hb2.mono hb.size); eqU_nil A an ac w1) (fun w1 hb2 => have hb := hb.trans (hb2.mono hb.size); eqB_nil B bn bc w1)
  by_cases h3 : k = 3
  · subst h3
    refine pack (opA 3 p 0 0 [] none 0 0 none 0 0) ((s == 0) && (y == 0) && (nm == []) && (an == 0) && (bn == 0)) ?_ (fun _ w1 hb => named_3 p s y nm A an ac B bn bc w1) (fun _ w1 hb => ?_)
    · intro hk
      simp [sameO, srcB, layB, ea, eb]
    · exact same_v (3) p s y nm A an ac B bn bc 0 0 [] none 0 0 none 0 0 (an == 0) (bn == 0) w1 (fun w1 hb2 => have hb := hb.trans (hb2.mono hb.size); eqU_nil A an ac w1) (fun w1 hb2 => have hb := hb.trans (hb2.mono hb.size); eqB_nil B bn bc w1)
  by_cases h4 : k = 4
  · subst h4
    refine pack (opA 4 p s 0 [] A an ac none 0 0) ((s == s) && (y == 0) && (nm == []) && true && (bn == 0)) ?_ (fun _ w1 hb => named_4 p s y nm A an ac B bn bc w1) (fun _ w1 hb => ?_)
    · intro hk
      simp [sameO, srcB, layB, ea, eb]
    · exact same_v (4) p s y nm A an ac B bn bc s 0 [] A an ac none 0 0 true (bn == 0) w1 (fun w1 hb2 => have hb := hb.trans (hb2.mono hb.size); eqU_self A an ac ss w1 (hA.below hb)) (fun w1 hb2 => have hb := hb.trans (hb2.mono hb.size); eqB_nil B bn bc w1)
  by_cases h6 : k = 6
  · subst h6
    refine pack (opA 6 p s y [] none 0 0 none 0 0) ((s == s) && (y == y) && (nm == []) && (an == 0) && (bn == 0)) ?_ (fun _ w1 hb => named_6 p s y nm A an ac B bn bc w1) (fun _ w1 hb => ?_)
    · intro hk
      simp [sameO, srcB, layB, ea, eb]
    · exact same_v (6) p s y nm A an ac B bn bc s y [] none 0 0 none 0 0 (an == 0) (bn == 0) w1 (fun w1 hb2 => have hb := hb.trans (hb2.mono hb.size); eqU_nil A an ac w1) (fun w1 hb2 => have hb := hb.trans (hb2.mono hb.size); eqB_nil B bn bc w1)
  by_cases h12 : k = 12
  · subst h12
    refine pack (opA 12 p s y [] none 0 0 none 0 0) ((s == s) && (y == y) && (nm == []) && (an == 0) && (bn == 0)) ?_ (fun _ w1 hb => named_12 p s y nm A an ac B bn bc w1) (fun _ w1 hb => ?_)
    · intro hk
      simp [sameO, srcB, layB, ea, eb]
    · exact same_v (12) p s y nm A an ac B bn bc s y [] none 0 0 none 0 0 (an == 0) (bn == 0) w1 (fun w1 hb2 => have hb := hb.trans (hb2.mono hb.size); eqU_nil A an ac w1) (fun w1 hb2 => have hb := hb.trans (hb2.mono hb.size); eqB_nil B bn bc w1)
  have h1 : (k == 1) = false := by simpa using h1
  have h2 : (k == 2) = false := by simpa using h2
  have h3 : (k == 3) = false := by simpa using h3
  have h4 : (k == 4) = false := by simpa using h4
  have h6 : (k == 6) = false := by simpa using h6
  have h12 : (k == 12) = false := by simpa using h12
  refine pack (opA k p s 0 [] none 0 0 none 0 0) ((s == s) && (y == 0) && (nm == []) && (an == 0) && (bn == 0)) ?_ (fun _ w1 hb => named_o k h1 h2 h3 h4 h6 h12 p s y nm A an ac B bn bc w1) (fun _ w1 hb => ?_)
  · intro hk
    have g4 : 4 ≤ k := by simp at h1 h2 h3; omega
    simp [sameO, srcB, layB, ea, eb, h1, h2, h4, h6, h12, g4]
  · exact same_v k p s y nm A an ac B bn bc s 0 [] none 0 0 none 0 0 (an == 0) (bn == 0) w1 (fun w1 hb2 => have hb := hb.trans (hb2.mono hb.size); eqU_nil A an ac w1) (fun w1 hb2 => have hb := hb.trans (hb2.mono hb.size); eqB_nil B bn bc w1)
/-- What the library's variables hold. -/
structure LaidT (w : World) : Prop where
  pow : Lib.TabIs Tryz.prog w "internal/strconv.uint64pow10" .u64 Lib.pow10Tab
  utf : Lib.Utf8Tabs 0 1 w
  ml : ∃ m, w.cell? ⟨3, 0, none⟩ = some (.int .i64 m)
  es : ∃ ev, w.cell? ⟨4, 0, none⟩ = some ev ∧ (ev = .nilIface ∨ ∃ te pe, ev = .iface te pe)
  er : ∃ ev, w.cell? ⟨5, 0, none⟩ = some ev ∧ (ev = .nilIface ∨ ∃ te pe, ev = .iface te pe)
theorem cell_belowT {w w' : World} {a : Addr} {v : Value} (h : w.cell? a = some v) (hb : Below w.heap.size w w') : w'.cell? a = some v := by
  have hlt : a.block < w.heap.size := by
    rcases Nat.lt_or_ge a.block w.heap.size with h' | h'
    · exact h'
    · simp [World.cell?, Array.getElem?_eq_none h'] at h
  have e := hb.block a.block hlt
  unfold World.cell? at h ⊢
  rw [e]
  exact h
theorem tab_below {w w' : World} {n : String} {k : IntKind} {zs : List Int} (h : Lib.TabIs Tryz.prog w n k zs) (hb : Below w.heap.size w w') : Lib.TabIs Tryz.prog w' n k zs := by
  unfold Lib.TabIs at h ⊢
  have h2 := h
  unfold World.var? at h2
  obtain ⟨g, hg, h3⟩ := Option.bind_eq_some_iff.1 h2
  have hlt : g < w.heap.size := by
    rcases Nat.lt_or_ge g w.heap.size with h' | h'
    · exact h'
    · simp [Array.getElem?_eq_none h'] at h3
  exact var?_below hb hg hlt h
theorem LaidT.below {w w' : World} (h : LaidT w) (hb : Below w.heap.size w w') : LaidT w' :=
  ⟨tab_below h.pow hb, Utf8Tabs_below h.utf hb, h.ml.elim fun m hm => ⟨m, cell_belowT hm hb⟩, h.es.elim fun v hv => ⟨v, cell_belowT hv.1 hb, hv.2⟩, h.er.elim fun v hv => ⟨v, cell_belowT hv.1 hb, hv.2⟩⟩
theorem below_growT (w : World) (k : Nat) (os : Array Obj) : Below w.heap.size w (Go.Sort.grow (w.drewN k) os) :=
  ⟨rfl, rfl, rfl, by simp [Go.Sort.grow], fun j hj => by
    show (w.heap ++ os)[j]? = w.heap[j]?
    rw [Array.getElem?_append_left hj]⟩
theorem itoa_dec : ∀ n : Fin 1000, Lib.itoa (n.val : Int) = decL n.val := by decide +kernel
theorem itoa_any (n : Int) (h : smlB n = true) (w : World) (hT : LaidT w) : Calls Tryz.prog 39 #[.int .i64 n] w fun e w' => e = .returned (.string ⟨(decL n.toNat).toArray⟩) ∧ Below w.heap.size w w' := by
  have hn : 0 ≤ n ∧ n ≤ 999 := by simpa [smlB] using h
  refine (Tryz.strconv_Itoa n (by omega) (by omega) w hT.pow).mono ?_
  rintro e w' ⟨rfl, k, os, rfl⟩
  obtain ⟨m, rfl⟩ := Int.eq_ofNat_of_zero_le hn.1
  exact ⟨congrArg (fun q : List UInt8 => Ending.returned (Value.string ⟨q.toArray⟩)) (itoa_dec ⟨m, by omega⟩), below_growT w k os⟩
end Go.Proofs.YtaghecgjmkhpcaaGreatDoor
