/-
What a round of StorePlays keeps: the calls of a row, the choice of a handle, the slots' counts.
-/
import Derived.Test.YtknlkmencdlpcaaHold
namespace Go.Proofs.Ytknlkmencdlpcaa
set_option linter.unusedVariables false
set_option linter.unusedSimpArgs false
open Go Go.RowKit

/-- One call of a row: its cells. -/
structure Ac12 (w : World) (ad : Addr) (k : Nat) (K x s g : Int) (sq tm ss f : Nat) (A : Option Addr) (n c : Nat) (l : List UInt8) : Prop where
  c0 : w.cell? (ad.add (k * 9)) = some (.int .i64 K)
  c1 : w.cell? (ad.add (k * 9 + 1)) = some (.int .i64 x)
  c2 : w.cell? (ad.add (k * 9 + 2)) = some (.int .i64 s)
  c3 : w.cell? (ad.add (k * 9 + 3)) = some (.int .u32 g)
  c4 : w.cell? (ad.add (k * 9 + 4)) = some (.int .u16 sq)
  c5 : w.cell? (ad.add (k * 9 + 5)) = some (.int .u32 tm)
  c6 : w.cell? (ad.add (k * 9 + 6)) = some (.int .u32 ss)
  c7 : w.cell? (ad.add (k * 9 + 7)) = some (.int .u16 f)
  c8 : w.cell? (ad.add (k * 9 + 8)) = some (.slice A n c)
  bt : Bts w A n c l
  nl : A = none → n = 0 ∧ c = 0
  bx : -9223372036854775808 ≤ x ∧ x ≤ 9223372036854775807
  bp : sq < 65536 ∧ tm < 4294967296 ∧ ss < 4294967296 ∧ f < 65536
theorem Ac12.below {w w' : World} {ad : Addr} {k : Nat} {K x s g : Int} {sq tm ss f : Nat} {A : Option Addr} {n c : Nat} {l : List UInt8} (h : Ac12 w ad k K x s g sq tm ss f A n c l) (hb : Below w.heap.size w w') : Ac12 w' ad k K x s g sq tm ss f A n c l :=
  ⟨below_cell hb h.c0, below_cell hb h.c1, below_cell hb h.c2, below_cell hb h.c3, below_cell hb h.c4, below_cell hb h.c5, below_cell hb h.c6, below_cell hb h.c7, below_cell hb h.c8, h.bt.below hb, h.nl, h.bx, h.bp⟩
/-- The address of a field behind the first one. -/
theorem fl12_at {w : World} {ad : Addr} {a j : Nat} {v : Value} (h : w.cell? (ad.add (a + (j + 1))) = some v) : w.cell? ⟨(ad.add a).block, (ad.add a).off + (j + 1), none⟩ = some v := by
  rw [← add_add] at h
  exact h
section
variable {w : World} {ad : Addr} {k : Nat} {K x s g : Int} {sq tm ss f : Nat} {A : Option Addr} {n c : Nat} {l : List UInt8}
theorem Ac12.k1 (h : Ac12 w ad k K x s g sq tm ss f A n c l) : w.cell? ⟨(ad.add (k * 9)).block, (ad.add (k * 9)).off + 1, none⟩ = some (.int .i64 x) := fl12_at h.c1
theorem Ac12.k2 (h : Ac12 w ad k K x s g sq tm ss f A n c l) : w.cell? ⟨(ad.add (k * 9)).block, (ad.add (k * 9)).off + 2, none⟩ = some (.int .i64 s) := fl12_at h.c2
theorem Ac12.k3 (h : Ac12 w ad k K x s g sq tm ss f A n c l) : w.cell? ⟨(ad.add (k * 9)).block, (ad.add (k * 9)).off + 3, none⟩ = some (.int .u32 g) := fl12_at h.c3
theorem Ac12.k4 (h : Ac12 w ad k K x s g sq tm ss f A n c l) : w.cell? ⟨(ad.add (k * 9)).block, (ad.add (k * 9)).off + 4, none⟩ = some (.int .u16 sq) := fl12_at h.c4
theorem Ac12.k5 (h : Ac12 w ad k K x s g sq tm ss f A n c l) : w.cell? ⟨(ad.add (k * 9)).block, (ad.add (k * 9)).off + 5, none⟩ = some (.int .u32 tm) := fl12_at h.c5
theorem Ac12.k6 (h : Ac12 w ad k K x s g sq tm ss f A n c l) : w.cell? ⟨(ad.add (k * 9)).block, (ad.add (k * 9)).off + 6, none⟩ = some (.int .u32 ss) := fl12_at h.c6
theorem Ac12.k7 (h : Ac12 w ad k K x s g sq tm ss f A n c l) : w.cell? ⟨(ad.add (k * 9)).block, (ad.add (k * 9)).off + 7, none⟩ = some (.int .u16 f) := fl12_at h.c7
theorem Ac12.k8 (h : Ac12 w ad k K x s g sq tm ss f A n c l) : w.cell? ⟨(ad.add (k * 9)).block, (ad.add (k * 9)).off + 8, none⟩ = some (.slice A n c) := fl12_at h.c8
end
/-- The calls of a row. -/
def Acts12 (w : World) (X : Option Addr) (m : Nat) : Prop := ∀ k, k < m → ∃ (ad : Addr) (K x s g : Int) (sq tm ss f : Nat) (A : Option Addr) (n c : Nat) (l : List UInt8), X = some ad ∧ Ac12 w ad k K x s g sq tm ss f A n c l
theorem slH : SliceT Try.prog 67 69 (.agg #[.int .i64 0, .int .u32 0]) 2 16 := sliceT_of Try.underlying67 (by kernel_rfl) rfl (by omega) (by omega)
theorem lit_rd1 (w : World) (i g : Nat) : Rd (w.alloc (.cells #[.int .i64 i, .int .u32 g] 69)) (some ⟨w.heap.size, 0, none⟩) (rowH [(i, g)]) :=
  rd_row (World.ownsRow_lit (base := 0) (e := 69) (size := 2) w #[.int .i64 i, .int .u32 g] 1 (Nat.zero_le _) (by unfold maxLen; omega) rfl)
theorem some12_all {w : World} {B : Nat} {A : Option Addr} {t ct : Nat} {hds : List Slo} (ho : w.ownsRow B 69 2 (.slice A t ct) t (rowH hds)) (ht : t ≤ 60) (x : Int) (hx : -9223372036854775808 ≤ x ∧ x ≤ 9223372036854775807) :
    Calls Try.prog 40 #[.slice A t ct, .int .i64 x] w fun e w' => (∃ i g : Int, e = .returned (.agg #[.int .i64 i, .int .u32 g])) ∧ Below w.heap.size w w' := by
  by_cases h0 : t = 0
  · subst h0
    exact some12_none A ct x w
  · obtain ⟨g, cap, hv, _⟩ := ho.form (by omega)
    injection hv with hA
    subst hA
    have hl := ho.1
    rw [rowH_length] at hl
    exact some12_any g t ct hds x w hx (by omega) (by omega) ht (rd_row ho)
theorem keep_le {S : List Slo} {m : Nat} (h : ∀ s ∈ S, s.2 ≤ m) (i g : Int) : ∀ s ∈ keepS S i g, s.2 ≤ m + 1 := by
  intro s hs
  unfold keepS at hs
  split at hs
  · rename_i h1
    obtain ⟨k, hk, rfl, h3, h4⟩ := liveS_yes h1
    rcases List.mem_or_eq_of_mem_set hs with hs | rfl
    · exact Nat.le_succ_of_le (h s hs)
    · have := h _ (List.getElem_mem hk)
      simp [List.getElem?_eq_getElem hk]
      exact this
  · exact Nat.le_succ_of_le (h s hs)
theorem drop_le {S : List Slo} {m : Nat} (h : ∀ s ∈ S, s.2 ≤ m) (i g : Int) : ∀ s ∈ dropS S i g, s.2 ≤ m := by
  intro s hs
  unfold dropS at hs
  split at hs
  · rename_i h1
    obtain ⟨k, hk, rfl, h3, h4⟩ := liveS_yes h1
    have := h _ (List.getElem_mem hk)
    split at hs
    · rcases List.mem_or_eq_of_mem_set hs with hs | rfl
      · exact h s hs
      · exact Nat.zero_le _
    · rcases List.mem_or_eq_of_mem_set hs with hs | rfl
      · exact h s hs
      · simp [List.getElem?_eq_getElem hk]
        omega
  · exact h s hs
theorem put_le {S : List Slo} {m : Nat} (h : ∀ s ∈ S, s.2 ≤ m) (l : List UInt8) : ∀ s ∈ putS S l, s.2 ≤ m + 1 := by
  intro s hs
  unfold putS at hs
  split at hs
  · unfold takeS at hs
    split at hs
    · rcases List.mem_or_eq_of_mem_set hs with hs | rfl
      · exact Nat.le_succ_of_le (h s hs)
      · exact Nat.le_add_left _ _
    · exact Nat.le_succ_of_le (h s hs)
  · exact Nat.le_succ_of_le (h s hs)
theorem none_below6 {w : World} {A : Option Addr} {n c : Nat} {l : List UInt8} (h : Bts w A n c l) {F : Nat → Prop} {B : Nat} (hF : ∀ k, F k → B ≤ k) (hB : w.heap.size ≤ B) : 0 < n → ∀ b, A.map Addr.block = some b → ¬ F b := fun hn b hb hf => by
  obtain ⟨ad, rfl, hc⟩ := h.rd.at_ (k := 0) (by rw [bys_length, h.len]; exact hn)
  simp at hb
  have h1 := World.block_lt_of_cell? w _ hc
  have h2 := hF b hf
  rw [blk_add] at h1
  omega
/-- What is held at a round's head. -/
abbrev pl12 (B : Nat) (F G : Nat → Prop) (P R n : Nat) (S S' : List Slo) (L L' : Nat → List UInt8) (A : Option Addr) (t ct : Nat) (hds : List Slo) : List Rsc :=
  [rSto B F P n S L, rRto B G R n S' L', rRow B 69 2 A t ct (rowH hds)]
end Go.Proofs.Ytknlkmencdlpcaa
