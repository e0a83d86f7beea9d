/-
What the pen of package report writes.
-/
import Derived.Test.YtnkclbaeamcplaaRep1
namespace Go.Proofs.Ytnkclbaeamcplaa
set_option linter.unusedVariables false
set_option linter.unusedSimpArgs false
open Go Go.RowKit

theorem cell1 {w : World} {g : Nat} {t : TypeId} {v : Value} (h : w.heap[g]? = some (.cells #[v] t (0, 0))) : w.cell? ⟨g, 0, none⟩ = some v ∧ w.frozen? ⟨g, 0, none⟩ = false := by
  refine ⟨?_, by simp [World.frozen?, h]⟩
  rw [cell_of_row _ _ _ _ _ _ h]; rfl
theorem own_nil {w : World} {base : Nat} {e : TypeId} {size : Nat} {A : Option Addr} {n c : Nat} {xs : List Value} (h : w.ownsRow base e size (.slice A n c) n xs) : A = none → n = 0 ∧ c = 0 := by
  intro ha
  rcases h.2 with ⟨h, _⟩ | ⟨g, cap, cur, h, _⟩
  · injection h with _ h1 h2; exact ⟨h1, h2⟩
  · subst ha; injection h with h; cases h
theorem set1 (w : World) (g : Nat) (u : Value) : w.grownBy (w.setCell ⟨g, 0, none⟩ u) (some g) :=
  ⟨rfl, rfl, rfl, by simp [World.setCell], fun k hk hne => heap_setCell_other w _ k u (fun e => hne (by rw [e]))⟩
theorem grown_from {w w1 w2 : World} {r : Option Nat} (h : Below w.heap.size w w1) (h2 : w1.grownBy w2 r) : w.grownBy w2 r :=
  ⟨h2.os.trans h.os, h2.tape.trans h.tape, h2.output.trans h.output, Nat.le_trans h.size h2.size, fun k hk hne => (h2.block k (Nat.lt_of_lt_of_le hk h.size) hne).trans (h.block k hk)⟩
theorem grown_then {w w1 w2 : World} {r : Option Nat} (h : w.grownBy w1 r) (h2 : w1.grownBy w2 r) : w.grownBy w2 r :=
  ⟨h2.os.trans h.os, h2.tape.trans h.tape, h2.output.trans h.output, Nat.le_trans h.size h2.size, fun k hk hne => (h2.block k (Nat.lt_of_lt_of_le hk h.size) hne).trans (h.block k hk hne)⟩
theorem own_base {w : World} {b b' : Nat} {t : TypeId} {q : Nat} {v : Value} {n : Nat} {xs : List Value} (h : w.ownsRow b t q v n xs) (hb : b' ≤ b) : w.ownsRow b' t q v n xs := by
  refine ⟨h.1, ?_⟩
  rcases h.2 with h2 | ⟨g2, cap, cur, h2, hb2, rest⟩
  · exact .inl h2
  · exact .inr ⟨g2, cap, cur, h2, Nat.le_trans hb hb2, rest⟩
/-- Append of a number that has room. -/
theorem append_fit (X : Option Addr) (n c : Nat) (l : List UInt8) (s num : Nat) (w : World) (base : Nat) (hown : w.ownsRow base 5 1 (.slice X n c) n (bys l)) (hb : n + 8 ≤ 140737488355328) (h1 : 1 ≤ s ∧ s ≤ 8) (h2 : num < 256 ^ s) :
    Calls Try.prog 55 #[.slice X n c, .int .i64 s, .int .u64 num] w fun e w' => ∃ A c', e = .returned (.slice A (n + s) c') ∧
      w'.ownsRow w.heap.size 5 1 (.slice A (n + s) c') (n + s) (bys (l ++ enc s num)) ∧ Below w.heap.size w w' := by
  have hl : l.length = n := by have := hown.1; rw [bys_length] at this; omega
  have hf : fitsB (s : Int) num = true := by rw [fitsB_iff]; exact ⟨by omega, by omega, by rw [Int.toNat_natCast]; exact h2⟩
  have h3 : num ≤ 18446744073709551615 := by
    have := pow_le_8 s (by omega)
    rw [Int.toNat_natCast] at this
    omega
  have e1 : appL l s ((num : Int).toNat) = l ++ enc s num := by rw [Int.toNat_natCast]; unfold appL; rw [if_pos hf, Int.toNat_natCast]
  refine (append_any X n c l s num w hl hb (own_nil hown) (Rd.own hown) (by omega) (by omega) (by omega)).mono ?_
  rintro e w' ⟨A, m, c', rfl, hm, ho, hbl⟩
  rw [e1] at ho
  rw [Hid, e1, List.length_append, enc_length, hl] at hm
  subst hm
  exact ⟨A, c', rfl, ho, hbl⟩

/-- The pen at block g has written l. -/
structure Pen (w : World) (base g : Nat) (l : List UInt8) : Prop where
  hd : ∃ B c, w.heap[g]? = some (.cells #[.slice B l.length c] 61 (0, 0)) ∧ w.ownsRow base 5 1 (.slice B l.length c) l.length (bys l)
  le : base ≤ w.heap.size
theorem Pen.below {w w' : World} {base g : Nat} {l : List UInt8} (h : Pen w base g l) (hb : Below w.heap.size w w') : Pen w' base g l := by
  obtain ⟨⟨B, c, h1, h2⟩, h3⟩ := h
  exact ⟨⟨B, c, blk_below h1 hb, h2.kept (own_below hb) (own_none _)⟩, Nat.le_trans h3 hb.size⟩
theorem Pen.lt {w : World} {base g : Nat} {l : List UInt8} (h : Pen w base g l) : g < w.heap.size := by
  obtain ⟨⟨B, c, h1, h2⟩, h3⟩ := h
  exact blk_in h1
set_option maxHeartbeats 1000000 in
theorem penput_any (w : World) (base g : Nat) (l : List UInt8) (S Z : Int) (s num : Nat) (hS : S = s) (hZ : Z = num) (hp : Pen w base g l) (hl : l.length ≤ 100000) (h1 : 1 ≤ s ∧ s ≤ 8) (h2 : num < 256 ^ s) :
    Calls Try.prog 35 #[.pointer (some ⟨g, 0, none⟩), .int .i64 S, .int .u64 Z] w fun e w' => e = .returned (.tuple #[]) ∧ Pen w' base g (l ++ enc s num) ∧ w.grownBy w' (some g) := by
  subst hS hZ
  obtain ⟨⟨B, c, hh, ho⟩, hle⟩ := hp
  have hlen : (l ++ enc s num).length = l.length + s := by rw [List.length_append, enc_length]
  have hgl := blk_in hh
  generalize hm : l.length = m at *
  obtain ⟨c0, f0⟩ := cell1 hh
  have H2 := Lib.hid h2
  clear h2
  go_enter Try.func35, Try.ntmps35
  go_wp2_with (first
    | (go_at_call 55; (with_reducible refine (append_fit B m c l s num w base ho (by omega) h1 H2.out).mono ?_); rintro e w1 ⟨A1, c1, rfl, ho1, hb1⟩; have hh1 := blk_below hh hb1; obtain ⟨c2, f2⟩ := cell1 hh1))
  go_end0
  have hb2 := (Below.refl w.heap.size w).trans hb1
  have hg := grown_from hb1 (set1 w1 g (.slice A1 (m + s) c1))
  refine ⟨rfl, ⟨⟨A1, c1, ?_, ?_⟩, Nat.le_trans hle hg.size⟩, hg⟩
  · rw [hlen]; exact heap_setCell_same w1 g 0 _ _ _ hh1
  · rw [hlen]
    refine (own_base ho1 hle).kept (set1 w1 g _) ?_
    rw [ownBlock_slice]
    refine .inr fun e => ?_
    have := own_from ho1 g e
    omega
/-- The numbers of four bytes, one behind the other. -/
def fours (ns : List Nat) : List UInt8 := ns.flatMap (enc 4)
theorem fours_length (ns : List Nat) : (fours ns).length = ns.length * 4 := by
  induction ns with
  | nil => rfl
  | cons x l ih => rw [fours, List.flatMap_cons, List.length_append, ← fours, ih, enc_length, List.length_cons]; omega
set_option maxRecDepth 20000 in
set_option maxHeartbeats 1000000 in
theorem words_any (w : World) (base g : Nat) (l : List UInt8) (X : Option Addr) (n c : Nat) (ns : List Nat) (hp : Pen w base g l) (hl : l.length ≤ 1000) (hn : ns.length = n) (hn6 : n ≤ 6) (hnc : n ≤ c) (hc : c ≤ maxLen) (hr : Rd w X (u32s ns)) (hX : X.map Addr.block ≠ some g) (h32 : ∀ x ∈ ns, x < 4294967296) :
    Calls Try.prog 37 #[.pointer (some ⟨g, 0, none⟩), .slice X n c] w fun e w' => e = .returned (.tuple #[]) ∧ Pen w' base g (l ++ fours ns) ∧ w.grownBy w' (some g) := by
  have HP := Lib.hid hp
  have HN := Lib.hid hn
  have HR := Lib.hid hr
  have HX := Lib.hid hX
  have H32 := Lib.hid h32
  clear hp hn hr hX h32
  go_enter Try.func37, Try.ntmps37
  go_wp2
  go_loopw [8] (fun ix wr => ∃ k : Nat, ix = .int .i64 k ∧ k ≤ n ∧ Hid (Pen wr base g (l ++ fours (ns.take k))) ∧ Hid (w.grownBy wr (some g))) (fun ix _ => n - (intOf ix).toNat)
  case atStart => exact ⟨0, rfl, Nat.zero_le _, by simpa [fours] using HP, World.grownBy.refl _ _⟩
  case round =>
    obtain ⟨k, rfl, hkn, HPk, HG⟩ := hrel
    by_cases hlt : k < n
    · have hkl : k < ns.length := by rw [HN.out]; exact hlt
      obtain ⟨ad, rfl, hc0⟩ := (HR.out.grown HG.out (.inr HX.out)) k (.int .u32 (ns[k] : Nat)) (by simp [u32s, hkl])
      have hx := H32.out _ (List.getElem_mem hkl)
      have hlk : (l ++ fours (ns.take k)).length ≤ 100000 := by
        have : (fours (ns.take k)).length = k * 4 := by
          rw [fours_length, List.length_take]; omega
        rw [List.length_append]; omega
      have hst : l ++ fours (ns.take (k + 1)) = (l ++ fours (ns.take k)) ++ enc 4 ns[k] := by
        rw [List.take_succ_eq_append_getElem hkl, fours, List.flatMap_append, ← fours, List.append_assoc]
        simp
      have HS := Lib.hid hst
      generalize ns[k] = x at *
      clear hst
      go_wp2_with (go_at_call 35; (with_reducible refine (penput_any wr base g _ 4 x 4 x rfl rfl HPk.out hlk (by omega) (by omega)).mono ?_); rintro e w2 ⟨rfl, hP2, hG2⟩; replace hP2 := Lib.hid hP2; replace hG2 := Lib.hid hG2)
      exact ⟨⟨k + 1, rfl, by omega, by rw [HS.out]; exact hP2, grown_then HG.out hG2.out⟩, by simp [intOf]; omega⟩
    · go_wp2
      go_end0
      have e1 : ns.take k = ns := List.take_of_length_le (by rw [HN.out]; omega)
      exact ⟨rfl, by have := HPk.out; rwa [e1] at this, HG.out⟩
end Go.Proofs.Ytnkclbaeamcplaa
