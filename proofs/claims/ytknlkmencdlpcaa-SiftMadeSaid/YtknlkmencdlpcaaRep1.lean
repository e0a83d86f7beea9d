/-
What the functions of package report do that tell whether a report may be.
What the pen of package report writes.
What the eye of package report reads, and whether bytes begin as a report does.
Whether bytes begin as a report does (function right of package report).
-/
import Derived.Test.YtknlkmencdlpcaaRepN
import Derived.Test.YtknlkmencdlpcaaField2
import Derived.Test.YtknlkmencdlpcaaReg
import Derived.Deep.QuietTactic
import Derived.BigQuiet
namespace Go.Proofs.Ytknlkmencdlpcaa
set_option linter.unusedVariables false
set_option linter.unusedSimpArgs false
open Go Go.RowKit

set_option maxHeartbeats 400000 in
theorem known_any (k : Int) (w : World) : Calls Try.prog 132 #[.int .i64 k] w fun e w' => e = .returned (.bool (knownB k)) ∧ w = w' := by
  go_enter Try.func132, Try.ntmps132
  go_wp2
  all_goals
    go_ret
    refine ⟨congrArg Ending.returned (congrArg Value.bool ?_), rfl⟩
    rw [Bool.eq_iff_iff]
    simp [knownB]
    try omega

set_option maxHeartbeats 400000 in
theorem size_any (k : Int) (n : Nat) (w : World) (hn : n ≤ 1000) : Calls Try.prog 155 #[.int .i64 k, .int .i64 n] w fun e w' => e = .returned (.int .i64 (sizeR k n : Nat)) ∧ w = w' := by
  go_enter Try.func155, Try.ntmps155
  go_wp2
  all_goals
    go_ret
    refine ⟨congrArg Ending.returned (congrArg (Value.int .i64) ?_), rfl⟩
    rename_i hk
    simp at hk
    simp only [sizeR, hk, if_true, if_false]
    omega

theorem rowK_low (l : List Blk) {k : Nat} (h : k < l.length) : lowB l = true → l[k].t < 16777216 := fun hl => by
  unfold lowB at hl
  rw [List.all_eq_true] at hl
  simpa using hl _ (List.getElem_mem h)
section
variable (i : Itm) (A : Option Addr) (n c : Nat) (G : Option Addr) (gn gc : Nat) (P : Option Addr) (pn pc : Nat) (w : World)
set_option maxHeartbeats 1000000 in
theorem bare_any (hg : i.go.length = gn) (hp : i.pr.length = pn) :
    Calls Try.prog 133 #[.agg #[.int .i64 i.k, .int .u32 i.s, .int .u64 i.ntp, .int .u32 i.tm, .int .u32 i.pk, .int .u32 i.oc, .slice A n c, .slice G gn gc, .int .u32 i.me, .slice P pn pc]] w fun e w' =>
      e = .returned (.bool (bareB i)) ∧ Below w.heap.size w w' := by
  go_enter Try.func133, Try.ntmps133
  go_wp2
  all_goals
    go_ret
    refine ⟨congrArg Ending.returned (congrArg Value.bool ?_), (Below.refl _ _).alloc (Nat.le_refl _) _⟩
    rw [Bool.eq_iff_iff]
    go_tidy
    simp_all [bareB, ← List.length_eq_zero_iff]
    try omega

set_option maxRecDepth 20000 in
set_option maxHeartbeats 1000000 in
theorem may_any (hr : Row w A n c 7 28 (rowK i.bl)) (hg : i.go.length = gn) (hp : i.pr.length = pn) :
    Calls Try.prog 90 #[.agg #[.int .i64 i.k, .int .u32 i.s, .int .u64 i.ntp, .int .u32 i.tm, .int .u32 i.pk, .int .u32 i.oc, .slice A n c, .slice G gn gc, .int .u32 i.me, .slice P pn pc]] w fun e w' =>
      e = .returned (.bool (mayR i)) ∧ Below w.heap.size w w' := by
  have hbl : i.bl.length = n := by have := hr.len; rw [rowK_length] at this; omega
  have HB := Lib.hid hbl
  have HR := Lib.hid hr
  have hcm := hr.cm
  have hnc := hr.nc
  clear hr hbl
  have hmay : mayR i = (knownB i.k && bareB i && decide (n ≤ 15) && lowB i.bl) := by rw [mayR, HB.out]
  rw [hmay]
  clear hmay
  cases hk : knownB i.k
  · go_enter Try.func90, Try.ntmps90
    go_wp2_with (go_at_call 132; (with_reducible refine (known_any _ _).mono ?_); rintro e w1 ⟨rfl, rfl⟩; rw [hk])
    go_ret
    exact ⟨rfl, (Below.refl _ _).alloc (Nat.le_refl _) _⟩
  cases hba : bareB i
  · go_enter Try.func90, Try.ntmps90
    go_wp2_with (first
      | (go_at_call 132; (with_reducible refine (known_any _ _).mono ?_); rintro e w1 ⟨rfl, rfl⟩; rw [hk])
      | (go_at_call 133; (with_reducible refine (bare_any i A n c G gn gc P pn pc _ hg hp).mono ?_); rintro e w1 ⟨rfl, hb1⟩; rw [hba]))
    go_ret
    exact ⟨rfl, (((Below.refl _ _).alloc (Nat.le_refl _) _).trans (hb1.mono (by simp)))⟩
  by_cases h15 : n ≤ 15
  · rw [decide_eq_true h15]
    go_enter Try.func90, Try.ntmps90
    go_wp2_with (first
      | (go_at_call 132; (with_reducible refine (known_any _ _).mono ?_); rintro e w1 ⟨rfl, rfl⟩; rw [hk])
      | (go_at_call 133; (with_reducible refine (bare_any i A n c G gn gc P pn pc _ hg hp).mono ?_); rintro e w1 ⟨rfl, hb1⟩; rw [hba]; have hb2 := ((Below.refl w.heap.size w).alloc (Nat.le_refl _) _).trans (hb1.mono (by simp)); obtain ⟨x0, x1, x2, x3, x4, x5, x6, x7, x8, x9⟩ := row10_cells (blk_below (blk_alloc _ _) hb1)))
    go_loopw [23] (fun ix wr => ∃ k : Nat, ix = .int .i64 k ∧ k ≤ n ∧ lowB (i.bl.take k) = true ∧ Below w.heap.size w wr) (fun ix _ => n - (intOf ix).toNat)
    case atStart => exact ⟨0, rfl, Nat.zero_le _, rfl, hb2⟩
    case round =>
      obtain ⟨k, rfl, hkn, hlow, hbr⟩ := hrel
      by_cases hlt : k < n
      · have hkl : k < i.bl.length := by rw [HB.out]; exact hlt
        obtain ⟨ad, rfl, c0, c1, c2, c3, c4, c5, c6⟩ := rd_blk (HR.out.rd.below hbr) hkl
        have hst : Hid (lowB (i.bl.take (k + 1)) = decide (i.bl[k].t < 16777216)) := by
          rw [Hid, List.take_succ_eq_append_getElem hkl, lowB, List.all_append, ← lowB, hlow]; simp
        clear hlow
        by_cases ht : i.bl[k].t < 16777216
        · have ht' : decide ((16777216 : Int) ≤ i.bl[k].t) = false := by simp; omega
          have Ht := Lib.hid ht
          clear ht
          go_wp2
          exact ⟨⟨k + 1, rfl, by omega, by rw [hst.out]; simpa using Ht.out, hbr.alloc hbr.size _⟩, by simp [intOf]; omega⟩
        · have ht' : ((16777216 : Int) ≤ i.bl[k].t) := by omega
          have hf : lowB i.bl = false := by
            rw [← Bool.not_eq_true]; exact fun h => ht (rowK_low _ hkl h)
          go_wp2
          go_ret
          exact ⟨by rw [hf]; rfl, hbr.alloc hbr.size _⟩
      · go_wp2
        go_ret
        have : lowB i.bl = true := by rw [← hlow, List.take_of_length_le (by rw [HB.out]; omega)]
        exact ⟨by rw [this]; rfl, hbr⟩
  · rw [decide_eq_false h15]
    go_enter Try.func90, Try.ntmps90
    go_wp2_with (first
      | (go_at_call 132; (with_reducible refine (known_any _ _).mono ?_); rintro e w1 ⟨rfl, rfl⟩; rw [hk])
      | (go_at_call 133; (with_reducible refine (bare_any i A n c G gn gc P pn pc _ hg hp).mono ?_); rintro e w1 ⟨rfl, hb1⟩; rw [hba]; have hb2 := ((Below.refl w.heap.size w).alloc (Nat.le_refl _) _).trans (hb1.mono (by simp)); obtain ⟨x0, x1, x2, x3, x4, x5, x6, x7, x8, x9⟩ := row10_cells (blk_below (blk_alloc _ _) hb1)))
    go_ret
    exact ⟨rfl, hb2⟩
end
end Go.Proofs.Ytknlkmencdlpcaa

namespace Go.Proofs.Ytknlkmencdlpcaa
set_option linter.unusedVariables false
set_option linter.unusedSimpArgs false
open Go Go.RowKit

theorem cell1 {w : World} {g : Nat} {t : TypeId} {v : Value} (h : w.heap[g]? = some (.cells #[v] t (0, 0))) : w.cell? ⟨g, 0, none⟩ = some v ∧ w.frozen? ⟨g, 0, none⟩ = false := by
  refine ⟨?_, by simp [World.frozen?, h]⟩
  rw [cell_of_row _ _ _ _ _ _ h]; rfl
theorem own_nil {w : World} {base : Nat} {e : TypeId} {size : Nat} {A : Option Addr} {n c : Nat} {xs : List Value} (h : w.ownsRow base e size (.slice A n c) n xs) : A = none → n = 0 ∧ c = 0 := by
  intro ha
  rcases h.2 with ⟨h, _⟩ | ⟨g, cap, cur, h, _⟩
  · injection h with _ h1 h2; exact ⟨h1, h2⟩
  · subst ha; injection h with h; cases h
theorem set1 (w : World) (g : Nat) (u : Value) : w.grownBy (w.setCell ⟨g, 0, none⟩ u) (some g) :=
  ⟨rfl, rfl, rfl, by simp [World.setCell], fun k hk hne => heap_setCell_other w _ k u (fun e => hne (by rw [e]))⟩
theorem grown_from {w w1 w2 : World} {r : Option Nat} (h : Below w.heap.size w w1) (h2 : w1.grownBy w2 r) : w.grownBy w2 r :=
  ⟨h2.os.trans h.os, h2.tape.trans h.tape, h2.output.trans h.output, Nat.le_trans h.size h2.size, fun k hk hne => (h2.block k (Nat.lt_of_lt_of_le hk h.size) hne).trans (h.block k hk)⟩
theorem grown_then {w w1 w2 : World} {r : Option Nat} (h : w.grownBy w1 r) (h2 : w1.grownBy w2 r) : w.grownBy w2 r :=
  ⟨h2.os.trans h.os, h2.tape.trans h.tape, h2.output.trans h.output, Nat.le_trans h.size h2.size, fun k hk hne => (h2.block k (Nat.lt_of_lt_of_le hk h.size) hne).trans (h.block k hk hne)⟩
theorem own_base {w : World} {b b' : Nat} {t : TypeId} {q : Nat} {v : Value} {n : Nat} {xs : List Value} (h : w.ownsRow b t q v n xs) (hb : b' ≤ b) : w.ownsRow b' t q v n xs := by
  refine ⟨h.1, ?_⟩
  rcases h.2 with h2 | ⟨g2, cap, cur, h2, hb2, rest⟩
  · exact .inl h2
  · exact .inr ⟨g2, cap, cur, h2, Nat.le_trans hb hb2, rest⟩
/-- Append of a number that has room. -/
theorem append_fit (X : Option Addr) (n c : Nat) (l : List UInt8) (s num : Nat) (w : World) (base : Nat) (hown : w.ownsRow base 5 1 (.slice X n c) n (bys l)) (hb : n + 8 ≤ 140737488355328) (h1 : 1 ≤ s ∧ s ≤ 8) (h2 : num < 256 ^ s) :
    Calls Try.prog 129 #[.slice X n c, .int .i64 s, .int .u64 num] w fun e w' => ∃ A c', e = .returned (.slice A (n + s) c') ∧
      w'.ownsRow w.heap.size 5 1 (.slice A (n + s) c') (n + s) (bys (l ++ enc s num)) ∧ Below w.heap.size w w' := by
  have hl : l.length = n := by have := hown.1; rw [bys_length] at this; omega
  have hf : fitsB (s : Int) num = true := by rw [fitsB_iff]; exact ⟨by omega, by omega, by rw [Int.toNat_natCast]; exact h2⟩
  have h3 : num ≤ 18446744073709551615 := by
    have := pow_le_8 s (by omega)
    rw [Int.toNat_natCast] at this
    omega
  have e1 : appL l s ((num : Int).toNat) = l ++ enc s num := by rw [Int.toNat_natCast]; unfold appL; rw [if_pos hf, Int.toNat_natCast]
  refine (append_any X n c l s num w hl hb (own_nil hown) (Rd.own hown) (by omega) (by omega) (by omega)).mono ?_
  rintro e w' ⟨A, m, c', rfl, hm, ho, hbl⟩
  rw [e1] at ho
  rw [Hid, e1, List.length_append, enc_length, hl] at hm
  subst hm
  exact ⟨A, c', rfl, ho, hbl⟩

/-- The pen at block g has written l. -/
structure Pen (w : World) (base g : Nat) (l : List UInt8) : Prop where
  hd : ∃ B c, w.heap[g]? = some (.cells #[.slice B l.length c] 203 (0, 0)) ∧ w.ownsRow base 5 1 (.slice B l.length c) l.length (bys l)
  le : base ≤ w.heap.size
theorem Pen.below {w w' : World} {base g : Nat} {l : List UInt8} (h : Pen w base g l) (hb : Below w.heap.size w w') : Pen w' base g l := by
  obtain ⟨⟨B, c, h1, h2⟩, h3⟩ := h
  exact ⟨⟨B, c, blk_below h1 hb, h2.kept (own_below hb) (own_none _)⟩, Nat.le_trans h3 hb.size⟩
theorem Pen.lt {w : World} {base g : Nat} {l : List UInt8} (h : Pen w base g l) : g < w.heap.size := by
  obtain ⟨⟨B, c, h1, h2⟩, h3⟩ := h
  exact blk_in h1
set_option maxHeartbeats 1000000 in
theorem penput_any (w : World) (base g : Nat) (l : List UInt8) (S Z : Int) (s num : Nat) (hS : S = s) (hZ : Z = num) (hp : Pen w base g l) (hl : l.length ≤ 100000) (h1 : 1 ≤ s ∧ s ≤ 8) (h2 : num < 256 ^ s) :
    Calls Try.prog 154 #[.pointer (some ⟨g, 0, none⟩), .int .i64 S, .int .u64 Z] w fun e w' => e = .returned (.tuple #[]) ∧ Pen w' base g (l ++ enc s num) ∧ w.grownBy w' (some g) := by
  subst hS hZ
  obtain ⟨⟨B, c, hh, ho⟩, hle⟩ := hp
  have hlen : (l ++ enc s num).length = l.length + s := by rw [List.length_append, enc_length]
  have hgl := blk_in hh
  generalize hm : l.length = m at *
  obtain ⟨c0, f0⟩ := cell1 hh
  have H2 := Lib.hid h2
  clear h2
  go_enter Try.func154, Try.ntmps154
  go_wp2_with (first
    | (go_at_call 129; (with_reducible refine (append_fit B m c l s num w base ho (by omega) h1 H2.out).mono ?_); rintro e w1 ⟨A1, c1, rfl, ho1, hb1⟩; have hh1 := blk_below hh hb1; obtain ⟨c2, f2⟩ := cell1 hh1))
  go_end0
  have hb2 := (Below.refl w.heap.size w).trans hb1
  have hg := grown_from hb1 (set1 w1 g (.slice A1 (m + s) c1))
  refine ⟨rfl, ⟨⟨A1, c1, ?_, ?_⟩, Nat.le_trans hle hg.size⟩, hg⟩
  · rw [hlen]; exact heap_setCell_same w1 g 0 _ _ _ hh1
  · rw [hlen]
    refine (own_base ho1 hle).kept (set1 w1 g _) ?_
    rw [ownBlock_slice]
    refine .inr fun e => ?_
    have := own_from ho1 g e
    omega
/-- The numbers of four bytes, one behind the other. -/
def fours (ns : List Nat) : List UInt8 := ns.flatMap (enc 4)
theorem fours_length (ns : List Nat) : (fours ns).length = ns.length * 4 := by
  induction ns with
  | nil => rfl
  | cons x l ih => rw [fours, List.flatMap_cons, List.length_append, ← fours, ih, enc_length, List.length_cons]; omega
set_option maxRecDepth 20000 in
set_option maxHeartbeats 1000000 in
theorem words_any (w : World) (base g : Nat) (l : List UInt8) (X : Option Addr) (n c : Nat) (ns : List Nat) (hp : Pen w base g l) (hl : l.length ≤ 1000) (hn : ns.length = n) (hn6 : n ≤ 6) (hnc : n ≤ c) (hc : c ≤ maxLen) (hr : Rd w X (u32s ns)) (hX : X.map Addr.block ≠ some g) (h32 : ∀ x ∈ ns, x < 4294967296) :
    Calls Try.prog 156 #[.pointer (some ⟨g, 0, none⟩), .slice X n c] w fun e w' => e = .returned (.tuple #[]) ∧ Pen w' base g (l ++ fours ns) ∧ w.grownBy w' (some g) := by
  have HP := Lib.hid hp
  have HN := Lib.hid hn
  have HR := Lib.hid hr
  have HX := Lib.hid hX
  have H32 := Lib.hid h32
  clear hp hn hr hX h32
  go_enter Try.func156, Try.ntmps156
  go_wp2
  go_loopw [8] (fun ix wr => ∃ k : Nat, ix = .int .i64 k ∧ k ≤ n ∧ Hid (Pen wr base g (l ++ fours (ns.take k))) ∧ Hid (w.grownBy wr (some g))) (fun ix _ => n - (intOf ix).toNat)
  case atStart => exact ⟨0, rfl, Nat.zero_le _, by simpa [fours] using HP, World.grownBy.refl _ _⟩
  case round =>
    obtain ⟨k, rfl, hkn, HPk, HG⟩ := hrel
    by_cases hlt : k < n
    · have hkl : k < ns.length := by rw [HN.out]; exact hlt
      obtain ⟨ad, rfl, hc0⟩ := (HR.out.grown HG.out (.inr HX.out)) k (.int .u32 (ns[k] : Nat)) (by simp [u32s, hkl])
      have hx := H32.out _ (List.getElem_mem hkl)
      have hlk : (l ++ fours (ns.take k)).length ≤ 100000 := by
        have : (fours (ns.take k)).length = k * 4 := by
          rw [fours_length, List.length_take]; omega
        rw [List.length_append]; omega
      have hst : l ++ fours (ns.take (k + 1)) = (l ++ fours (ns.take k)) ++ enc 4 ns[k] := by
        rw [List.take_succ_eq_append_getElem hkl, fours, List.flatMap_append, ← fours, List.append_assoc]
        simp
      have HS := Lib.hid hst
      generalize ns[k] = x at *
      clear hst
      go_wp2_with (go_at_call 154; (with_reducible refine (penput_any wr base g _ 4 x 4 x rfl rfl HPk.out hlk (by omega) (by omega)).mono ?_); rintro e w2 ⟨rfl, hP2, hG2⟩; replace hP2 := Lib.hid hP2; replace hG2 := Lib.hid hG2)
      exact ⟨⟨k + 1, rfl, by omega, by rw [HS.out]; exact hP2, grown_then HG.out hG2.out⟩, by simp [intOf]; omega⟩
    · go_wp2
      go_end0
      have e1 : ns.take k = ns := List.take_of_length_le (by rw [HN.out]; omega)
      exact ⟨rfl, by have := HPk.out; rwa [e1] at this, HG.out⟩
end Go.Proofs.Ytknlkmencdlpcaa

namespace Go.Proofs.Ytknlkmencdlpcaa
set_option linter.unusedVariables false
set_option linter.unusedSimpArgs false
open Go Go.RowKit

/-- The bytes that are read. -/
structure Bts (w : World) (X : Option Addr) (n c : Nat) (l : List UInt8) : Prop where
  (len : l.length = n) (nc : n ≤ c) (cm : c ≤ maxLen) (rd : Rd w X (bys l))
theorem Bts.below {w w' : World} {X : Option Addr} {n c : Nat} {l : List UInt8} (h : Bts w X n c l) (hb : Below w.heap.size w w') : Bts w' X n c l := ⟨h.len, h.nc, h.cm, h.rd.below hb⟩
theorem Bts.grown {w w' : World} {X : Option Addr} {n c : Nat} {l : List UInt8} {row : Option Nat} (h : Bts w X n c l) (hb : w.grownBy w' row) (hne : row = none ∨ X.map Addr.block ≠ row) : Bts w' X n c l := ⟨h.len, h.nc, h.cm, h.rd.grown hb hne⟩
/-- The eye at block g: it has come to a. -/
def Eye (w : World) (g : Nat) (X : Option Addr) (n c a : Nat) : Prop := w.heap[g]? = some (.cells #[.slice X n c, .int .i64 a] 210 (0, 0))
theorem cell2 {w : World} {g : Nat} {t : TypeId} {u v : Value} (h : w.heap[g]? = some (.cells #[u, v] t (0, 0))) : w.cell? ⟨g, 0, none⟩ = some u ∧ w.cell? ⟨g, 1, none⟩ = some v ∧ w.frozen? ⟨g, 1, none⟩ = false := by
  refine ⟨?_, ?_, by simp [World.frozen?, h]⟩ <;> (rw [cell_of_row _ _ _ _ _ _ h]; rfl)
theorem set1j (w : World) (g j : Nat) (u : Value) : w.grownBy (w.setCell ⟨g, j, none⟩ u) (some g) :=
  ⟨rfl, rfl, rfl, by simp [World.setCell], fun k hk hne => heap_setCell_other w _ k u (fun e => hne (by rw [e]))⟩
theorem get_same (A : Option Addr) (n c : Nat) (l : List UInt8) (a s : Nat) (S : Int) (hS : S = s) (w : World) (h : Bts w A n c l) (h1 : a ≤ 9223372036854775807) (h2 : s ≤ 9223372036854775807) :
    Calls Try.prog 120 #[.slice A n c, .int .i64 a, .int .i64 S] w fun e w' => e = .returned (.tuple #[.int .u64 (getN l a s : Nat), .bool (withinB n a s)]) ∧ w' = w := by
  subst hS
  refine (get_any A n c l a s w h.len h.nc h.cm h.rd (by omega) (by omega)).mono ?_
  rintro e w' ⟨rfl, rfl⟩
  exact ⟨rfl, rfl⟩
theorem Bts.drewN {w : World} {X : Option Addr} {n c : Nat} {l : List UInt8} (h : Bts w X n c l) (k : Nat) : Bts (w.drewN k) X n c l := ⟨h.len, h.nc, h.cm, h.rd.drewN k⟩
theorem eye_read {w : World} {g : Nat} {X : Option Addr} {n c a : Nat} (h : Eye w g X n c a) : ∀ k, (w.drewN k).cell? ⟨g, 0, none⟩ = some (.slice X n c) ∧ (w.drewN k).cell? ⟨g, 1, none⟩ = some (.int .i64 a) := fun k => ⟨(cell2 h).1, (cell2 h).2.1⟩
theorem getN_ltS (l : List UInt8) (a s : Nat) : getN l a s < 256 ^ s := by
  unfold getN
  split
  · rename_i h
    rw [withinB_iff] at h
    have h1 := beN_lt (part l ((a : Nat) : Int).toNat ((s : Nat) : Int).toNat)
    rw [part_length (by omega), Int.toNat_natCast] at h1
    exact h1
  · exact Nat.pow_pos (by omega)
theorem getN_lt4 (l : List UInt8) (a : Nat) : getN l a 4 < 4294967296 := getN_ltS l a 4
set_option maxRecDepth 20000 in
set_option maxHeartbeats 1000000 in
theorem eyeget_any (w : World) (g : Nat) (X : Option Addr) (n c a : Nat) (l : List UInt8) (S : Int) (s : Nat) (hS : S = s) (he : Eye w g X n c a) (hb : Bts w X n c l) (hs : s ≤ 8) (ha : a ≤ 1000000) :
    Calls Try.prog 159 #[.pointer (some ⟨g, 0, none⟩), .int .i64 S] w fun e w' => e = .returned (.int .u64 (getN l a s : Nat)) ∧ Eye w' g X n c (a + s) ∧ w.grownBy w' (some g) := by
  subst hS
  have HB := Lib.hid hb
  have HE := Lib.hid he
  have c0 := fun k => (eye_read he k).1
  have c1 := fun k => (eye_read he k).2
  clear hb he
  go_enter Try.func159, Try.ntmps159
  go_wp2
  go_quiet ((go_at_call 120; with_reducible exact Calls.quiet_of_same (get_same X n c l a s s rfl _ (HB.out.drewN _) (by omega) (by omega))))
  have f1 : ∀ k, (w.drewN k).frozen? ⟨g, 1, none⟩ = false := fun k => (cell2 HE.out).2.2
  go_wp2
  go_ret
  refine ⟨rfl, ?_, ?_⟩
  · have := heap_setCell_same (w.drewN nq) g 1 _ _ (.int .i64 ((a : Int) + s)) (show (w.drewN nq).heap[g]? = _ from HE.out)
    rw [Eye, show (((a + s : Nat) : Int)) = (a : Int) + s by omega]
    exact this
  · exact grown_from (below_drewN (Below.refl _ _) _) (set1j (w.drewN _) g 1 _)
set_option maxRecDepth 20000 in
set_option maxHeartbeats 1000000 in
theorem eyeword_any (w : World) (g : Nat) (X : Option Addr) (n c a : Nat) (l : List UInt8) (he : Eye w g X n c a) (hb : Bts w X n c l) (ha : a ≤ 1000000) :
    Calls Try.prog 158 #[.pointer (some ⟨g, 0, none⟩)] w fun e w' => e = .returned (.int .u32 (getN l a 4 : Nat)) ∧ Eye w' g X n c (a + 4) ∧ w.grownBy w' (some g) := by
  have HB := Lib.hid hb
  have HE := Lib.hid he
  have hlt : getN l a 4 < 4294967296 := getN_lt4 l a
  clear hb he
  go_enter Try.func158, Try.ntmps158
  go_wp2_with (go_at_call 159; (with_reducible refine (eyeget_any w g X n c a l 4 4 rfl HE.out HB.out (by omega) ha).mono ?_); rintro e w1 ⟨rfl, h1, h2⟩; replace h1 := Lib.hid h1; replace h2 := Lib.hid h2)
  go_ret
  exact ⟨rfl, h1.out, h2.out⟩
end Go.Proofs.Ytknlkmencdlpcaa

namespace Go.Proofs.Ytknlkmencdlpcaa
set_option linter.unusedVariables false
set_option linter.unusedSimpArgs false
open Go Go.RowKit

def byteN (l : List UInt8) (k : Nat) : Nat := (l[k]?.getD 0).toNat
def manyR (l : List UInt8) : Nat := byteN l 0 % 32
def longR (l : List UInt8) : Nat := sizeR (byteN l 1) (manyR l)
/-- What is wrong with the front of a report. -/
def rightE (l : List UInt8) : Nat :=
  if l.length < 4 then 2 else if byteN l 0 / 32 ≠ 4 then 1 else if knownB (byteN l 1) = false then 4 else
    if manyR l > 15 ∨ (getN l 2 2 + 1) * 4 ≠ longR l then 1 else if l.length < longR l then 2 else 0
def rightN (l : List UInt8) : Nat := if rightE l = 0 then longR l else 0
theorem and31 : ∀ k : Nat, k < 256 → bits .and .u8 (k : Int) 31 = ((k % 32 : Nat) : Int) := by
  have h : (List.range 256).all (fun k => decide (bits .and .u8 (k : Int) 31 = ((k % 32 : Nat) : Int))) = true := by decide +kernel
  intro k hk
  exact of_decide_eq_true (List.all_eq_true.1 h k (List.mem_range.2 hk))
theorem byteN_lt (l : List UInt8) (k : Nat) : byteN l k < 256 := UInt8.toNat_lt _
theorem bts_byte {w : World} {X : Option Addr} {n c : Nat} {l : List UInt8} (h : Bts w X n c l) {k : Nat} (hk : k < n) : ∃ ad, X = some ad ∧ w.cell? (ad.add k) = some (.int .u8 (byteN l k)) := by
  have hkl : k < l.length := by rw [h.len]; exact hk
  obtain ⟨ad, h1, h2⟩ := RdB.at_ h.rd hkl
  refine ⟨ad, h1, ?_⟩
  rw [byteN, List.getElem?_eq_getElem hkl]
  exact h2
theorem get_same2 (A : Option Addr) (n c : Nat) (l : List UInt8) (Z S : Int) (a s : Nat) (hZ : Z = a) (hS : S = s) (w : World) (h : Bts w A n c l) (h1 : a ≤ 9223372036854775807) (h2 : s ≤ 9223372036854775807) :
    Calls Try.prog 120 #[.slice A n c, .int .i64 Z, .int .i64 S] w fun e w' => e = .returned (.tuple #[.int .u64 (getN l a s : Nat), .bool (withinB n a s)]) ∧ w' = w := by
  subst hZ
  exact get_same A n c l a s S hS w h h1 h2
theorem size_same (k : Int) (n : Nat) (w : World) (hn : n ≤ 1000) : Calls Try.prog 155 #[.int .i64 k, .int .i64 n] w fun e w' => e = .returned (.int .i64 (sizeR k n : Nat)) ∧ w' = w :=
  (size_any k n w hn).mono fun e w' ⟨h1, h2⟩ => ⟨h1, h2.symm⟩
set_option maxRecDepth 20000 in
set_option maxHeartbeats 1000000 in
theorem right_any (w : World) (X : Option Addr) (n c : Nat) (l : List UInt8) (hb : Bts w X n c l) :
    Calls Try.prog 157 #[.slice X n c] w fun e w' => e = .returned (.tuple #[.int .i64 (rightN l : Nat), .int .i64 (rightE l : Nat)]) ∧ Below w.heap.size w w' := by
  have HB := Lib.hid hb
  have HL := Lib.hid hb.len
  have hcm := hb.cm
  have hnc := hb.nc
  by_cases h4 : n < 4
  · have e1 : rightE l = 2 := by unfold rightE; rw [if_pos (by rw [hb.len]; exact h4)]
    have e2 : rightN l = 0 := by unfold rightN; rw [e1]; rfl
    clear hb
    rw [e1, e2]
    go_enter Try.func157, Try.ntmps157
    go_wp2
    go_ret2
    exact ⟨rfl, Below.refl _ _⟩
  obtain ⟨ad, rfl, c0⟩ := bts_byte hb (k := 0) (by omega)
  obtain ⟨ad', hA, c1⟩ := bts_byte hb (k := 1) (by omega)
  injection hA with hA; subst hA
  rw [add_zero'] at c0
  replace c1 : w.cell? ⟨ad.block, ad.off + 1, none⟩ = _ := c1
  have d0 : ∀ k, (w.drewN k).cell? ad = _ := fun k => c0
  have d1 : ∀ k, (w.drewN k).cell? ⟨ad.block, ad.off + 1, none⟩ = _ := fun k => c1
  have hlen : ¬ l.length < 4 := by rw [hb.len]; exact h4
  have x1 := byteN_lt l 0
  have y1 := byteN_lt l 1
  have a31 := and31 _ x1
  have hE := rightE.eq_1 l
  rw [if_neg hlen] at hE
  have hM : manyR l = byteN l 0 % 32 := rfl
  have hLo : longR l = sizeR (byteN l 1) (manyR l) := rfl
  generalize byteN l 0 = x at *
  generalize byteN l 1 = y at *
  have hn0 : 0 < n := by omega
  have hn1 : 1 < n := by omega
  have hn1' : (1 : Int) < n := by omega
  clear hb hlen
  by_cases hx : x / 32 = 4
  case neg =>
    rw [if_pos hx] at hE
    have e2 : rightN l = 0 := by unfold rightN; rw [hE]; rfl
    rw [hE, e2]
    have hx' : ((x : Int) / 32 != 4) = true := by simp; omega
    clear hE e2 hM hLo a31
    go_enter Try.func157, Try.ntmps157
    go_wp2
    go_ret2
    exact ⟨rfl, Below.refl _ _⟩
  have hx' : ((x : Int) / 32 != 4) = false := by simp; omega
  rw [if_neg (by omega)] at hE
  cases hk : knownB (y : Int)
  · rw [if_pos hk] at hE
    have e2 : rightN l = 0 := by unfold rightN; rw [hE]; rfl
    rw [hE, e2]
    clear hE e2 hM hLo a31
    go_enter Try.func157, Try.ntmps157
    go_wp2_with (go_at_call 132; (with_reducible refine (known_any _ _).mono ?_); rintro e w1 ⟨rfl, rfl⟩; rw [hk])
    go_ret2
    exact ⟨rfl, Below.refl _ _⟩
  rw [if_neg (by rw [hk]; simp)] at hE
  have hm31 : manyR l ≤ 31 := by omega
  rw [← hM] at a31
  have HM := Lib.hid hM
  have HE := Lib.hid hE
  have HLo := Lib.hid hLo
  clear hM hE hLo
  generalize manyR l = m at *
  go_enter Try.func157, Try.ntmps157
  go_wp2_with (first
    | (go_at_call 132; (with_reducible refine (known_any _ _).mono ?_); rintro e w1 ⟨rfl, rfl⟩; rw [hk])
    | (go_at_call 120; (with_reducible refine (get_same2 (some ad) n c l 2 2 2 2 rfl rfl _ HB.out (by omega) (by omega)).mono ?_); rintro e w1 ⟨rfl, rfl⟩))
  go_quiet ((go_at_call 155; with_reducible exact Calls.quiet_of_same (size_same _ _ _ (by omega))))
  have hz := getN_ltS l 2 2
  have hzz : getN l 2 2 < 65536 := hz
  have hL : sizeR y m ≤ 772 := by unfold sizeR; split <;> omega
  have HZ : Hid (∀ z L, getN l 2 2 = z → sizeR y m = L → rightE l = if m > 15 ∨ (z + 1) * 4 ≠ L then 1 else if l.length < L then 2 else 0) := by
    rintro z L rfl rfl
    rw [HE.out, HLo.out]
  have HR : Hid (∀ L, sizeR y m = L → rightN l = if rightE l = 0 then L else 0) := by
    rintro L rfl
    rw [rightN, HLo.out]
  generalize hgz : getN l ((2 : Nat) : Int) ((2 : Nat) : Int) = z at *
  generalize hgL : sizeR y m = L at *
  have HZ' := HZ.out z L rfl rfl
  have HR' := HR.out L rfl
  rw [HL.out] at HZ'
  clear hz HZ HR HE HLo hgz hgL
  by_cases hm : 15 < m
  · have e1 : rightE l = 1 := by rw [HZ', if_pos (.inl hm)]
    have e2 : rightN l = 0 := by rw [HR', e1]; rfl
    have HG : Hid (rightE l = 1 ∧ rightN l = 0) := ⟨e1, e2⟩
    clear HZ' HR' e1 e2
    go_wp2
    go_ret2
    exact ⟨by rw [HG.out.1, HG.out.2]; rfl, below_drewN (Below.refl _ _) _⟩
  by_cases hw : (z + 1) * 4 = L
  · have hq : (((z : Int) + 1) * 4 != L) = false := by simp; omega
    by_cases hs : n < L
    · have e1 : rightE l = 2 := by rw [HZ', if_neg (by omega), if_pos hs]
      have e2 : rightN l = 0 := by rw [HR', e1]; rfl
      have HG : Hid (rightE l = 2 ∧ rightN l = 0) := ⟨e1, e2⟩
      clear HZ' HR' e1 e2 hw
      go_wp2
      go_ret2
      exact ⟨by rw [HG.out.1, HG.out.2]; rfl, below_drewN (Below.refl _ _) _⟩
    · have e1 : rightE l = 0 := by rw [HZ', if_neg (by omega), if_neg hs]
      have e2 : rightN l = L := by rw [HR', e1]; rfl
      have HG : Hid (rightE l = 0 ∧ rightN l = L) := ⟨e1, e2⟩
      clear HZ' HR' e1 e2 hw
      go_wp2
      go_ret2
      exact ⟨by rw [HG.out.1, HG.out.2]; rfl, below_drewN (Below.refl _ _) _⟩
  · have hq : (((z : Int) + 1) * 4 != L) = true := by simp; omega
    have e1 : rightE l = 1 := by rw [HZ', if_pos (.inr hw)]
    have e2 : rightN l = 0 := by rw [HR', e1]; rfl
    have HG : Hid (rightE l = 1 ∧ rightN l = 0) := ⟨e1, e2⟩
    clear HZ' HR' e1 e2 hw
    go_wp2
    go_ret2
    exact ⟨by rw [HG.out.1, HG.out.2]; rfl, below_drewN (Below.refl _ _) _⟩
end Go.Proofs.Ytknlkmencdlpcaa
