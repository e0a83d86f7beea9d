/-
The closure of Parse of package text: the next operation; fault.
-/
import Derived.Test.YtaghecgjmkhpcaaGreatDoorTxD
import Derived.Lib.OthersKept
import Derived.OneCell
namespace Go.Proofs.YtaghecgjmkhpcaaGreatDoor
set_option linter.unusedVariables false
set_option linter.unusedSimpArgs false
open Go Go.RowKit

theorem slOp : SliceT Tryz.prog 22 27 (.agg zA) 7 96 := sliceT_of Tryz.underlying22 (by kernel_rfl) rfl (by omega) (by omega)
/-- A row of operations of the call's own. -/
structure OpsO (w : World) (base : Nat) (A : Option Addr) (n c : Nat) (xs : List Sp) : Prop where
  own : w.ownsRow base 27 7 (.slice A n c) n (rowO xs)
  rows : ∀ x ∈ xs, SpO w base x
theorem OpsO.below {w w' : World} {base n c : Nat} {A : Option Addr} {xs : List Sp} (h : OpsO w base A n c xs) (hb : Below w.heap.size w w') : OpsO w' base A n c xs := ⟨h.own.kept (own_below hb) (own_none _), fun x hx => (h.rows x hx).below hb⟩
theorem own_low {w w' : World} {base g : Nat} {e : TypeId} {size n c : Nat} {A : Option Addr} {xs : List Value} (h : w.ownsRow base e size (.slice A n c) n xs) (hg : w.grownBy w' (some g)) (hl : g < base) : w'.ownsRow base e size (.slice A n c) n xs := by
  refine h.kept hg ?_
  cases hA : A with
  | none => exact .inl rfl
  | some ad =>
    refine .inr fun e => ?_
    rw [← hA] at e
    have := own_from h g (by
      cases A with
      | none => cases hA
      | some a => simpa [Value.ownBlock] using e)
    omega
theorem SpO.low {w w' : World} {base g : Nat} {x : Sp} (h : SpO w base x) (hg : w.grownBy w' (some g)) (hl : g < base) : SpO w' base x := ⟨own_low h.oa hg hl, own_low h.ob hg hl, h.ok, h.nm⟩
theorem OpsO.low {w w' : World} {base n c g : Nat} {A : Option Addr} {xs : List Sp} (h : OpsO w base A n c xs) (hg : w.grownBy w' (some g)) (hl : g < base) : OpsO w' base A n c xs := ⟨own_low h.own hg hl, fun x hx => (h.rows x hx).low hg hl⟩
theorem OpsO.len {w : World} {base n c : Nat} {A : Option Addr} {xs : List Sp} (h : OpsO w base A n c xs) : xs.length = n := by
  have := h.own.1
  rw [rowO_length] at this
  omega
theorem OpsO.ops {w : World} {base n c : Nat} {A : Option Addr} {xs : List Sp} (h : OpsO w base A n c xs) : Ops w A n c xs :=
  ⟨h.len, (own_cap h.own).1, (own_cap h.own).2, (own_rowT 96 h.own).rd, fun x hx => (h.rows x hx).r⟩
theorem own_otherT {w w' : World} {b b' : Nat} {e e' : TypeId} {s s' n c m d : Nat} {A B : Option Addr} {xs ys : List Value} (h : w.ownsRow b e s (.slice A n c) n xs) (h' : w.ownsRow b' e' s' (.slice B m d) m ys) (hne : e' ≠ e) (hg : w.grownBy w' (A.map Addr.block)) : w'.ownsRow b' e' s' (.slice B m d) m ys := by
  refine h'.kept hg ?_
  cases hA : A with
  | none => exact own_none _
  | some ad =>
    rcases h.2 with ⟨h1, _⟩ | ⟨g, cap, cur, h1, _, h3, _⟩
    · rw [hA] at h1
      injection h1 with h1
      cases h1
    · rw [hA] at h1
      injection h1 with h1
      injection h1 with h1
      subst h1
      exact own_off h' h3 hne
theorem SpO.app {w w' : World} {base b n c : Nat} {A : Option Addr} {zs : List Value} {x : Sp} (h : SpO w base x) (ho : w.ownsRow b 27 7 (.slice A n c) n zs) (hg : w.grownBy w' (A.map Addr.block)) : SpO w' base x :=
  ⟨own_otherT ho h.oa (by decide) hg, own_otherT ho h.ob (by decide) hg, h.ok, h.nm⟩
theorem OpsO.app {w w' : World} {base n c m d : Nat} {A B : Option Addr} {xs ys : List Sp} (h : OpsO w base A n c xs) (hy : ∀ y ∈ ys, SpO w base y) (ho : w'.ownsRow base 27 7 (.slice B m d) m (rowO xs ++ rowO ys)) (hg : w.grownBy w' (A.map Addr.block)) : OpsO w' base B m d (xs ++ ys) := by
  refine ⟨by rw [← rowO_append]; exact ho, fun x hx => ?_⟩
  rcases List.mem_append.1 hx with hx | hx
  · exact (h.rows x hx).app h.own hg
  · exact (hy x hx).app h.own hg
theorem rowO_single (x : Sp) : rowO [x] = spC x := by simp [rowO]
theorem lit_sp (w : World) (x : Sp) : Rd (w.alloc (.cells (spA x) 27)) (some ⟨w.heap.size, 0, none⟩) (rowO [x]) := by
  rw [rowO_single]
  exact (own_rowT 1 (World.ownsRow_lit (base := 0) (e := 27) (size := 7) w (spA x) 1 (Nat.zero_le _) (by unfold maxLen; omega) rfl)).rd
theorem fault_any (A : Option Addr) (n c : Nat) (e : Int) (w : World) (hn : n ≤ 1000) : Calls Tryz.prog 27 #[.slice A n c, .int .i64 e] w fun r w' => r = .returned (.int .i64 (if e = 3 then (n : Int) + 1 else n)) ∧ w = w' := by
  by_cases h : e = 3
  · have e1 : (e == 3) = true := by simp [h]
    rw [if_pos h]
    clear h
    go_enter Tryz.func27, Tryz.ntmps27
    go_wp2
    go_ret
    exact ⟨rfl, rfl⟩
  · have e1 : (e == 3) = false := by simp [h]
    rw [if_neg h]
    clear h
    go_enter Tryz.func27, Tryz.ntmps27
    go_wp2
    go_ret
    exact ⟨rfl, rfl⟩
/-- What stands below base is kept, but for two blocks. -/
structure KeptBut (w w' : World) (base g1 g2 : Nat) : Prop where
  (os : w'.os = w.os) (tape : w'.tape = w.tape) (output : w'.output = w.output) (size : w.heap.size ≤ w'.heap.size) (block : ∀ g, g < base → g ≠ g1 → g ≠ g2 → w'.heap[g]? = w.heap[g]?)
theorem KeptBut.below {w0 w w' : World} {B base g1 g2 : Nat} (hb : Below B w0 w) (h : KeptBut w w' base g1 g2) (h0 : B ≤ base) (h1 : B ≤ g1) (h2 : B ≤ g2) : Below B w0 w' :=
  hb.trans ⟨h.os, h.tape, h.output, h.size, fun k hk => h.block k (by omega) (by omega) (by omega)⟩
theorem one_o (s : List UInt8) (w : World) (hl : s.length ≤ 262144) (hT : LaidT w) (E : Int) (O : Opx) (hE : oneL s = (E, O)) : Calls Tryz.prog 26 #[.string ⟨s.toArray⟩] w fun e w' =>
    ∃ x : Sp, e = .returned (.tuple #[.agg #[.int .i64 x.o.k, .int .i64 x.o.p, .int .i64 x.o.s, .int .i64 x.o.y, .string ⟨x.o.nm.toArray⟩, .slice x.A x.an x.ac, .slice x.B x.bn x.bc], .int .i64 E]) ∧ Hid (E = 0 → x.o = O) ∧ SpO w' w.heap.size x ∧ Below w.heap.size w w' := by
  refine (one_any s w hl hT).mono ?_
  rintro e w' ⟨x, rfl, h1, h2, h3⟩
  rw [hE] at h1 ⊢
  exact ⟨x, rfl, Lib.hid h1, h2, h3⟩
theorem next_full (base Bs Bo Bf : Nat) (s : List UInt8) (fr : Nat) (A : Option Addr) (c : Nat) (tt : Int) (w : World) (ho : w.heap[Bo]? = some (.cells #[.slice A 256 c] 22 (0, 0))) :
    Calls Tryz.prog 25 #[.int .i64 tt, .pointer (some ⟨Bo, 0, none⟩), .pointer (some ⟨Bs, 0, none⟩), .pointer (some ⟨Bf, 0, none⟩)] w fun e w' => e = .returned (.int .i64 3) ∧ w = w' := by
  have c1 := cell_of_one ho
  clear ho
  go_enter Tryz.func25, Tryz.ntmps25
  go_wp2
  go_ret
  exact ⟨rfl, rfl⟩
set_option maxRecDepth 20000 in
set_option maxHeartbeats 2000000 in
theorem next_any (base Bs Bo Bf : Nat) (s : List UInt8) (fr tt : Nat) (A : Option Addr) (n c : Nat) (xs : List Sp) (w : World) (h1 : Bs < base) (h2 : Bo < base) (h3 : Bf < base) (h4 : Bo ≠ Bf) (h5 : base ≤ w.heap.size)
    (hs : w.heap[Bs]? = some (.cells #[.string ⟨s.toArray⟩] 9 (0, 0))) (ho : w.heap[Bo]? = some (.cells #[.slice A n c] 22 (0, 0))) (hf : w.heap[Bf]? = some (.cells #[.int .i64 (fr : Int)] 3 (0, 0)))
    (hops : OpsO w base A n c xs) (hft : fr ≤ tt) (hts : tt ≤ s.length) (hsl : s.length ≤ 262144) (hn : n < 256) (hT : LaidT w) (E : Int) (O : Opx) (hE : oneL ((s.drop fr).take (tt - fr)) = (E, O)) :
    Calls Tryz.prog 25 #[.int .i64 (tt : Int), .pointer (some ⟨Bo, 0, none⟩), .pointer (some ⟨Bs, 0, none⟩), .pointer (some ⟨Bf, 0, none⟩)] w fun e w' => e = .returned (.int .i64 E) ∧ ∃ (x : Sp) (A' : Option Addr) (c' : Nat), Hid (E = 0 → x.o = O) ∧
      w'.heap[Bo]? = some (.cells #[.slice A' (n + 1) c'] 22 (0, 0)) ∧ w'.heap[Bf]? = some (.cells #[.int .i64 ((tt : Int) + 1)] 3 (0, 0)) ∧ OpsO w' base A' (n + 1) c' (xs ++ [x]) ∧ KeptBut w w' base Bo Bf := by
  have c1 := cell_of_one ho
  have c2 := cell_of_one hs
  have c3 := cell_of_one hf
  obtain ⟨l, hl⟩ : ∃ l, (s.drop fr).take (tt - fr) = l := ⟨_, rfl⟩
  rw [hl] at hE
  have hll : l.length ≤ 262144 := by rw [← hl, List.length_take, List.length_drop]; omega
  have hsl2 : ∀ wz : World, (Instr.slice 9 (.string ⟨s.toArray⟩) (some (.int .i64 (fr : Int))) (some (.int .i64 (tt : Int))) none).run Tryz.prog wz = .ok (.string ⟨l.toArray⟩) wz := fun wz => by
    rw [run_slice_string wz 9 ⟨s.toArray⟩ .i64 .i64 fr tt Tryz.underlying9 (by omega) (by omega) (by show (tt : Int) ≤ (s.length : Int); omega)]
    have : (⟨s.toArray⟩ : ByteArray).extract (fr : Int).toNat (tt : Int).toNat = ⟨l.toArray⟩ := by
      rw [← hl]
      apply ByteArray.ext
      simp [ByteArray.data_extract, List.extract_toArray, List.extract_eq_take_drop]
    rw [this]
  have HO := Lib.hid ho
  have HS := Lib.hid hs
  have HF := Lib.hid hf
  have HOPS := Lib.hid hops
  have HC := Lib.hid (one_o l w hll hT E O hE)
  clear ho hs hf hops hT hl hll hE
  go_enter Tryz.func25, Tryz.ntmps25
  go_upto_region 4 with (go_at_call 26; (with_reducible refine (HC.out).mono ?_); rintro e w2 ⟨x, rfl, HX, hso, hb2⟩; have HSO := Lib.hid hso; clear hso)
  have hi6 : (w2.alloc (.cells (spA x) 27)).heap[w2.heap.size]? = some (.cells (spA x) 27 (0, 0)) := heap_alloc_new w2 _
  have hb6 : Below w2.heap.size w2 (w2.alloc (.cells (spA x) 27)) := (Below.refl _ w2).alloc (Nat.le_refl _) _
  generalize w2.alloc _ = w3 at *
  have hb3 := below_nextT hb2 hb6
  have ho3 := blk_below HO.out hb3
  have hf3 := blk_below HF.out hb3
  have d1 := cell_of_one ho3
  obtain ⟨x0, x1, x2, x3, x4, x5, x6⟩ := seven_cells hi6
  have hb7 : Below w3.heap.size w3 (w3.alloc (.cells (spA x) 27)) := (Below.refl _ w3).alloc (Nat.le_refl _) _
  have B7 := below_nextT hb3 hb7
  have HOP7 := Lib.hid (HOPS.out.below B7)
  have HSO7 := Lib.hid ((((HSO.out.below hb6).below hb7)).mono h5)
  have ho7 := blk_below ho3 hb7
  have hf7 := blk_below hf3 hb7
  have hlit := Lib.hid (lit_sp w3 x)
  have hsz7 := B7.size
  have HO7 := Lib.hid ho7
  have HF7 := Lib.hid hf7
  have HS7 := Lib.hid hsz7
  clear ho7 hf7 hsz7
  go_wp2_with (at_builtin; (refine wpList_app slOp rfl _ _ rfl base A n c (rowO xs) rfl HOP7.out.own (some ⟨w3.heap.size, 0, none⟩) 1 1 (rowO [x]) rfl rfl hlit.out (rowO_one _) (by omega) (Nat.le_trans h5 HS7.out) ?_); intro A2 c2 w4 ho4 hg4 hA4; have HO4 := Lib.hid ho4; have hA := own_from HOP7.out.own; have hO4 := (hg4.block Bo (blk_in HO7.out) (fun e => by have := hA Bo (by first | exact e | exact e.symm); omega)).trans HO7.out; have hF4 := (hg4.block Bf (blk_in HF7.out) (fun e => by have := hA Bf (by first | exact e | exact e.symm); omega)).trans HF7.out; have k4 := cell_of_one hO4; have f4 := frozen_of_row w4 Bo 0 _ _ hO4; have hF5 := ((set_one w4 Bo 0 (.slice A2 (n + 1) c2)).block Bf (blk_in hF4) (fun e => by injection e with e; omega)).trans hF4; have k5 := cell_of_one hF5; have f5 := frozen_of_row _ Bf 0 _ _ hF5; have HH4 := Lib.hid hO4; have HF5 := Lib.hid hF5; clear ho4 hO4 hF4 hF5 hA)
  go_ret
  have g4 := set_one w4 Bo 0 (.slice A2 (n + 1) c2)
  have g5 := set_one (w4.setCell ⟨Bo, 0, none⟩ (.slice A2 (n + 1) c2)) Bf 0 (.int .i64 ((tt : Int) + 1))
  have hO5 := one_setCell (u := .slice A2 (n + 1) c2) HH4.out
  have hAA := own_from HOP7.out.own
  refine ⟨rfl, x, A2, c2, HX, (g5.block Bo (blk_in hO5) (fun e => by injection e with e; omega)).trans hO5, one_setCell HF5.out, ?_, ?_⟩
  · exact (((HOP7.out.app (ys := [x]) (fun y hy => by rw [List.mem_singleton.1 hy]; exact HSO7.out) HO4.out hg4).low g4 h2).low g5 h3)
  · refine ⟨g5.os.trans (g4.os.trans (hg4.os.trans B7.os)), g5.tape.trans (g4.tape.trans (hg4.tape.trans B7.tape)), g5.output.trans (g4.output.trans (hg4.output.trans B7.output)), Nat.le_trans B7.size (Nat.le_trans hg4.size (Nat.le_trans g4.size g5.size)), fun g hg hgo hgf => ?_⟩
    have z1 : g < w.heap.size := by omega
    have z2 := Nat.lt_of_lt_of_le z1 B7.size
    have z3 := Nat.lt_of_lt_of_le z2 hg4.size
    have z4 := Nat.lt_of_lt_of_le z3 g4.size
    have e1 := B7.block g z1
    have e2 := hg4.block g z2 (fun e => by have := hAA g (by first | exact e | exact e.symm); omega)
    have e3 := g4.block g z3 (fun e => by injection e with e; omega)
    have e4 := g5.block g z4 (fun e => by injection e with e; omega)
    exact e4.trans (e3.trans (e2.trans e1))
end Go.Proofs.YtaghecgjmkhpcaaGreatDoor
