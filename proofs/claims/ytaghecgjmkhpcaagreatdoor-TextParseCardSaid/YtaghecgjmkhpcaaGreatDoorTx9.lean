/-
Rows of operations; Print of package text.
-/
import Derived.Test.YtaghecgjmkhpcaaGreatDoorTx8
namespace Go.Proofs.YtaghecgjmkhpcaaGreatDoor
set_option linter.unusedVariables false
set_option linter.unusedSimpArgs false
open Go Go.RowKit

/-- An operation with its two slices. -/
structure Sp where
  (o : Opx) (A : Option Addr) (an ac : Nat) (B : Option Addr) (bn bc : Nat)
abbrev spV (x : Sp) : Value := opA x.o.k x.o.p x.o.s x.o.y x.o.nm x.A x.an x.ac x.B x.bn x.bc
def spC (x : Sp) : List Value := [.int .i64 x.o.k, .int .i64 x.o.p, .int .i64 x.o.s, .int .i64 x.o.y, .string ⟨x.o.nm.toArray⟩, .slice x.A x.an x.ac, .slice x.B x.bn x.bc]
def rowO (l : List Sp) : List Value := l.flatMap spC
theorem rowO_length (l : List Sp) : (rowO l).length = l.length * 7 := by
  induction l with
  | nil => rfl
  | cons b l ih => rw [rowO, List.flatMap_cons, List.length_append, ← rowO, ih]; simp [spC]; omega
theorem rowO_drop (l : List Sp) (k : Nat) : (rowO l).drop (k * 7) = rowO (l.drop k) := by
  induction l generalizing k with
  | nil => simp [rowO]
  | cons b l ih =>
    rcases k with _ | k
    · simp
    · rw [List.drop_succ_cons, ← ih k, rowO, List.flatMap_cons, ← rowO, show (k + 1) * 7 = (spC b).length + k * 7 by simp [spC]; omega, List.drop_append]
      simp
theorem rowO_at (l : List Sp) (k j : Nat) (h : k < l.length) (hj : j < 7) : (rowO l)[k * 7 + j]? = (spC l[k])[j]? := by
  rw [← List.getElem?_drop, rowO_drop, List.drop_eq_getElem_cons h, rowO, List.flatMap_cons, List.getElem?_append_left (by simp [spC]; exact hj)]
theorem rowO_append (l m : List Sp) : rowO l ++ rowO m = rowO (l ++ m) := by simp [rowO]
theorem spC_one (b : Sp) : ∀ u ∈ spC b, u.oneCell' = true := by
  intro u hu
  simp only [spC, List.mem_cons, List.not_mem_nil, or_false] at hu
  rcases hu with rfl | rfl | rfl | rfl | rfl | rfl | rfl <;> rfl
theorem rowO_one (l : List Sp) : ∀ u ∈ rowO l, u.oneCell' = true := by
  intro u hu
  obtain ⟨b, _, h⟩ := List.mem_flatMap.1 hu
  exact spC_one b u h
/-- The seven cells of an operation. -/
theorem rd_sp {w : World} {A : Option Addr} {l : List Sp} (h : Rd w A (rowO l)) {k : Nat} (hk : k < l.length) : ∃ ad, A = some ad ∧
    w.cell? (ad.add (k * 7)) = some (.int .i64 l[k].o.k) ∧ w.cell? ⟨(ad.add (k * 7)).block, (ad.add (k * 7)).off + 1, none⟩ = some (.int .i64 l[k].o.p) ∧ w.cell? ⟨(ad.add (k * 7)).block, (ad.add (k * 7)).off + 2, none⟩ = some (.int .i64 l[k].o.s) ∧
    w.cell? ⟨(ad.add (k * 7)).block, (ad.add (k * 7)).off + 3, none⟩ = some (.int .i64 l[k].o.y) ∧ w.cell? ⟨(ad.add (k * 7)).block, (ad.add (k * 7)).off + 4, none⟩ = some (.string ⟨l[k].o.nm.toArray⟩) ∧
    w.cell? ⟨(ad.add (k * 7)).block, (ad.add (k * 7)).off + 5, none⟩ = some (.slice l[k].A l[k].an l[k].ac) ∧ w.cell? ⟨(ad.add (k * 7)).block, (ad.add (k * 7)).off + 6, none⟩ = some (.slice l[k].B l[k].bn l[k].bc) := by
  obtain ⟨ad, rfl, h0⟩ := h (k * 7) _ (rowO_at l k 0 hk (by omega))
  have hc : ∀ j u, (spC l[k])[j + 1]? = some u → j + 1 < 7 → w.cell? ⟨(ad.add (k * 7)).block, (ad.add (k * 7)).off + (j + 1), none⟩ = some u := fun j u hu hj => by
    obtain ⟨ad', he, hc⟩ := h (k * 7 + (j + 1)) u (by rw [rowO_at l k (j + 1) hk hj]; exact hu)
    injection he with he; subst he; exact fld_at hc
  exact ⟨ad, rfl, h0, hc 0 _ rfl (by omega), hc 1 _ rfl (by omega), hc 2 _ rfl (by omega), hc 3 _ rfl (by omega), hc 4 _ rfl (by omega), hc 5 _ rfl (by omega)⟩
/-- An operation's two rows. -/
structure SpR (w : World) (x : Sp) : Prop where
  (ra : Row w x.A x.an x.ac 1 4 (u32s x.o.ss)) (rb : Row w x.B x.bn x.bc 1 1 (bys x.o.bs)) (ok : ssOk x.o) (nm : x.o.nm.length ≤ 140737488351232)
theorem SpR.below {w w' : World} {x : Sp} (h : SpR w x) (hb : Below w.heap.size w w') : SpR w' x := ⟨h.ra.below hb, h.rb.below hb, h.ok, h.nm⟩
/-- A slice of operations. -/
structure Ops (w : World) (A : Option Addr) (n c : Nat) (xs : List Sp) : Prop where
  (len : xs.length = n) (nc : n ≤ c) (cm : c ≤ maxLen) (rd : Rd w A (rowO xs)) (rows : ∀ x ∈ xs, SpR w x)
theorem Ops.below {w w' : World} {A : Option Addr} {n c : Nat} {xs : List Sp} (h : Ops w A n c xs) (hb : Below w.heap.size w w') : Ops w' A n c xs := ⟨h.len, h.nc, h.cm, h.rd.below hb, fun x hx => (h.rows x hx).below hb⟩
def opl (xs : List Sp) : List Opx := xs.map Sp.o
theorem opl_length (xs : List Sp) : (opl xs).length = xs.length := by simp [opl]
theorem Ops.sok {w : World} {A : Option Addr} {n c : Nat} {xs : List Sp} (h : Ops w A n c xs) : ∀ q ∈ opl xs, ssOk q := by
  intro q hq
  obtain ⟨x, hx, rfl⟩ := List.mem_map.1 hq
  exact (h.rows x hx).ok
theorem line_o (x : Sp) (w : World) (hm : mayO x.o = true) (hr : SpR w x) (hT : LaidT w) :
    Calls Tryz.prog 22 #[spV x] w fun e w' => e = .returned (.string ⟨(lineL x.o).toArray⟩) ∧ Below w.heap.size w w' := by
  obtain ⟨⟨k, p, s, y, nm, ss, bs⟩, A, an, ac, B, bn, bc⟩ := x
  have hk : 1 ≤ k ∧ k ≤ 12 := by
    have := may_cases hm
    dsimp only at this
    omega
  obtain ⟨n, rfl⟩ := Int.eq_ofNat_of_zero_le (show 0 ≤ k by omega)
  exact line_any n p s y nm ss bs A an ac B bn bc w hm hr.ok hr.ra hr.rb hT
theorem may_o (x : Sp) (w : World) (hr : SpR w x) : Calls Tryz.prog 6 #[spV x] w fun e w' => e = .returned (.bool (mayO x.o)) ∧ Below w.heap.size w w' :=
  may_any x.o x.A x.an x.ac x.B x.bn x.bc w (by have := hr.nm; omega) hr.ra hr.rb
theorem lines_len : ∀ l : List Opx, (∀ q ∈ l, mayO q = true) → (l.flatMap lineL).length ≤ 1101 * l.length
  | [], _ => by simp
  | q :: l, h => by
    have ih := lines_len l fun r hr => h r (by simp [hr])
    have := (join_line_len (h q (by simp))).1
    rw [List.flatMap_cons, List.length_append, List.length_cons]
    unfold lineL at ih ⊢
    rw [List.length_append, List.length_singleton]
    omega
theorem isb_below {T e : TypeId} {B b : Nat} {bs : List Value} {w w' : World} (h : Lib.IsBuilder T e B b bs w) (hb : Below w.heap.size w w') : Lib.IsBuilder T e B b bs w' :=
  h.elim (fun ⟨h1, v, h2, h3, h4⟩ => .inl ⟨h1, v, blk_below h2 hb, h3.kept (own_below hb) (own_none _), h4⟩) (fun ⟨h1, v, h2, h3, h4⟩ => .inr ⟨h1, v, blk_below h2 hb, h3.kept (own_below hb) (own_none _), h4⟩)
theorem opl_take_succ {xs : List Sp} {j : Nat} (h : j < xs.length) : opl (xs.take (j + 1)) = opl (xs.take j) ++ [xs[j].o] := by
  rw [List.take_succ_eq_append_getElem h, opl, List.map_append]
  rfl
set_option maxRecDepth 20000 in
set_option maxHeartbeats 1000000 in
theorem print_any (A : Option Addr) (n c : Nat) (xs : List Sp) (w : World) (h : Ops w A n c xs) (hT : LaidT w) :
    Calls Tryz.prog 8 #[.slice A n c] w fun e w' => e = .returned (.string ⟨(printL (opl xs)).toArray⟩) ∧ Below w.heap.size w w' := by
  have HO := Lib.hid h
  have HT := Lib.hid hT
  have hl := h.len
  have hnc := h.nc
  have hcm := h.cm
  unfold maxLen at hcm
  have HL := Lib.hid hl
  clear h hT hl
  by_cases hn : n ≤ 256
  · have e1 : decide (256 < n) = false := decide_eq_false (by omega)
    go_enter Tryz.func8, Tryz.ntmps8
    go_wp2
    go_loopw [11] (fun i wr => ∃ j : Nat, i = .int .i64 j ∧ j ≤ n ∧ Below w.heap.size w wr ∧ Hid (∀ q ∈ opl (xs.take j), mayO q = true) ∧ Lib.IsBuilder 42 5 w.heap.size w.heap.size (Lib.byteCells ((opl (xs.take j)).flatMap lineL)) wr) (fun i _ => n - (intOf i).toNat)
    case atStart => exact ⟨0, rfl, Nat.zero_le _, (Below.refl _ w).alloc (Nat.le_refl _) _, Lib.hid (by simp [opl]), Lib.fresh_isBuilder _ _ w⟩
    case round =>
      obtain ⟨j, rfl, hjn, hbr, HMY, hB⟩ := hrel
      have HB := Lib.hid hB
      clear hB
      by_cases hlt : j < n
      · have hj : j < xs.length := by rw [HL.out]; exact hlt
        obtain ⟨ad, rfl, c0, c1, c2, c3, c4, c5, c6⟩ := rd_sp (HO.out.rd.below hbr) hj
        obtain ⟨x, hx⟩ : ∃ x, xs[j] = x := ⟨_, rfl⟩
        have hxr : SpR w x := by rw [← hx]; exact HO.out.rows _ (List.getElem_mem hj)
        rw [hx] at c0 c1 c2 c3 c4 c5 c6
        have HX := Lib.hid hx
        have HR := Lib.hid hxr
        clear hx hxr
        go_upto_region 7 with fail
        have hi1 : (wr.alloc (.cells #[.int .i64 x.o.k, .int .i64 x.o.p, .int .i64 x.o.s, .int .i64 x.o.y, .string ⟨x.o.nm.toArray⟩, .slice x.A x.an x.ac, .slice x.B x.bn x.bc] 27)).heap[wr.heap.size]? = some (.cells #[.int .i64 x.o.k, .int .i64 x.o.p, .int .i64 x.o.s, .int .i64 x.o.y, .string ⟨x.o.nm.toArray⟩, .slice x.A x.an x.ac, .slice x.B x.bn x.bc] 27 (0, 0)) := heap_alloc_new wr _
        have hb1 : Below wr.heap.size wr (wr.alloc (.cells #[.int .i64 x.o.k, .int .i64 x.o.p, .int .i64 x.o.s, .int .i64 x.o.y, .string ⟨x.o.nm.toArray⟩, .slice x.A x.an x.ac, .slice x.B x.bn x.bc] 27)) := (Below.refl _ wr).alloc (Nat.le_refl _) _
        generalize wr.alloc _ = w1 at *
        have HB1 := Lib.hid (isb_below HB.out hb1)
        have hbw1 := hbr.trans (hb1.mono hbr.size)
        have HR1 := Lib.hid (HR.out.below hbw1)
        obtain ⟨x0, x1, x2, x3, x4, x5, x6⟩ := seven_cells hi1
        cases hm : mayO x.o with
        | false =>
          have HMX := Lib.hid hm
          have e0 : printL (opl xs) = [] := by
            unfold printL
            rw [if_neg]
            rintro ⟨_, h2⟩
            have := List.all_eq_true.1 h2 x.o (List.mem_map.2 ⟨x, by rw [← HX.out]; exact List.getElem_mem hj, rfl⟩)
            rw [HMX.out] at this
            cases this
          have E0 := Lib.hid e0
          clear e0
          go_wp2_with (go_at_call 6; (with_reducible refine (may_o x _ HR1.out).mono ?_); rintro e w3 ⟨rfl, hb3⟩; have hm' := HMX.out; rw [hm'])
          go_ret
          rw [E0.out]
          exact ⟨rfl, hbw1.trans (hb3.mono hbw1.size)⟩
        | true =>
          have HMX := Lib.hid hm
          clear hm
          have hlen : (Lib.byteCells ((opl (xs.take j)).flatMap lineL)).length ≤ 1101 * 256 := by
            have h1 := lines_len _ HMY.out
            rw [opl_length, List.length_take] at h1
            have : (Lib.byteCells ((opl (xs.take j)).flatMap lineL)).length = ((opl (xs.take j)).flatMap lineL).length := by simp [Lib.byteCells]
            omega
          have hll : (⟨(lineL x.o).toArray⟩ : ByteArray).size ≤ 1101 := by
            have := (join_line_len HMX.out).1
            have e : (⟨(lineL x.o).toArray⟩ : ByteArray).size = (lineL x.o).length := rfl
            rw [e]
            unfold lineL
            rw [List.length_append, List.length_singleton]
            omega
          have HLL := Lib.hid hll
          clear hll
          go_wp2_with (first
            | (go_at_call 6; (with_reducible refine (may_o x _ HR1.out).mono ?_); rintro e w3 ⟨rfl, hb3⟩; have hm' := HMX.out; rw [hm']; have hi3 := blk_below hi1 hb3; obtain ⟨z0, z1, z2, z3, z4, z5, z6⟩ := seven_cells hi3; have HR3 := Lib.hid (HR1.out.below hb3); have HB3 := Lib.hid (isb_below HB1.out hb3); have hbw3 := hbw1.trans (hb3.mono hbw1.size))
            | (go_at_call 22; (with_reducible refine (line_o x _ HMX.out HR3.out (HT.out.below hbw3)).mono ?_); rintro e w4 ⟨rfl, hb4⟩; have HB4 := Lib.hid (isb_below HB3.out hb4); have hbw4 := hbw3.trans (hb4.mono hbw3.size))
            | (go_at_call 21; (refine (Tryz.Builder_WriteString w.heap.size w.heap.size _ _ _ HB4.out (by have := HLL.out; omega) hbw4.size).mono ?_); rintro e w5 ⟨rfl, hb5, hbl5⟩))
          refine ⟨⟨j + 1, rfl, by omega, hbw4.trans hbl5, ?_, Or.inr ?_⟩, by simp [intOf]; omega⟩
          · refine Lib.hid ?_
            intro q hq
            rw [opl_take_succ (by rw [HL.out]; exact hlt), HX.out] at hq
            rcases List.mem_append.1 hq with hq | hq
            · exact HMY.out q hq
            · rw [List.mem_singleton.1 hq]
              exact HMX.out
          · rw [opl_take_succ (by rw [HL.out]; exact hlt), HX.out, List.flatMap_append]
            have es : Lib.strCells ⟨(lineL x.o).toArray⟩ = Lib.byteCells (lineL x.o) := rfl
            rw [es] at hb5
            simpa [Lib.byteCells] using hb5
      · have hjn' : j = n := by omega
        subst hjn'
        have e : xs.take j = xs := List.take_of_length_le (by rw [HL.out]; exact Nat.le_refl _)
        have e2 : printL (opl xs) = (opl xs).flatMap lineL := by
          refine print_yes (by rw [opl_length, HL.out]; exact hn) ?_
          have := HMY.out
          rwa [e] at this
        have HB2 := HB.out
        rw [e, ← e2] at HB2
        have HB3 := Lib.hid HB2
        clear HB2 e e2
        go_wp2_with (go_at_call 23; refine (Tryz.Builder_String_any w.heap.size w.heap.size (printL (opl xs)) _ HB3.out hbr.size).mono ?_; rintro e w1 ⟨rfl, hbl1⟩)
        go_ret
        exact ⟨rfl, hbr.trans hbl1⟩
  · have e1 : decide (256 < n) = true := decide_eq_true (by omega)
    have e0 : printL (opl xs) = [] := by
      unfold printL
      rw [if_neg]
      rw [opl_length, HL.out]
      rintro ⟨h1, _⟩
      exact hn h1
    rw [e0]
    clear e0
    go_enter Tryz.func8, Tryz.ntmps8
    go_wp2
    go_ret
    exact ⟨rfl, Below.refl _ _⟩
end Go.Proofs.YtaghecgjmkhpcaaGreatDoor
