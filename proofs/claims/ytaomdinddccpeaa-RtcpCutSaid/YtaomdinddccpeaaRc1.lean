/-
Rows of items in memory. What size, counts and May of package rtcp tell.
-/
import Derived.Test.YtaomdinddccpeaaRep1
import Derived.Test.YtaomdinddccpeaaItsN
import Derived.Test.YtaomdinddccpeaaApp
import Derived.Test.YtaomdinddccpeaaField2
namespace Go.Proofs.Ytaomdinddccpeaa
set_option linter.unusedVariables false
set_option linter.unusedSimpArgs false
open Go Go.RowKit

/-- An item with its three slices. -/
structure Sl where
  (i : Itm) (A : Option Addr) (n c : Nat) (G : Option Addr) (gn gc : Nat) (P : Option Addr) (pn pc : Nat)
def slV (x : Sl) : List Value := [.int .i64 x.i.k, .int .u32 x.i.s, .int .u64 x.i.ntp, .int .u32 x.i.tm, .int .u32 x.i.pk, .int .u32 x.i.oc, .slice x.A x.n x.c, .slice x.G x.gn x.gc, .int .u32 x.i.me, .slice x.P x.pn x.pc]
def rowI (l : List Sl) : List Value := l.flatMap slV
theorem rowI_length (l : List Sl) : (rowI l).length = l.length * 10 := by
  induction l with
  | nil => rfl
  | cons b l ih => rw [rowI, List.flatMap_cons, List.length_append, ← rowI, ih]; simp [slV]; omega
theorem rowI_drop (l : List Sl) (k : Nat) : (rowI l).drop (k * 10) = rowI (l.drop k) := by
  induction l generalizing k with
  | nil => simp [rowI]
  | cons b l ih =>
    rcases k with _ | k
    · simp
    · rw [List.drop_succ_cons, ← ih k, rowI, List.flatMap_cons, ← rowI, show (k + 1) * 10 = (slV b).length + k * 10 by simp [slV]; omega, List.drop_append]
      simp
theorem rowI_at (l : List Sl) (k j : Nat) (h : k < l.length) (hj : j < 10) : (rowI l)[k * 10 + j]? = (slV l[k])[j]? := by
  rw [← List.getElem?_drop, rowI_drop, List.drop_eq_getElem_cons h, rowI, List.flatMap_cons, List.getElem?_append_left (by simp [slV]; exact hj)]
theorem rowI_snoc (l : List Sl) (b : Sl) : rowI (l ++ [b]) = rowI l ++ slV b := by simp [rowI]
theorem slV_one (b : Sl) : ∀ u ∈ slV b, u.oneCell' = true := by
  intro u hu
  simp only [slV, List.mem_cons, List.not_mem_nil, or_false] at hu
  rcases hu with rfl | rfl | rfl | rfl | rfl | rfl | rfl | rfl | rfl | rfl <;> rfl
/-- The ten cells of an item. -/
theorem rd_sl {w : World} {A : Option Addr} {l : List Sl} (h : Rd w A (rowI l)) {k : Nat} (hk : k < l.length) : ∃ ad, A = some ad ∧
    w.cell? (ad.add (k * 10)) = some (.int .i64 l[k].i.k) ∧ w.cell? ⟨(ad.add (k * 10)).block, (ad.add (k * 10)).off + 1, none⟩ = some (.int .u32 l[k].i.s) ∧ w.cell? ⟨(ad.add (k * 10)).block, (ad.add (k * 10)).off + 2, none⟩ = some (.int .u64 l[k].i.ntp) ∧
    w.cell? ⟨(ad.add (k * 10)).block, (ad.add (k * 10)).off + 3, none⟩ = some (.int .u32 l[k].i.tm) ∧ w.cell? ⟨(ad.add (k * 10)).block, (ad.add (k * 10)).off + 4, none⟩ = some (.int .u32 l[k].i.pk) ∧
    w.cell? ⟨(ad.add (k * 10)).block, (ad.add (k * 10)).off + 5, none⟩ = some (.int .u32 l[k].i.oc) ∧ w.cell? ⟨(ad.add (k * 10)).block, (ad.add (k * 10)).off + 6, none⟩ = some (.slice l[k].A l[k].n l[k].c) ∧
    w.cell? ⟨(ad.add (k * 10)).block, (ad.add (k * 10)).off + 7, none⟩ = some (.slice l[k].G l[k].gn l[k].gc) ∧ w.cell? ⟨(ad.add (k * 10)).block, (ad.add (k * 10)).off + 8, none⟩ = some (.int .u32 l[k].i.me) ∧
    w.cell? ⟨(ad.add (k * 10)).block, (ad.add (k * 10)).off + 9, none⟩ = some (.slice l[k].P l[k].pn l[k].pc) := by
  obtain ⟨ad, rfl, h0⟩ := h (k * 10) _ (rowI_at l k 0 hk (by omega))
  have hc : ∀ j u, (slV l[k])[j + 1]? = some u → j + 1 < 10 → w.cell? ⟨(ad.add (k * 10)).block, (ad.add (k * 10)).off + (j + 1), none⟩ = some u := fun j u hu hj => by
    obtain ⟨ad', he, hc⟩ := h (k * 10 + (j + 1)) u (by rw [rowI_at l k (j + 1) hk hj]; exact hu)
    injection he with he; subst he; exact fld_at hc
  exact ⟨ad, rfl, h0, hc 0 _ rfl (by omega), hc 1 _ rfl (by omega), hc 2 _ rfl (by omega), hc 3 _ rfl (by omega), hc 4 _ rfl (by omega), hc 5 _ rfl (by omega), hc 6 _ rfl (by omega), hc 7 _ rfl (by omega), hc 8 _ rfl (by omega)⟩
/-- An item's three rows. -/
structure SlR (w : World) (x : Sl) : Prop where
  (ra : Row w x.A x.n x.c 7 28 (rowK x.i.bl)) (rg : Row w x.G x.gn x.gc 1 4 (u32s x.i.go)) (rp : Row w x.P x.pn x.pc 2 4 (rowP x.i.pr)) (ok : x.i.Ok)
theorem SlR.below {w w' : World} {x : Sl} (h : SlR w x) (hb : Below w.heap.size w w') : SlR w' x := ⟨h.ra.below hb, h.rg.below hb, h.rp.below hb, h.ok⟩
/-- A slice of items. -/
structure Its (w : World) (A : Option Addr) (n c : Nat) (xs : List Sl) : Prop where
  (len : xs.length = n) (nc : n ≤ c) (cm : c ≤ maxLen) (rd : Rd w A (rowI xs)) (rows : ∀ x ∈ xs, SlR w x)
theorem Its.below {w w' : World} {A : Option Addr} {n c : Nat} {xs : List Sl} (h : Its w A n c xs) (hb : Below w.heap.size w w') : Its w' A n c xs := ⟨h.len, h.nc, h.cm, h.rd.below hb, fun x hx => (h.rows x hx).below hb⟩
def itm (xs : List Sl) : List Itm := xs.map Sl.i
theorem itm_ok {w : World} {A : Option Addr} {n c : Nat} {xs : List Sl} (h : Its w A n c xs) : ∀ i ∈ itm xs, i.Ok := by
  intro i hi
  obtain ⟨x, hx, rfl⟩ := List.mem_map.1 hi
  exact (h.rows x hx).ok
theorem itm_len (xs : List Sl) : (itm xs).length = xs.length := by simp [itm]
theorem itm_take {xs : List Sl} {k : Nat} (h : k < xs.length) : itm (xs.take (k + 1)) = itm (xs.take k) ++ [xs[k].i] := by
  rw [List.take_succ_eq_append_getElem h, itm, List.map_append]; rfl
/-- How many bytes an item of a kind has with so many parts. -/
def szK (k : Int) (n : Nat) : Nat := if k = 203 then 4 + 4 * n else if k = 205 then 12 + 4 * n else 12
def countsB (i : Itm) : Bool :=
  if i.k = 203 then decide (1 ≤ i.go.length ∧ i.go.length ≤ 15 ∧ i.pr = [] ∧ i.s = 0 ∧ i.me = 0) else if i.k = 205 then decide (1 ≤ i.pr.length ∧ i.pr.length ≤ 16 ∧ i.go = []) else decide (i.k = 206 ∧ i.pr = [] ∧ i.go = [])
theorem counts_may {i : Itm} (hk : knownB i.k = false) : mayG i = (countsB i && decide (i.ntp = 0 ∧ i.tm = 0 ∧ i.pk = 0 ∧ i.oc = 0 ∧ i.bl = [])) := by
  have hk2 : i.k ≠ 200 ∧ i.k ≠ 201 := by
    simp only [knownB, decide_eq_false_iff_not] at hk
    omega
  rw [Bool.eq_iff_iff]
  unfold mayG bareG countsB
  rw [if_neg (by omega : ¬ (i.k = 200 ∨ i.k = 201))]
  by_cases c3 : i.k = 203
  · rw [if_pos c3, if_pos c3]
    simp only [Bool.and_eq_true, decide_eq_true_eq]
    constructor
    · rintro ⟨⟨h1, h2, h3, h4, h5, h6⟩, h7⟩
      refine ⟨⟨h7.1, h7.2, ?_, by omega, by omega⟩, by omega, by omega, by omega, by omega, ?_⟩
      · rcases h4 with h | h
        · omega
        · exact h
      · rcases h2 with h | h | h
        · omega
        · omega
        · exact h
    · rintro ⟨⟨h1, h2, h3, h4, h5⟩, h6, h7, h8, h9, h10⟩
      exact ⟨⟨.inr ⟨h6, h7, h8, h9⟩, .inr (.inr h10), .inl c3, .inr h3, .inr (.inr h5), .inr h4⟩, h1, h2⟩
  · rw [if_neg c3, if_neg c3]
    by_cases c5 : i.k = 205
    · rw [if_pos c5, if_pos c5]
      simp only [Bool.and_eq_true, decide_eq_true_eq]
      constructor
      · rintro ⟨⟨h1, h2, h3, h4, h5, h6⟩, h7⟩
        refine ⟨⟨h7.1, h7.2, ?_⟩, by omega, by omega, by omega, by omega, ?_⟩
        · rcases h3 with h | h
          · omega
          · exact h
        · rcases h2 with h | h | h
          · omega
          · omega
          · exact h
      · rintro ⟨⟨h1, h2, h3⟩, h6, h7, h8, h9, h10⟩
        exact ⟨⟨.inr ⟨h6, h7, h8, h9⟩, .inr (.inr h10), .inr h3, .inl c5, .inl c5, .inl c3⟩, h1, h2⟩
    · rw [if_neg c5, if_neg c5]
      simp only [Bool.and_eq_true, decide_eq_true_eq]
      constructor
      · rintro ⟨⟨h1, h2, h3, h4, h5, h6⟩, h7⟩
        refine ⟨⟨h7, ?_, ?_⟩, by omega, by omega, by omega, by omega, ?_⟩
        · rcases h4 with h | h
          · omega
          · exact h
        · rcases h3 with h | h
          · omega
          · exact h
        · rcases h2 with h | h | h
          · omega
          · omega
          · exact h
      · rintro ⟨⟨h1, h2, h3⟩, h6, h7, h8, h9, h10⟩
        exact ⟨⟨.inr ⟨h6, h7, h8, h9⟩, .inr (.inr h10), .inr h3, .inr h2, .inr (.inl h1), .inl c3⟩, h1⟩
set_option maxRecDepth 20000 in
set_option maxHeartbeats 4000000 in
theorem rcsize_any (k : Int) (n : Nat) (N Z : Int) (hN : N = n) (hZ : Z = (szK k n : Nat)) (w : World) (hn : n ≤ 1000000000000) : Calls Try.prog 74 #[.int .i64 k, .int .i64 N] w fun e w' => e = .returned (.int .i64 Z) ∧ w' = w := by
  subst hN
  have HZ := Lib.hid hZ
  clear hZ
  go_enter Try.func74, Try.ntmps74
  go_wp2
  all_goals
    go_ret
    refine ⟨?_, rfl⟩
    rw [HZ.out]
    go_tidy
    unfold szK
    simp_all
set_option maxRecDepth 20000 in
set_option maxHeartbeats 4000000 in
theorem counts_any (i : Itm) (A : Option Addr) (n c : Nat) (G : Option Addr) (gn gc : Nat) (P : Option Addr) (pn pc : Nat) (w : World) (hg : i.go.length = gn) (hp : i.pr.length = pn) :
    Calls Try.prog 54 #[.agg #[.int .i64 i.k, .int .u32 i.s, .int .u64 i.ntp, .int .u32 i.tm, .int .u32 i.pk, .int .u32 i.oc, .slice A n c, .slice G gn gc, .int .u32 i.me, .slice P pn pc]] w fun e w' => e = .returned (.bool (countsB i)) ∧ Below w.heap.size w w' := by
  obtain ⟨k, s, ntp, tm, pk, oc, bl, go, me, pr⟩ := i
  simp only at hg hp ⊢
  have hkk : k = 203 ∨ k = 205 ∨ ((k == 203) = false ∧ (k == 205) = false) := by
    by_cases h2 : k = 203
    · exact .inl h2
    by_cases h3 : k = 205
    · exact .inr (.inl h3)
    · exact .inr (.inr ⟨by simp [h2], by simp [h3]⟩)
  rcases hkk with rfl | rfl | ⟨h0, h1⟩
  all_goals
    go_enter Try.func54, Try.ntmps54
    go_wp2
    all_goals
      go_ret
      refine ⟨congrArg Ending.returned (congrArg Value.bool ?_), (Below.refl _ _).alloc (Nat.le_refl _) _⟩
      rw [Bool.eq_iff_iff]
      go_tidy
      simp_all [countsB, ← List.length_eq_zero_iff]
      try omega
set_option maxRecDepth 20000 in
set_option maxHeartbeats 4000000 in
theorem rcmay_any (i : Itm) (A : Option Addr) (n c : Nat) (G : Option Addr) (gn gc : Nat) (P : Option Addr) (pn pc : Nat) (w : World) (ra : Row w A n c 7 28 (rowK i.bl)) (rg : Row w G gn gc 1 4 (u32s i.go)) (rp : Row w P pn pc 2 4 (rowP i.pr)) :
    Calls Try.prog 32 #[.agg #[.int .i64 i.k, .int .u32 i.s, .int .u64 i.ntp, .int .u32 i.tm, .int .u32 i.pk, .int .u32 i.oc, .slice A n c, .slice G gn gc, .int .u32 i.me, .slice P pn pc]] w fun e w' => e = .returned (.bool (mayG i)) ∧ Below w.heap.size w w' := by
  have hg : i.go.length = gn := by have := rg.len; rw [u32s_length] at this; omega
  have hp : i.pr.length = pn := by have := rp.len; rw [rowP_length] at this; omega
  have hbl : i.bl.length = n := by have := ra.len; rw [rowK_length] at this; omega
  have HG := Lib.hid (And.intro hg hp)
  have HB := Lib.hid hbl
  have HR := Lib.hid ra
  have hX := blk_alloc w (.cells #[.int .i64 i.k, .int .u32 i.s, .int .u64 i.ntp, .int .u32 i.tm, .int .u32 i.pk, .int .u32 i.oc, .slice A n c, .slice G gn gc, .int .u32 i.me, .slice P pn pc] 64)
  have hwX := (Below.refl w.heap.size w).alloc (Nat.le_refl _) (.cells #[.int .i64 i.k, .int .u32 i.s, .int .u64 i.ntp, .int .u32 i.tm, .int .u32 i.pk, .int .u32 i.oc, .slice A n c, .slice G gn gc, .int .u32 i.me, .slice P pn pc] 64)
  clear ra rg rp hg hp hbl
  cases hk : knownB i.k
  · have HM := Lib.hid (counts_may hk)
    have k0 : (i.k == 200) = false := by simp only [knownB, decide_eq_false_iff_not] at hk; simp; omega
    have k1 : (i.k == 201) = false := by simp only [knownB, decide_eq_false_iff_not] at hk; simp; omega
    clear hk
    cases hc : countsB i
    · have HF : Hid (mayG i = false) := by show _ = _; rw [HM.out, hc]; rfl
      go_enter Try.func32, Try.ntmps32
      go_wp2_with (go_at_call 54; ((with_reducible refine (counts_any i A n c G gn gc P pn pc _ HG.out.1 HG.out.2).mono ?_); rintro e w1 ⟨rfl, hb1⟩; rw [hc]))
      go_ret
      exact ⟨by rw [HF.out]; rfl, hwX.trans (hb1.mono hwX.size)⟩
    · have HF : Hid (mayG i = decide (i.ntp = 0 ∧ i.tm = 0 ∧ i.pk = 0 ∧ i.oc = 0 ∧ n = 0)) := by
        show _ = _
        rw [HM.out, hc, Bool.true_and]
        congr 1
        rw [← HB.out, List.length_eq_zero_iff]
      go_enter Try.func32, Try.ntmps32
      go_wp2_with (go_at_call 54; ((with_reducible refine (counts_any i A n c G gn gc P pn pc _ HG.out.1 HG.out.2).mono ?_); rintro e w1 ⟨rfl, hb1⟩; rw [hc]; obtain ⟨x0, x1, x2, x3, x4, x5, x6, x7, x8, x9⟩ := row10_cells (blk_below hX hb1); have hw1 := hwX.trans (hb1.mono hwX.size)))
      all_goals
        go_ret
        refine ⟨congrArg Ending.returned (congrArg Value.bool ?_), hw1⟩
        rw [HF.out, Bool.eq_iff_iff]
        go_tidy
        simp_all
        try omega
  · have hM : Hid (mayG i = mayR i) := may_same hk
    have kk : i.k = 200 ∨ i.k = 201 := by simpa [knownB] using hk
    clear hk
    obtain ⟨k, s, ntp, tm, pk, oc, bl, go, me, pr⟩ := i
    simp only at HG HR HB kk hX hwX ⊢
    rcases kk with rfl | rfl
    all_goals
      go_enter Try.func32, Try.ntmps32
      go_wp2_with (go_at_call 53; ((with_reducible refine (may_any ⟨_, s, ntp, tm, pk, oc, bl, go, me, pr⟩ A n c G gn gc P pn pc _ (HR.out.below hwX) HG.out.1 HG.out.2).mono ?_); rintro e w1 ⟨rfl, hb1⟩))
      go_ret
      exact ⟨congrArg Ending.returned (congrArg Value.bool hM.out.symm), hwX.trans (hb1.mono hwX.size)⟩
end Go.Proofs.Ytaomdinddccpeaa
