/-
What the document's own GetDesc returns, said of cells.
What the document's own GetDesc returns of any bytes.
-/
import Derived.Test.YtknlkmencdlpcaaDesc
namespace Go.Proofs.Ytknlkmencdlpcaa
set_option linter.unusedVariables false
set_option linter.unusedSimpArgs false
set_option maxRecDepth 20000
open Go.RowKit

set_option maxHeartbeats 1000000 in
theorem rdget_short (A : Option Addr) (n c : Nat) (w : World) (h : n < 4) :
    Calls Try.prog 76 #[.slice A n c] w fun e w' => e = .returned (.tuple #[descV 0 false false 0, .int .i64 2]) ∧ Below w.heap.size w w' := by
  go_enter Try.func76, Try.ntmps76
  go_wp2
  exact bodyPost_ret (v := .tuple #[.agg #[.int .i64 0, .bool false, .bool false, .int .u16 0], .int .i64 2]) (by simp [results, Try.results76, go_sem]) rfl ⟨rfl, (Below.refl _ _).alloc (Nat.le_refl _) _⟩
/-- The bytes of a descriptor: none, if it may not be. -/
def dP (L : Int) (k s : Bool) (f : Nat) : List UInt8 := if mayD L then descL L.toNat k s f else []
theorem dP_yes {L : Int} {k s : Bool} {f : Nat} (h : mayD L = true) : dP L k s f = descL L.toNat k s f := by simp [dP, h]
theorem dP_no {L : Int} {k s : Bool} {f : Nat} (h : mayD L = false) : dP L k s f = [] := by simp [dP, h]
theorem descL_length (L : Nat) (k s : Bool) (f : Nat) : (descL L k s f).length = 4 := by simp [descL, enc_length]
theorem dput_any (L F : Int) (k s : Bool) (f : Nat) (w : World) (hF : F = f) (hf : f ≤ 65535) :
    Calls Try.prog 111 #[.agg #[.int .i64 L, .bool k, .bool s, .int .u16 F]] w fun e w' => ∃ A m c', e = .returned (.slice A m c') ∧ Hid (m = (dP L k s f).length) ∧
      w'.ownsRow w.heap.size 5 1 (.slice A m c') m (bys (dP L k s f)) ∧ Below w.heap.size w w' := by
  subst hF
  cases h : mayD L
  · refine (dput_no L k s f w h).mono ?_
    rintro e w' ⟨rfl, hb⟩
    exact ⟨none, 0, 0, rfl, by rw [dP_no h]; rfl, by rw [dP_no h]; exact World.ownsRow_nil _ _ _ _, hb⟩
  · simp [mayD] at h
    obtain ⟨L, rfl⟩ := Int.eq_ofNat_of_zero_le h.1
    have hh : mayD L = true := by simp [mayD]; omega
    refine (dput_yes L k s f w (by omega) hf).mono ?_
    rintro e w' ⟨A, c, rfl, ho, hb⟩
    exact ⟨A, 4, c, rfl, by rw [dP_yes hh, descL_length]; rfl, by rw [dP_yes hh]; exact ho, hb⟩
theorem rdput_any (L F : Int) (k s : Bool) (f : Nat) (w : World) (hF : F = f) (hf : f ≤ 65535) :
    Calls Try.prog 81 #[.agg #[.int .i64 L, .bool k, .bool s, .int .u16 F]] w fun e w' => ∃ A m c', e = .returned (.slice A m c') ∧ Hid (m = (dP L k s f).length) ∧
      w'.ownsRow w.heap.size 5 1 (.slice A m c') m (bys (dP L k s f)) ∧ Below w.heap.size w w' := by
  subst hF
  cases h : mayD L
  · refine (rdput_no L k s f w h).mono ?_
    rintro e w' ⟨rfl, hb⟩
    exact ⟨none, 0, 0, rfl, by rw [dP_no h]; rfl, by rw [dP_no h]; exact World.ownsRow_nil _ _ _ _, hb⟩
  · simp [mayD] at h
    obtain ⟨L, rfl⟩ := Int.eq_ofNat_of_zero_le h.1
    have hh : mayD L = true := by simp [mayD]; omega
    refine (rdput_yes L k s f w (by omega) hf).mono ?_
    rintro e w' ⟨A, c, rfl, ho, hb⟩
    exact ⟨A, 4, c, rfl, by rw [dP_yes hh, descL_length]; rfl, by rw [dP_yes hh]; exact ho, hb⟩
theorem two_descs (w : World) (o1 o2 : Obj) : Below w.heap.size w ((w.alloc o1).alloc o2).drew.drew ∧ ((w.alloc o1).alloc o2).drew.drew.heap[w.heap.size]? = some o1 ∧ ((w.alloc o1).alloc o2).drew.drew.heap[w.heap.size + 1]? = some o2 ∧ ((w.alloc o1).alloc o2).drew.drew.heap.size = w.heap.size + 2 := by
  have h1 : (w.alloc o1).heap.size = w.heap.size + 1 := by simp
  have b1 := (Below.refl (w.alloc o1).heap.size (w.alloc o1)).alloc (Nat.le_refl _) o2
  refine ⟨(((Below.refl _ _).alloc (Nat.le_refl _) _).alloc (by simp) _).drew.drew, ?_, ?_, ?_⟩
  · exact (b1.block w.heap.size (by omega)).trans (heap_alloc_new w o1)
  · have := heap_alloc_new (w.alloc o1) o2
    rw [h1] at this; exact this
  · show ((w.alloc o1).alloc o2).heap.size = _
    simp
theorem row4_cells {w : World} {g : Nat} {t : TypeId} {fr : Nat × Nat} {a b c d : Value} (h : w.heap[g]? = some (.cells #[a, b, c, d] t fr)) :
    w.cell? ⟨g, 0, none⟩ = some a ∧ w.cell? ⟨g, 1, none⟩ = some b ∧ w.cell? ⟨g, 2, none⟩ = some c ∧ w.cell? ⟨g, 3, none⟩ = some d := by
  refine ⟨?_, ?_, ?_, ?_⟩ <;> (rw [cell_of_row _ _ _ _ _ _ h]; rfl)
theorem frozen_row {w : World} {g j : Nat} {t : TypeId} {cs : Array Value} (h : w.heap[g]? = some (.cells cs t (0, 0))) : w.frozen? ⟨g, j, none⟩ = false := by
  simp [World.frozen?, h]
theorem row4_store {w : World} {g : Nat} {t : TypeId} {a b c d : Value} (h : w.heap[g]? = some (.cells #[a, b, c, d] t (0, 0))) (a' b' c' d' : Value) :
    (w.cell? ⟨g, 0, none⟩ = some a ∧ w.frozen? ⟨g, 0, none⟩ = false) ∧
    ((w.setCell ⟨g, 0, none⟩ a').cell? ⟨g, 1, none⟩ = some b ∧ (w.setCell ⟨g, 0, none⟩ a').frozen? ⟨g, 1, none⟩ = false) ∧
    (((w.setCell ⟨g, 0, none⟩ a').setCell ⟨g, 1, none⟩ b').cell? ⟨g, 2, none⟩ = some c ∧ ((w.setCell ⟨g, 0, none⟩ a').setCell ⟨g, 1, none⟩ b').frozen? ⟨g, 2, none⟩ = false) ∧
    ((((w.setCell ⟨g, 0, none⟩ a').setCell ⟨g, 1, none⟩ b').setCell ⟨g, 2, none⟩ c').cell? ⟨g, 3, none⟩ = some d ∧ (((w.setCell ⟨g, 0, none⟩ a').setCell ⟨g, 1, none⟩ b').setCell ⟨g, 2, none⟩ c').frozen? ⟨g, 3, none⟩ = false) ∧
    ((((w.setCell ⟨g, 0, none⟩ a').setCell ⟨g, 1, none⟩ b').setCell ⟨g, 2, none⟩ c').setCell ⟨g, 3, none⟩ d').heap[g]? = some (.cells #[a', b', c', d'] t (0, 0)) := by
  have h1 := heap_setCell_same w g 0 _ t a' h
  have h2 := heap_setCell_same _ g 1 _ t b' h1
  have h3 := heap_setCell_same _ g 2 _ t c' h2
  have h4 := heap_setCell_same _ g 3 _ t d' h3
  refine ⟨⟨?_, frozen_row h⟩, ⟨?_, frozen_row h1⟩, ⟨?_, frozen_row h2⟩, ⟨?_, frozen_row h3⟩, ?_⟩
  · rw [cell_of_row _ _ _ _ _ _ h]; rfl
  · rw [cell_of_row _ _ _ _ _ _ h1]; rfl
  · rw [cell_of_row _ _ _ _ _ _ h2]; rfl
  · rw [cell_of_row _ _ _ _ _ _ h3]; rfl
  · rw [h4]; rfl
theorem below_set4 {w w5 : World} (h : Below w.heap.size w w5) (i j k l : Nat) (a b c d : Value) : Below w.heap.size w ((((w5.setCell ⟨w.heap.size, i, none⟩ a).setCell ⟨w.heap.size, j, none⟩ b).setCell ⟨w.heap.size, k, none⟩ c).setCell ⟨w.heap.size, l, none⟩ d) :=
  (((h.setCell (p := ⟨w.heap.size, i, none⟩) (Nat.le_refl _) a).setCell (p := ⟨w.heap.size, j, none⟩) (Nat.le_refl _) b).setCell (p := ⟨w.heap.size, k, none⟩) (Nat.le_refl _) c).setCell (p := ⟨w.heap.size, l, none⟩) (Nat.le_refl _) d
theorem conv_rd4 {w : World} {A : Option Addr} {n c : Nat} {l : List UInt8} (hn : l.length = n) (hr : Rd w A (bys l)) : (convert 22 9 (.slice A n c)).run Try.prog w = .ok (.string ⟨l.toArray⟩) w :=
  conv_str Try.underlying22 Try.underlying5 Try.underlying9 w A n c l hn hr
set_option maxHeartbeats 1000000 in
theorem rdget_long (g : Addr) (n c : Nat) (l : List UInt8) (x y p q : UInt8) (w : World) (hn : l.length = n) (hnc : n ≤ c) (hcm : c ≤ maxLen) (hr : Rd w (some g) (bys l)) (h0 : w.cell? g = some (.int .u8 x.toNat))
    (h2 : w.cell? ⟨g.block, g.off + 2, none⟩ = some (.int .u8 p.toNat)) (h3 : w.cell? ⟨g.block, g.off + 3, none⟩ = some (.int .u8 q.toNat)) (h : 4 ≤ n)
    (L : Int) (k s : Bool) (f : Nat) (HL : IntKind.i64.wrap ((x.toNat : Int).tmod 4) = L) (HK : decide (128 ≤ (x.toNat : Int)) = k) (HS : ((IntKind.u8.wrap ((x.toNat : Int) / 64)).tmod 2 == 1) = s)
    (HF : IntKind.u16.wrap (IntKind.u16.wrap (IntKind.u16.wrap (p.toNat : Int) * 256) + IntKind.u16.wrap (q.toNat : Int)) = f) (hf : f ≤ 65535) (E : Bool) (hE : (dP L k s f == l.take 4) = E) :
    Calls Try.prog 76 #[.slice (some g) n c] w fun e w' => e = .returned (.tuple #[bif E then descV L k s f else descV 0 false false 0, .int .i64 (bif E then 0 else 1)]) ∧ Below w.heap.size w w' := by
  have hb1 := fun o => (Below.refl w.heap.size w).alloc (Nat.le_refl _) o
  have ha := fun o => below_cell (hb1 o) h0
  have hb := fun o => below_cell (hb1 o) h2
  have hc := fun o => below_cell (hb1 o) h3
  have hd : ∀ o, (w.alloc o).drew.cell? g = some (.int .u8 x.toNat) := fun o => ha o
  have hn0 : 0 < n := by omega
  have hc4 : 4 ≤ c := by omega
  have hd4 : (4 : Int) ≤ c := by omega
  have hn2 : 2 < n := by omega
  have hn3 : 3 < n := by omega
  have hm2 : (2 : Int) < n := by omega
  have hm3 : (3 : Int) < n := by omega
  have hr1 := fun o => hr.below (hb1 o)
  clear h0 h2 h3
  go_enter Try.func76, Try.ntmps76
  go_wp2
  have k0 := ha (.cells #[.int .i64 0, .bool false, .bool false, .int .u16 0] 109)
  have k2 := hb (.cells #[.int .i64 0, .bool false, .bool false, .int .u16 0] 109)
  have k3 := hc (.cells #[.int .i64 0, .bool false, .bool false, .int .u16 0] 109)
  go_region_held3 (fun w' => w'.cell? g = some (.int .u8 x.toNat) ∧ w'.cell? ⟨g.block, g.off + 2, none⟩ = some (.int .u8 p.toNat) ∧ w'.cell? ⟨g.block, g.off + 3, none⟩ = some (.int .u8 q.toNat)) (first | exact ⟨k0, k2, k3⟩ | go_keep) (first | fail)
  go_wp2
  refine region_plan (calmB_sound _) (.fork [0, 3, 4] (.leaf [5, 1, 2, 6]) (.leaf [1, 2, 5, 6])) (by kernel_rfl) (by kernel_rfl) (by kernel_rfl) ?_
  refine wpPlan_fork fun K hK => ?_
  simp only [List.filterMap_cons, List.filterMap_nil, List.getElem?_toArray, List.getElem?_cons_succ, List.getElem?_cons_zero]
  go_wp2
  refine hK _ _ ?_ ?_
  all_goals
    refine wpPlan_leaf fun K1 hK1 => ?_
    simp only [List.filterMap_cons, List.filterMap_nil, List.getElem?_toArray, List.getElem?_cons_succ, List.getElem?_cons_zero]
    obtain ⟨hb2, z2, d2, hs2⟩ := two_descs w (.cells #[.int .i64 0, .bool false, .bool false, .int .u16 0] 109) (.cells #[.int .i64 L, .bool k, .bool s, .int .u16 f] 109)
    generalize ((w.alloc (.cells #[.int .i64 0, .bool false, .bool false, .int .u16 0] 109)).alloc (.cells #[.int .i64 L, .bool k, .bool s, .int .u16 f] 109)).drew.drew = w2 at *
    have hv2 := conv_rd4 (c := c) (n := 4) (l := l.take 4) (by rw [List.length_take]; omega) (by rw [← bys_take]; exact (hr.below hb2).take 4)
    cases E
    · go_wp2_with (first
        | (go_at_call 81; (with_reducible refine (rdput_any L f k s f w2 rfl hf).mono ?_); rintro e w5 ⟨A5, m5, c5, rfl, HM5, hown5, hb5⟩; have hcv5 := conv_own hown5; have hb6 := hb2.trans (hb5.mono (by omega)); have hv5 := conv_rd4 (c := c) (n := 4) (l := l.take 4) (by rw [List.length_take]; omega) (by rw [← bys_take]; exact (hr.below hb6).take 4); have z5 := (hb5.block w.heap.size (by omega)).trans z2; obtain ⟨⟨s0, t0⟩, ⟨s1, t1⟩, ⟨s2, t2⟩, ⟨s3, t3⟩, s4⟩ := row4_store z5 (.int .i64 0) (.bool false) (.bool false) (.int .u16 0)))
      obtain ⟨r0, r1, r2, r3⟩ := row4_cells s4
      exact bodyPost_ret (v := .tuple #[.agg #[.int .i64 0, .bool false, .bool false, .int .u16 0], .int .i64 1]) (by simp [results, Try.results76, go_sem, r0, r1, r2, r3]) rfl ⟨rfl, below_set4 hb6 _ _ _ _ _ _ _ _⟩
    · go_wp2_with (first
        | (go_at_call 81; (with_reducible refine (rdput_any L f k s f w2 rfl hf).mono ?_); rintro e w5 ⟨A5, m5, c5, rfl, HM5, hown5, hb5⟩; have hcv5 := conv_own hown5; have hb6 := hb2.trans (hb5.mono (by omega)); have hv5 := conv_rd4 (c := c) (n := 4) (l := l.take 4) (by rw [List.length_take]; omega) (by rw [← bys_take]; exact (hr.below hb6).take 4); have z5 := (hb5.block w.heap.size (by omega)).trans z2; have d5 := (hb5.block (w.heap.size + 1) (by omega)).trans d2; obtain ⟨v0, v1, v2, v3⟩ := row4_cells d5; obtain ⟨⟨s0, t0⟩, ⟨s1, t1⟩, ⟨s2, t2⟩, ⟨s3, t3⟩, s4⟩ := row4_store z5 (.int .i64 L) (.bool k) (.bool s) (.int .u16 f)))
      obtain ⟨r0, r1, r2, r3⟩ := row4_cells s4
      exact bodyPost_ret (v := .tuple #[.agg #[.int .i64 L, .bool k, .bool s, .int .u16 f], .int .i64 0]) (by simp [results, Try.results76, go_sem, r0, r1, r2, r3]) rfl ⟨rfl, below_set4 hb6 _ _ _ _ _ _ _ _⟩

theorem four_bytes (l : List UInt8) (h : 4 ≤ l.length) : l.take 4 = [l[0], l[1], l[2], l[3]] := by
  rcases l with _ | ⟨a, _ | ⟨b, _ | ⟨c, _ | ⟨d, l⟩⟩⟩⟩ <;> simp at h ⊢
theorem getN_22 (l : List UInt8) (h : 4 ≤ l.length) : getN l 2 2 = 256 * l[2].toNat + l[3].toNat := by
  rcases l with _ | ⟨a, _ | ⟨b, _ | ⟨c, _ | ⟨d, l⟩⟩⟩⟩ <;> simp at h ⊢
  unfold getN
  rw [if_pos (by rw [withinB_iff]; simp; omega)]
  simp [part, beN]; omega
theorem enc_two (a b : UInt8) : enc 2 (256 * a.toNat + b.toNat) = [a, b] := by
  have h1 := UInt8.toNat_lt a
  have h2 := UInt8.toNat_lt b
  have e1 : UInt8.ofNat ((256 * a.toNat + b.toNat) / 256) = a := by rw [show (256 * a.toNat + b.toNat) / 256 = a.toNat by omega]; exact UInt8.ofNat_toNat
  have e2 : UInt8.ofNat (256 * a.toNat + b.toNat) = b := by
    apply UInt8.toNat_inj.1
    rw [UInt8.toNat_ofNat']; omega
  simp [enc, e1, e2]
end Go.Proofs.Ytknlkmencdlpcaa

namespace Go.Proofs.Ytknlkmencdlpcaa
set_option linter.unusedVariables false
set_option linter.unusedSimpArgs false
set_option maxRecDepth 20000
open Go.RowKit

theorem byte_vals : ∀ k : Nat, k < 256 → IntKind.i64.wrap ((k : Int).tmod 4) = ((k % 4 : Nat) : Int) ∧ decide (128 ≤ (k : Int)) = decide (128 ≤ k) ∧ ((IntKind.u8.wrap ((k : Int) / 64)).tmod 2 == 1) = decide (k / 64 % 2 = 1) := by
  have h : (List.range 256).all (fun k => decide (IntKind.i64.wrap ((k : Int).tmod 4) = ((k % 4 : Nat) : Int) ∧ decide (128 ≤ (k : Int)) = decide (128 ≤ k) ∧ ((IntKind.u8.wrap ((k : Int) / 64)).tmod 2 == 1) = decide (k / 64 % 2 = 1))) = true := by kernel_rfl
  intro k hk
  exact of_decide_eq_true (List.all_eq_true.1 h k (List.mem_range.2 hk))
theorem desc0_of : ∀ k : Nat, k < 256 → (desc0 (k % 4) (decide (128 ≤ k)) (decide (k / 64 % 2 = 1)) == UInt8.ofNat k) = decide (k / 4 % 16 = 0) := by
  have h : (List.range 256).all (fun k => (desc0 (k % 4) (decide (128 ≤ k)) (decide (k / 64 % 2 = 1)) == UInt8.ofNat k) == decide (k / 4 % 16 = 0)) = true := by kernel_rfl
  intro k hk
  exact eq_of_beq (List.all_eq_true.1 h k (List.mem_range.2 hk))
theorem dOk_is (l : List UInt8) (h : 4 ≤ l.length) :
    (dP ((l[0].toNat % 4 : Nat) : Int) (decide (128 ≤ l[0].toNat)) (decide (l[0].toNat / 64 % 2 = 1)) (256 * l[2].toNat + l[3].toNat) == l.take 4) = dOk l := by
  have i0 : l[0]?.getD 0 = l[0] := by rw [List.getElem?_eq_getElem (by omega)]; rfl
  have i1 : l[1]?.getD 0 = l[1] := by rw [List.getElem?_eq_getElem (by omega)]; rfl
  have hd := desc0_of l[0].toNat (UInt8.toNat_lt _)
  rw [UInt8.ofNat_toNat] at hd
  have hE : dOk l = decide (¬ (l[0].toNat / 4 % 16 ≠ 0 ∨ l[0].toNat % 4 = 3 ∨ l[1].toNat ≠ 90)) := by
    unfold dOk dE
    rw [if_neg (by omega), i0, i1]
    split <;> simp_all
  rw [hE, four_bytes l h]
  by_cases h3 : l[0].toNat % 4 = 3
  · have hm : mayD ((l[0].toNat % 4 : Nat) : Int) = false := by rw [h3]; rfl
    rw [dP_no hm]
    simp [h3]
  · have hm : mayD ((l[0].toNat % 4 : Nat) : Int) = true := by simp [mayD]; omega
    rw [dP_yes hm, Int.toNat_natCast]
    unfold descL
    rw [enc_two]
    have h1 : (90 : UInt8) = l[1] ↔ l[1].toNat = 90 := by
      rw [← UInt8.toNat_inj]; constructor <;> (intro h; simpa using h.symm)
    have hd2 : desc0 (l[0].toNat % 4) (decide (128 ≤ l[0].toNat)) (decide (l[0].toNat / 64 % 2 = 1)) = l[0] ↔ l[0].toNat / 4 % 16 = 0 := by
      constructor
      · intro he; rw [he] at hd; simpa using hd.symm
      · intro he; rw [he] at hd; simpa using hd
    rw [Bool.eq_iff_iff]
    simp [hd2, h1, h3]
theorem rdget_any (A : Option Addr) (n c : Nat) (l : List UInt8) (w : World) (hn : l.length = n) (hnc : n ≤ c) (hcm : c ≤ maxLen) (hr : Rd w A (bys l)) :
    Calls Try.prog 76 #[.slice A n c] w fun e w' => e = .returned (.tuple #[descV (dL l) (dK l) (dS l) (dF l), .int .i64 (dE l)]) ∧ Below w.heap.size w w' := by
  by_cases h : n < 4
  · have e : dE l = 2 := by unfold dE; rw [if_pos (by omega)]
    have eo : dOk l = false := by unfold dOk; rw [e]; rfl
    refine (rdget_short A n c w h).mono ?_
    rintro e w' ⟨rfl, hb⟩
    exact ⟨by simp [dL, dK, dS, dF, eo, e], hb⟩
  · have hlen : 4 ≤ l.length := by omega
    obtain ⟨ad, rfl, h0⟩ := RdB.at_ hr (k := 0) (by omega)
    obtain ⟨ad', hA, h2⟩ := RdB.at_ hr (k := 2) (by omega)
    injection hA with hA; subst hA
    obtain ⟨ad', hA, h3⟩ := RdB.at_ hr (k := 3) (by omega)
    injection hA with hA; subst hA
    rw [add_zero'] at h0
    have i0 : l[0]?.getD 0 = l[0] := by rw [List.getElem?_eq_getElem (by omega)]; rfl
    obtain ⟨b1, b2, b3⟩ := byte_vals l[0].toNat (UInt8.toNat_lt _)
    have g2 := UInt8.toNat_lt l[2]
    have g3 := UInt8.toNat_lt l[3]
    refine (rdget_long ad n c l l[0] 0 l[2] l[3] w hn hnc hcm hr h0 h2 h3 (by omega) _ _ _ (256 * l[2].toNat + l[3].toNat) b1 b2 b3 (by simp [IntKind.wrap, IntKind.bits, IntKind.signed]; omega) (by omega) (dOk l) (dOk_is l hlen)).mono ?_
    rintro e w' ⟨rfl, hb⟩
    refine ⟨?_, hb⟩
    have hv : dOk l = true → dE l = 0 := by unfold dOk; intro h; exact eq_of_beq h
    have hv1 : dOk l = false → dE l = 1 := by
      unfold dOk dE
      rw [if_neg (by omega)]
      split <;> simp
    cases ho : dOk l
    · rw [hv1 ho]; simp [dL, dK, dS, dF, ho]
    · rw [hv ho]; simp [dL, dK, dS, dF, ho, i0, getN_22 l hlen]
end Go.Proofs.Ytknlkmencdlpcaa
