/-
ReportGets: any bytes as a report, its length, or what is wrong first: as the document says. For all bytes.
-/
import Derived.Test.YtnkclbaeamcplaaFeed6
import Derived.Test.YtnkclbaeamcplaaRows
import Derived.Test.YtnkclbaeamcplaaFrame
namespace Go.Proofs.Ytnkclbaeamcplaa
set_option linter.unusedVariables false
set_option linter.unusedSimpArgs false
open Go Go.RowKit

theorem rgi_any (A : Option Addr) (n c : Nat) (l : List UInt8) (w : World) (h : Bts w A n c l) (hc : l.length < 4 ∨ byteN l 0 / 32 ≠ 4 ∨ knownB (byteN l 1) = true) :
    Calls Try.prog 44 #[.slice A n c] w fun e w' => RIpost l w e w' := by
  by_cases h4 : l.length < 4
  · exact rgi_short A n c l w h h4
  by_cases hv : byteN l 0 / 32 = 4
  · have hk : knownB (byteN l 1) = true := by rcases hc with hc | hc | hc; exact absurd hc h4; exact absurd hv hc; exact hc
    have hk2 : byteN l 1 = 200 ∨ byteN l 1 = 201 := by unfold knownB at hk; simp at hk; omega
    rcases hk2 with hk2 | hk2
    · exact rgi_200 A n c l w h (by omega) hv hk2
    · exact rgi_201 A n c l w h (by omega) hv hk2
  · exact rgi_form A n c l w h (by omega) hv
theorem rgi_v (l : List UInt8) (q : Itm) (N E : Int) (hq : getI l = q) (hN : N = (rightN l : Nat)) (hE : E = (rightE l : Nat)) (A : Option Addr) (n c : Nat) (w : World) (h : Bts w A n c l) (hc : l.length < 4 ∨ byteN l 0 / 32 ≠ 4 ∨ knownB (byteN l 1) = true) :
    Calls Try.prog 44 #[.slice A n c] w fun e w' => ∃ A k cA, e = .returned (.tuple #[.agg #[.int .i64 q.k, .int .u32 q.s, .int .u64 q.ntp, .int .u32 q.tm, .int .u32 q.pk, .int .u32 q.oc, .slice A k cA, .slice none 0 0, .int .u32 0, .slice none 0 0], .int .i64 N, .int .i64 E]) ∧
      Hid (w'.ownsRow w.heap.size 58 7 (.slice A k cA) k (rowK q.bl)) ∧ Below w.heap.size w w' := by
  subst hq hN hE
  exact rgi_any A n c l w h hc
theorem isrep_v (k : Int) (b : Bool) (hb : knownB k = b) (w : World) : Calls Try.prog 17 #[.int .i64 k] w fun e w' => e = .returned (.bool b) ∧ w = w' := by
  subst hb; exact isrep_any k w
set_option maxRecDepth 20000 in
set_option maxHeartbeats 2000000 in
theorem rgr_v (l : List UInt8) (q : Itm) (N E : Int) (hq : getI l = q) (hN : N = (rightN l : Nat)) (hE : E = (rightE l : Nat)) (A : Option Addr) (n c : Nat) (w : World) (h : Bts w A n c l) :
    Calls Try.prog 21 #[.slice A n c] w fun e w' => ∃ A k cA, e = .returned (.tuple #[.agg #[.int .i64 q.k, .int .u32 q.s, .int .u64 q.ntp, .int .u32 q.tm, .int .u32 q.pk, .int .u32 q.oc, .slice A k cA, .slice none 0 0, .int .u32 0, .slice none 0 0], .int .i64 N, .int .i64 E]) ∧
      Hid (w'.ownsRow w.heap.size 58 7 (.slice A k cA) k (rowK q.bl)) ∧ Below w.heap.size w w' := by
  have HB := Lib.hid h
  have hn := h.len
  have HQ := Lib.hid hq
  have HNN := Lib.hid hN
  have HEE := Lib.hid hE
  by_cases h4 : n < 4
  · have g4 : decide ((4 : Int) ≤ (n : Int)) = false := by simp; omega
    have g4' : decide (4 ≤ n) = false := by simp; omega
    have HCC : Hid (l.length < 4 ∨ byteN l 0 / 32 ≠ 4 ∨ knownB (byteN l 1) = true) := .inl (by omega)
    clear h hq hN hE h4
    go_enter Try.func21, Try.ntmps21
    go_wp2_with (first
      | (go_at_call 44; (with_reducible refine (rgi_v l q N E HQ.out HNN.out HEE.out _ n c _ (HB.out.below ((Below.refl _ _).alloc (Nat.le_refl _) _)) HCC.out).mono ?_); rintro e w7 ⟨A6, k6, c6, rfl, ho6, hb6⟩; have hres6 := blk_below (blk_alloc w _) hb6; have hb7 := ((Below.refl w.heap.size w).alloc (Nat.le_refl _) (.cells #[.int .i64 0, .int .u32 0, .int .u64 0, .int .u32 0, .int .u32 0, .int .u32 0, .slice none 0 0, .slice none 0 0, .int .u32 0, .slice none 0 0] 28)).trans (hb6.mono (by simp)))
      | (refine wpList_store_blk rfl 28 (.tmp 2) (.tmp 26) rfl w.heap.size _ #[.int .i64 q.k, .int .u32 q.s, .int .u64 q.ntp, .int .u32 q.tm, .int .u32 q.pk, .int .u32 q.oc, .slice A6 k6 c6, .slice none 0 0, .int .u32 0, .slice none 0 0] _ rfl rfl hres6 rfl (by kernel_rfl) (by simp [Value.oneCell']) ?_; intro w5 hi5 hg5; obtain ⟨r0, r1, r2, r3, r4, r5, r6, r7, r8, r9⟩ := ten_cells hi5))
    exact bodyPost_ret (v := .tuple #[.agg #[.int .i64 q.k, .int .u32 q.s, .int .u64 q.ntp, .int .u32 q.tm, .int .u32 q.pk, .int .u32 q.oc, .slice A6 k6 c6, .slice none 0 0, .int .u32 0, .slice none 0 0], .int .i64 N, .int .i64 E]) (by simp [results, Try.results21, go_sem, r0, r1, r2, r3, r4, r5, r6, r7, r8, r9]) rfl ⟨A6, k6, c6, rfl, own_mono (ho6.out.kept hg5 (own_off ho6.out hres6 (by decide))) (by simp), hb7.grown hg5 hb7.size (fun q hq => by injection hq with hq; omega)⟩
  have g4 : decide ((4 : Int) ≤ (n : Int)) = true := by simp; omega
  have g4' : decide (4 ≤ n) = true := by simp; omega
  by_cases hv : byteN l 0 / 32 = 4
  · skip
    obtain ⟨ad, rfl, hc0⟩ := bts_byte h (k := 0) (by omega)
    obtain ⟨ad', hA, hc1⟩ := bts_byte h (k := 1) (by omega)
    injection hA with hA; subst hA
    rw [add_zero'] at hc0
    have n0 : 0 < n := by omega
    have n1 : 1 < n := by omega
    have n1' : (1 : Int) < n := by omega
    have hy0 := byteN_lt l 0
    have hy1 := byteN_lt l 1
    have d0 : ∀ o, (w.alloc o).cell? ad = some (.int .u8 (byteN l 0)) := fun o => below_cell ((Below.refl w.heap.size w).alloc (Nat.le_refl _) o) hc0
    have d1 : ∀ o, (w.alloc o).cell? ⟨ad.block, ad.off + 1, none⟩ = some (.int .u8 (byteN l 1)) := fun o => below_cell ((Below.refl w.heap.size w).alloc (Nat.le_refl _) o) hc1
    have gv : (((byteN l 0 : Nat) : Int) / 32 == 4) = true := by simp; omega
    cases hk : knownB (byteN l 1)
    · have HKN := Lib.hid hk
      have hRE : rightE l = 4 := by unfold rightE; rw [if_neg (by omega), if_neg (by omega), if_pos hk]
      have hz : q = bareI 0 ∧ N = 0 ∧ E = 4 := ⟨by rw [← hq]; unfold getI; rw [if_pos (by rw [hRE]; decide)], by rw [hN]; unfold rightN; rw [if_neg (by rw [hRE]; decide)]; rfl, by rw [hE, hRE]; rfl⟩
      have HZ := Lib.hid hz
      clear h hq hN hE h4 hv hk hRE hz hc0 hc1
      go_enter Try.func21, Try.ntmps21
      go_wp2_with (first
        | (go_at_call 17; (with_reducible refine (isrep_v _ _ HKN.out _).mono ?_); rintro e w6 ⟨rfl, rfl⟩)
        | (refine wpList_store_blk rfl 28 (.tmp 2) (.tmp 23) rfl w.heap.size _ #[.int .i64 0, .int .u32 0, .int .u64 0, .int .u32 0, .int .u32 0, .int .u32 0, .slice none 0 0, .slice none 0 0, .int .u32 0, .slice none 0 0] _ rfl rfl (blk_alloc w _) rfl (by kernel_rfl) (by simp [Value.oneCell']) ?_; intro w5 hi5 hg5; obtain ⟨r0, r1, r2, r3, r4, r5, r6, r7, r8, r9⟩ := ten_cells hi5))
      have hb5 := (Below.refl w.heap.size w).alloc (Nat.le_refl _) (.cells #[.int .i64 0, .int .u32 0, .int .u64 0, .int .u32 0, .int .u32 0, .int .u32 0, .slice none 0 0, .slice none 0 0, .int .u32 0, .slice none 0 0] 28)
      exact bodyPost_ret (v := .tuple #[.agg #[.int .i64 0, .int .u32 0, .int .u64 0, .int .u32 0, .int .u32 0, .int .u32 0, .slice none 0 0, .slice none 0 0, .int .u32 0, .slice none 0 0], .int .i64 0, .int .i64 4]) (by simp [results, Try.results21, go_sem, r0, r1, r2, r3, r4, r5, r6, r7, r8, r9]) rfl ⟨none, 0, 0, by rw [HZ.out.1, HZ.out.2.1, HZ.out.2.2]; rfl, by rw [HZ.out.1]; exact World.ownsRow_nil _ _ _ _, hb5.grown hg5 hb5.size (fun q hq => by injection hq with hq; omega)⟩
    · have HKN := Lib.hid hk
      have HCC : Hid (l.length < 4 ∨ byteN l 0 / 32 ≠ 4 ∨ knownB (byteN l 1) = true) := .inr (.inr hk)
      clear h hq hN hE h4 hv hk hc0 hc1
      go_enter Try.func21, Try.ntmps21
      go_wp2_with (first
        | (go_at_call 17; (with_reducible refine (isrep_v _ _ HKN.out _).mono ?_); rintro e w6 ⟨rfl, rfl⟩)
        | (go_at_call 44; (with_reducible refine (rgi_v l q N E HQ.out HNN.out HEE.out _ n c _ (HB.out.below ((Below.refl _ _).alloc (Nat.le_refl _) _)) HCC.out).mono ?_); rintro e w7 ⟨A6, k6, c6, rfl, ho6, hb6⟩; have hres6 := blk_below (blk_alloc w _) hb6; have hb7 := ((Below.refl w.heap.size w).alloc (Nat.le_refl _) (.cells #[.int .i64 0, .int .u32 0, .int .u64 0, .int .u32 0, .int .u32 0, .int .u32 0, .slice none 0 0, .slice none 0 0, .int .u32 0, .slice none 0 0] 28)).trans (hb6.mono (by simp)))
        | (refine wpList_store_blk rfl 28 (.tmp 2) (.tmp 26) rfl w.heap.size _ #[.int .i64 q.k, .int .u32 q.s, .int .u64 q.ntp, .int .u32 q.tm, .int .u32 q.pk, .int .u32 q.oc, .slice A6 k6 c6, .slice none 0 0, .int .u32 0, .slice none 0 0] _ rfl rfl hres6 rfl (by kernel_rfl) (by simp [Value.oneCell']) ?_; intro w5 hi5 hg5; obtain ⟨r0, r1, r2, r3, r4, r5, r6, r7, r8, r9⟩ := ten_cells hi5))
      exact bodyPost_ret (v := .tuple #[.agg #[.int .i64 q.k, .int .u32 q.s, .int .u64 q.ntp, .int .u32 q.tm, .int .u32 q.pk, .int .u32 q.oc, .slice A6 k6 c6, .slice none 0 0, .int .u32 0, .slice none 0 0], .int .i64 N, .int .i64 E]) (by simp [results, Try.results21, go_sem, r0, r1, r2, r3, r4, r5, r6, r7, r8, r9]) rfl ⟨A6, k6, c6, rfl, own_mono (ho6.out.kept hg5 (own_off ho6.out hres6 (by decide))) (by simp), hb7.grown hg5 hb7.size (fun q hq => by injection hq with hq; omega)⟩
  · skip
    obtain ⟨ad, rfl, hc0⟩ := bts_byte h (k := 0) (by omega)
    obtain ⟨ad', hA, hc1⟩ := bts_byte h (k := 1) (by omega)
    injection hA with hA; subst hA
    rw [add_zero'] at hc0
    have n0 : 0 < n := by omega
    have n1 : 1 < n := by omega
    have n1' : (1 : Int) < n := by omega
    have hy0 := byteN_lt l 0
    have hy1 := byteN_lt l 1
    have d0 : ∀ o, (w.alloc o).cell? ad = some (.int .u8 (byteN l 0)) := fun o => below_cell ((Below.refl w.heap.size w).alloc (Nat.le_refl _) o) hc0
    have d1 : ∀ o, (w.alloc o).cell? ⟨ad.block, ad.off + 1, none⟩ = some (.int .u8 (byteN l 1)) := fun o => below_cell ((Below.refl w.heap.size w).alloc (Nat.le_refl _) o) hc1
    have gv : (((byteN l 0 : Nat) : Int) / 32 == 4) = false := by simp; omega
    have HCC : Hid (l.length < 4 ∨ byteN l 0 / 32 ≠ 4 ∨ knownB (byteN l 1) = true) := .inr (.inl hv)
    clear h hq hN hE h4 hv hc0 hc1
    go_enter Try.func21, Try.ntmps21
    go_wp2_with (first
      | (go_at_call 44; (with_reducible refine (rgi_v l q N E HQ.out HNN.out HEE.out _ n c _ (HB.out.below ((Below.refl _ _).alloc (Nat.le_refl _) _)) HCC.out).mono ?_); rintro e w7 ⟨A6, k6, c6, rfl, ho6, hb6⟩; have hres6 := blk_below (blk_alloc w _) hb6; have hb7 := ((Below.refl w.heap.size w).alloc (Nat.le_refl _) (.cells #[.int .i64 0, .int .u32 0, .int .u64 0, .int .u32 0, .int .u32 0, .int .u32 0, .slice none 0 0, .slice none 0 0, .int .u32 0, .slice none 0 0] 28)).trans (hb6.mono (by simp)))
      | (refine wpList_store_blk rfl 28 (.tmp 2) (.tmp 26) rfl w.heap.size _ #[.int .i64 q.k, .int .u32 q.s, .int .u64 q.ntp, .int .u32 q.tm, .int .u32 q.pk, .int .u32 q.oc, .slice A6 k6 c6, .slice none 0 0, .int .u32 0, .slice none 0 0] _ rfl rfl hres6 rfl (by kernel_rfl) (by simp [Value.oneCell']) ?_; intro w5 hi5 hg5; obtain ⟨r0, r1, r2, r3, r4, r5, r6, r7, r8, r9⟩ := ten_cells hi5))
    exact bodyPost_ret (v := .tuple #[.agg #[.int .i64 q.k, .int .u32 q.s, .int .u64 q.ntp, .int .u32 q.tm, .int .u32 q.pk, .int .u32 q.oc, .slice A6 k6 c6, .slice none 0 0, .int .u32 0, .slice none 0 0], .int .i64 N, .int .i64 E]) (by simp [results, Try.results21, go_sem, r0, r1, r2, r3, r4, r5, r6, r7, r8, r9]) rfl ⟨A6, k6, c6, rfl, own_mono (ho6.out.kept hg5 (own_off ho6.out hres6 (by decide))) (by simp), hb7.grown hg5 hb7.size (fun q hq => by injection hq with hq; omega)⟩
theorem sameItm_w (q : Itm) (hg : q.go = []) (hp : q.pr = []) (hm : q.me = 0) (A : Option Addr) (k cA : Nat) (A' : Option Addr) (k' cA' : Nat) (w : World) (h : Row w A k cA 7 28 (rowK q.bl)) (h' : Row w A' k' cA' 7 28 (rowK q.bl)) :
    Calls Try.prog 22 #[.agg #[.int .i64 q.k, .int .u32 q.s, .int .u64 q.ntp, .int .u32 q.tm, .int .u32 q.pk, .int .u32 q.oc, .slice A k cA, .slice none 0 0, .int .u32 0, .slice none 0 0], .agg #[.int .i64 q.k, .int .u32 q.s, .int .u64 q.ntp, .int .u32 q.tm, .int .u32 q.pk, .int .u32 q.oc, .slice A' k' cA', .slice none 0 0, .int .u32 0, .slice none 0 0]] w fun e w' => e = .returned (.bool true) ∧ Below w.heap.size w w' := by
  have hk : k' = k := by have h1 := h.len; have h2 := h'.len; omega
  subst hk
  have key := sameItm_any q A k' cA none 0 0 none 0 0 A' cA' none 0 none 0 w h (by rw [hg]; exact row_nil w 1 4) (by rw [hp]; exact row_nil w 2 4) h' (by rw [hg]; exact row_nil w 1 4) (by rw [hp]; exact row_nil w 2 4)
  rw [hm] at key
  exact key
theorem reget_v (l : List UInt8) (q : Itm) (N E : Int) (hq : getI l = q) (hN : N = (rightN l : Nat)) (hE : E = (rightE l : Nat)) (A : Option Addr) (n c : Nat) (w : World) (h : Bts w A n c l) :
    Calls Try.prog 20 #[.slice A n c] w fun e w' => ∃ A k cA, e = .returned (.tuple #[.agg #[.int .i64 q.k, .int .u32 q.s, .int .u64 q.ntp, .int .u32 q.tm, .int .u32 q.pk, .int .u32 q.oc, .slice A k cA, .slice none 0 0, .int .u32 0, .slice none 0 0], .int .i64 N, .int .i64 E]) ∧
      Hid (w'.ownsRow w.heap.size 58 7 (.slice A k cA) k (rowK q.bl)) ∧ Below w.heap.size w w' := by
  subst hq hN hE
  exact reget_any w A n c l h
set_option maxRecDepth 20000 in
set_option maxHeartbeats 2000000 in
theorem reportGets_walk (B : Option Addr) (n c : Nat) (l : List UInt8) (w : World) (b1 : l.length = n) (b2 : n ≤ c) (b3 : c ≤ maxLen) (b4 : n ≤ 140737488351232) (b5 : B = none → n = 0 ∧ c = 0) (b6 : Rd w B (bys l)) :
    Calls Try.prog 4 #[.slice B n c] w fun e w' => e = .returned (.bool true) ∧ Below w.heap.size w w' := by
  have HB : Hid (Bts w B n c l) := ⟨b1, b2, b3, b6⟩
  clear b1 b6 b5 b4 b3
  obtain ⟨q, hq⟩ : ∃ q, getI l = q := ⟨_, rfl⟩
  have HQ := Lib.hid hq
  have HP : Hid (q.go = [] ∧ q.pr = [] ∧ q.me = 0) := by
    show _ ∧ _ ∧ _
    rw [← hq]; unfold getI
    split
    · exact ⟨rfl, rfl, rfl⟩
    split <;> exact ⟨rfl, rfl, rfl⟩
  obtain ⟨N, hN⟩ : ∃ N : Nat, rightN l = N := ⟨_, rfl⟩
  have HN : Hid ((N : Int) = (rightN l : Nat)) := by show _ = _; rw [hN]
  obtain ⟨E, hE⟩ : ∃ E : Nat, rightE l = E := ⟨_, rfl⟩
  have HE : Hid ((E : Int) = (rightE l : Nat)) := by show _ = _; rw [hE]
  clear hq hN hE
  go_enter Try.func4, Try.ntmps4
  go_wp2_with (first
    | (go_at_call 14; (with_reducible refine (shown7_any _).mono ?_); rintro e w1 ⟨rfl, hb1⟩)
    | (go_at_call 20; (with_reducible refine (reget_v l q (N : Int) (E : Int) HQ.out HN.out HE.out B n c _ (HB.out.below hb1)).mono ?_); rintro e w2 ⟨A3, k3, c3, rfl, ho3, hb2⟩; have hb3 := hb1.trans (hb2.mono hb1.size); have hb4 := fun o => hb3.alloc hb3.size o; have HPx := Lib.hid (fun o => (own_row ho3.out).below ((Below.refl w2.heap.size w2).alloc (Nat.le_refl _) o)); have hit := fun o => blk_alloc w2 o)
    | (go_at_call 21; (with_reducible refine (rgr_v l q (N : Int) (E : Int) HQ.out HN.out HE.out B n c _ (HB.out.below (hb4 _))).mono ?_); rintro e w3 ⟨A4, k4, c4, rfl, ho4, hb5⟩; have hb6 := (hb4 _).trans (hb5.mono (hb4 _).size); have hb7 := fun o => hb6.alloc hb6.size o; have HPy := Lib.hid (fun o => ((HPx.out _).below hb5).below ((Below.refl w3.heap.size w3).alloc (Nat.le_refl _) o)); have HPz := Lib.hid (fun o => (own_row ho4.out).below ((Below.refl w3.heap.size w3).alloc (Nat.le_refl _) o)); have hit2 := blk_below (hit _) hb5; have hit3 := fun o => blk_below hit2 ((Below.refl w3.heap.size w3).alloc (Nat.le_refl _) o); have y0 := fun o => (ten_cells (hit3 o)).1; have y1 := fun o => (ten_cells (hit3 o)).2.1; have y2 := fun o => (ten_cells (hit3 o)).2.2.1; have y3 := fun o => (ten_cells (hit3 o)).2.2.2.1; have y4 := fun o => (ten_cells (hit3 o)).2.2.2.2.1; have y5 := fun o => (ten_cells (hit3 o)).2.2.2.2.2.1; have y6 := fun o => (ten_cells (hit3 o)).2.2.2.2.2.2.1; have y7 := fun o => (ten_cells (hit3 o)).2.2.2.2.2.2.2.1; have y8 := fun o => (ten_cells (hit3 o)).2.2.2.2.2.2.2.2.1; have y9 := fun o => (ten_cells (hit3 o)).2.2.2.2.2.2.2.2.2)
    | (go_at_call 22; (with_reducible refine (sameItm_w q HP.out.1 HP.out.2.1 HP.out.2.2 A3 k3 c3 A4 k4 c4 _ (HPy.out _) (HPz.out _)).mono ?_); rintro e w6 ⟨rfl, hb10⟩))
  go_ret
  exact ⟨rfl, (hb7 _).trans (hb10.mono (hb7 _).size)⟩
namespace reportGets
open Go.ChangeShapes Go.WideShapes Go.ChangeAt Go.RowKit
open Go.ChangeMaps (open_string shut_string)
set_option linter.unusedVariables false

theorem own : ownKnob Try.prog.godebug = none := by kernel_rfl
theorem laidOut : laidOutB Try.prog = true := by kernel_rfl

set_option maxRecDepth 100000 in
theorem lifted (os : Os) (started : os.Started) (H : Type) (enc : TypeId × Value → H) :
    ReturnsInHanded {} Try.checked os 4 .any (Rows.reportGetsSpec.pre6 enc Try.prog Try.f4 Rows.reportGetsRow.domain false) (Rows.reportGetsSpec.post enc Try.prog Try.f4 false true false false) := by
  refine returnsInHanded_of_change_sized (C := Try.checked) own started (by kernel_rfl) Try.func4
    (ChangeSpec.witness6 (enc := enc) (C := Try.checked) false ⟨#[], #[.slice none 0 0], []⟩ 8 (by kernel_rfl) (by kernel_rfl) (by kernel_rfl) (by kernel_rfl)) ?_
  intro W base args ds gs before hval0 hW hcnd hsz0 _
  have hsz : (DataW.weightsEach Try.prog (Try.f4.params.toList ++ Rows.reportGetsSpec.plain.varTypes Try.prog) (ds ++ gs)).all (· ≤ reachBytes) = true := hsz0
  have hval : ∀ (j : Nat) t v, Try.f4.params[j]? = some t → args[j]? = some v → Value.okWide Try.prog W .any base t v := hval0
  have hW' := hW
  obtain ⟨p, q, hA0, hV, rfl, hfz, hnd⟩ := hW
  have hA : DataW.TrodAll enc Try.prog W 0 (fun _ => true) true Try.f4.params.toList args.toList ds p := hA0
  rw [Try.params4] at hA hval hsz
  obtain ⟨v0, vs0, d0, ds0, p0, q0, hargs, rfl, rfl, h0, r0⟩ := trodAll_cons hA
  obtain ⟨rfl, rfl, rfl⟩ := trodAll_nil r0
  obtain rfl : args = #[v0] := by cases args; simp_all
  obtain ⟨rfl, rfl⟩ := trodVars_none hV
  obtain ⟨a0, len0, cap0, rfl⟩ := okWide_slice Try.underlying30 (hval 0 30 v0 rfl rfl)
  have k0 := h0
  have lt0 : ∀ x ∈ p0, x.block < W.heap.size := by obtain ⟨m, hm⟩ := k0; exact DataW.trod_lt m _ _ _ hm
  obtain ⟨l0, n0, nc0, cm0, nl0, rd0, hl0⟩ : ∃ l : List UInt8, l.length = len0 ∧ len0 ≤ cap0 ∧ cap0 ≤ maxLen ∧ (a0 = none → len0 = 0 ∧ cap0 = 0) ∧ Rd W a0 (bys l) ∧ (len0 = 0 ∨ ∃ es sp, d0 = .slice es sp ∧ es.length = len0) := by
    obtain ⟨fuel, hf⟩ := h0
    exact open_byte_slice Try.underlying30 Try.underlying5 (by kernel_rfl) hf
  have hb0 : len0 * 1 ≤ 140737488351232 := reach_slice hsz (j := 0) rfl rfl Try.underlying30 (by kernel_rfl) hl0
  rw [Nat.mul_one] at hb0
  clear hA0 hval0 hsz0
  refine (reportGets_walk a0 len0 cap0 l0 W n0 nc0 cm0 hb0 nl0 rd0).mono fun e W' ⟨he, bel⟩ => ?_
  subst he
  exact ⟨_, rfl, _, _, _, [], _, [], hW', trodAll_mk1 (shut_bool Try.underlying4 _), (trodAll_cons_mk (Below.trod laidOut (by kernel_rfl) (of_decide_eq_true (by kernel_rfl)) k0 bel lt0) trodAll_mk0), rfl, bel.frame _, fun h => by cases h⟩

/-- The statement. -/
theorem proved : Rows.ReportGetsSaid :=
  OpenClaim.holds_of_wide 4 Try.f4 rfl rfl rfl rfl rfl rfl rfl ⟨rfl, rfl, rfl, rfl, rfl⟩ rfl rfl rfl rfl rfl (by kernel_rfl) Try.func4 (by kernel_rfl)
    (of_decide_eq_true (by kernel_rfl)) (by unfold Func.isWrapper; rw [if_neg (of_decide_eq_false (by kernel_rfl))]; exact ⟨rfl, rfl⟩)
    (fun os started H enc _ => lifted os started H enc)
#print axioms proved
end reportGets
end Go.Proofs.Ytnkclbaeamcplaa
