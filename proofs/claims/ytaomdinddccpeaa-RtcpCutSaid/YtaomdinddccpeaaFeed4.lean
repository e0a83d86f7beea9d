/-
What Item and PutReport of package sluicegateref4 write.
-/
import Derived.Test.YtaomdinddccpeaaFeed3
namespace Go.Proofs.Ytaomdinddccpeaa
set_option linter.unusedVariables false
set_option linter.unusedSimpArgs false
open Go Go.RowKit

theorem headL_length (i : Itm) : (headL i).length ≤ 28 := by
  unfold headL
  split <;> split <;> split <;> simp [enc_length] <;> omega
theorem foursL_length (ns : List Nat) : (foursL ns).length = ns.length * 4 := by
  induction ns with
  | nil => rfl
  | cons x l ih => rw [foursL, List.flatMap_cons, List.length_append, ← foursL, ih, enc_length, List.length_cons]; omega
theorem prsL_length (l : List (Nat × Nat)) : (prsL l).length = l.length * 4 := by
  induction l with
  | nil => rfl
  | cons x l ih => rw [prsL, List.flatMap_cons, List.length_append, ← prsL, ih, List.length_append, enc_length, enc_length, List.length_cons]; omega
theorem bodyL_length {i : Itm} (h : Few i) : (bodyL i).length ≤ 600 := by
  unfold bodyL
  have h1 := headL_length i
  have h2 := h.bl
  have h3 := h.go
  have h4 := h.pr
  rw [List.length_append, List.length_append, List.length_append, blksL_length, foursL_length, prsL_length]
  omega
theorem lit_four (w : World) (a b c d : UInt8) (A B C D : Int) (hA : A = a.toNat) (hB : B = b.toNat) (hC : C = c.toNat) (hD : D = d.toNat) :
    (w.alloc (.cells #[.int .u8 A, .int .u8 B, .int .u8 C, .int .u8 D] 5)).ownsRow w.heap.size 5 1 (.slice (some ⟨w.heap.size, 0, none⟩) 4 4) 4 (bys [a, b, c, d]) := by
  subst hA hB hC hD
  exact World.ownsRow_lit (base := w.heap.size) (e := 5) (size := 1) w #[.int .u8 a.toNat, .int .u8 b.toNat, .int .u8 c.toNat, .int .u8 d.toNat] 4 (Nat.le_refl _) (by unfold maxLen; omega) rfl
theorem grown_b {w w2 w4 : World} {lit : Obj} (hb : Below w.heap.size w w2) (hg : (w2.alloc lit).grownBy w4 ((some (⟨w2.heap.size, 0, none⟩ : Addr)).map Addr.block)) : Below w.heap.size w w4 := by
  have h1 := hb.size
  have h2 := hb.alloc hb.size lit
  exact h2.grown hg h2.size (fun q hq => by simp at hq; omega)
set_option maxRecDepth 20000 in
set_option maxHeartbeats 4000000 in
theorem item_any (i : Itm) (A : Option Addr) (n c : Nat) (G : Option Addr) (gn gc : Nat) (P : Option Addr) (pn pc : Nat) (w : World) (ra : Row w A n c 7 28 (rowK i.bl)) (rg : Row w G gn gc 1 4 (u32s i.go)) (rp : Row w P pn pc 2 4 (rowP i.pr)) (ok : i.Ok) (hf : Few i) :
    Calls Try.prog 52 #[.agg #[.int .i64 i.k, .int .u32 i.s, .int .u64 i.ntp, .int .u32 i.tm, .int .u32 i.pk, .int .u32 i.oc, .slice A n c, .slice G gn gc, .int .u32 i.me, .slice P pn pc]] w fun e w' =>
      ∃ B m c', e = .returned (.slice B m c') ∧ Hid (m = (itemL i).length) ∧ w'.ownsRow w.heap.size 5 1 (.slice B m c') m (bys (itemL i)) ∧ Below w.heap.size w w' := by
  have hbl : i.bl.length = n := by have := ra.len; rw [rowK_length] at this; omega
  have hgl : i.go.length = gn := by have := rg.len; rw [u32s_length] at this; omega
  have n15 : n ≤ 15 := by have := hf.bl; omega
  have g15 : gn ≤ 15 := by have := hf.go; omega
  obtain ⟨k0, k255⟩ := hf.k
  have hbL := bodyL_length hf
  have HRA := Lib.hid ra
  have HRG := Lib.hid rg
  have HRP := Lib.hid rp
  have HO := Lib.hid ok
  have HF := Lib.hid hf
  have HC : Hid (countG i = if i.k = 205 ∨ i.k = 206 then 1 else n + gn) := by show _ = _; unfold countG; rw [hbl, hgl]
  clear ra rg rp ok hf hbl hgl
  have e56 : ((i.k == 205) = true ∧ countG i = 1) ∨ ((i.k == 205) = false ∧ (i.k == 206) = true ∧ countG i = 1) ∨ ((i.k == 205) = false ∧ (i.k == 206) = false ∧ countG i = n + gn) := by
    rw [HC.out]
    by_cases h5 : i.k = 205
    · exact .inl (by simp [h5])
    · by_cases h6 : i.k = 206
      · exact .inr (.inl (by simp [h6]))
      · exact .inr (.inr (by simp [h5, h6]))
  clear HC
  have hk8 : (i.k : Int) = (UInt8.ofNat i.k.toNat).toNat := by rw [UInt8.toNat_ofNat']; omega
  have HK8 := Lib.hid hk8
  clear hk8
  rcases e56 with ⟨e5, hc⟩ | ⟨e5, e6, hc⟩ | ⟨e5, e6, hc⟩
  all_goals
    have HCn := Lib.hid hc
    clear hc
    go_enter Try.func52, Try.ntmps52
    go_wp2_with (first
      | (go_at_call 75; (with_reducible refine (body_any i A n c G gn gc P pn pc _ (HRA.out.below ((Below.refl _ _).alloc (Nat.le_refl _) _)) (HRG.out.below ((Below.refl _ _).alloc (Nat.le_refl _) _)) (HRP.out.below ((Below.refl _ _).alloc (Nat.le_refl _) _)) HO.out HF.out).mono ?_); rintro e w2 ⟨B, m, c', rfl, hm, ho, hb⟩; have hit := blk_below (blk_alloc w _) hb; obtain ⟨x0, x1, x2, x3, x4, x5, x6, x7, x8, x9⟩ := ten_cells hit; have hb2 := ((Below.refl w.heap.size w).alloc (Nat.le_refl _) _).trans (hb.mono (by simp)); have hml : m ≤ 600 := (by rw [hm.out]; exact hbL); have hm8 : ((m : Int) / 4) = (UInt8.ofNat (m / 4)).toNat := (by rw [UInt8.toNat_ofNat']; omega); have HM8 := Lib.hid hm8; clear hm8; have HOB := Lib.hid ho; clear ho)
      | (at_builtin; refine wpList_app slU8 rfl _ _ rfl w2.heap.size (some ⟨w2.heap.size, 0, none⟩) 4 4 (bys [UInt8.ofNat (128 + countG i), UInt8.ofNat i.k.toNat, 0, UInt8.ofNat (m / 4)]) rfl (lit_four w2 _ _ _ _ _ _ _ _ (by rw [HCn.out]; first | rfl | (rw [UInt8.toNat_ofNat']; omega)) HK8.out rfl HM8.out) B m c' (bys (bodyL i)) rfl (by rw [bys_length, Nat.mul_one]; exact hm.out.symm) ((Rd.own HOB.out).below ((Below.refl _ _).alloc (Nat.le_refl _) _)) (bys_one _) (by omega) (by simp) ?_; intro A4 c4 w4 ho4 hg4 hA4; rw [bys_append] at ho4; have hb5 := grown_b hb2 hg4))
    go_ret
    have eI : [UInt8.ofNat (128 + countG i), UInt8.ofNat i.k.toNat, 0, UInt8.ofNat (m / 4)] ++ bodyL i = itemL i := by unfold itemL; rw [← hm.out]
    rw [eI] at ho4
    exact ⟨A4, 4 + m, c4, rfl, (by have := ho4.1; rw [bys_length] at this; show _ = _; omega), own_base ho4 hb2.size, hb5⟩
end Go.Proofs.Ytaomdinddccpeaa
