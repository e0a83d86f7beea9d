/-
Of of package sift, Sift of the reference: what bytes are, or what is wrong first.
Flat and Bytes of package sift, kind of law 10: what an event has, and its bytes.
Sift of the reference: what bytes are, or what is wrong first.
-/
import Derived.Test.YtknlkmencdlpcaaSf3
import Derived.Laws.ResultCell
namespace Go.Proofs.Ytknlkmencdlpcaa
set_option linter.unusedVariables false
set_option linter.unusedSimpArgs false
open Go Go.RowKit

/-- What is wrong first with a datagram. -/
def evE (l : List UInt8) : Int := if 512 < l.length then 5 else if l.length < 2 then 2 else if fbB (byteN l 1) then (getsE l : Nat) else mE l
theorem dget_z (A : Option Addr) (n c : Nat) (l : List UInt8) (dl : Int) (dk ds : Bool) (df Z : Int) (h1 : (dL l : Int) = dl) (h2 : dK l = dk) (h3 : dS l = ds) (h4 : (dF l : Int) = df) (h5 : dE l = Z) (w : World) (h : Bts w A n c l) :
    Calls Try.prog 74 #[.slice A n c] w fun e w' => e = .returned (.tuple #[.agg #[.int .i64 dl, .bool dk, .bool ds, .int .u16 df], .int .i64 Z]) ∧ Below w.heap.size w w' := by
  subst h1 h2 h3 h4 h5
  exact dget_w A n c l w h
theorem plG_q {l : List UInt8} (he : lookE l = 0) {q : Pkt} (hq : getP l = q) : plG l = q.pl := by
  have := (getP_f he).2.2.2
  rw [← hq, this]
theorem mE_yes {l : List UInt8} {q : Pkt} (hq : getP l = q) (he : lookE l = 0) : mE l = dE q.pl := by
  unfold mE; rw [if_pos he, plG_q he hq]
theorem fb_cases {k : Nat} (hf : fbB k = false) : (decide ((192 : Int) ≤ (k : Int)) = false) ∨ (decide ((192 : Int) ≤ (k : Int)) = true ∧ decide ((k : Int) ≤ 223) = false) := by
  unfold fbB at hf
  simp at hf ⊢
  omega
theorem fb_yes {k : Nat} (hf : fbB k = true) : decide ((192 : Int) ≤ (k : Int)) = true ∧ decide ((k : Int) ≤ 223) = true := by
  unfold fbB at hf
  simp at hf ⊢
  omega
abbrev dsA (dl : Int) (dk ds : Bool) (df : Int) : Value := .agg #[.int .i64 dl, .bool dk, .bool ds, .int .u16 df]
abbrev mdA (p : Pkt) (C : Option Addr) (cn cc : Nat) (E : Option Addr) (en ec : Nat) (L : Option Addr) (ln lc : Nat) (dl : Int) (dk ds : Bool) (df : Int) : Value := .agg #[.bool p.mr, .int .i64 p.ty, .int .u16 p.sq, .int .u32 p.tm, .int .u32 p.ss, .slice C cn cc, .bool p.hx, .int .u16 p.pf, .slice E en ec, .slice L ln lc, .int .i64 p.pad, .int .i64 dl, .bool dk, .bool ds, .int .u16 df]
abbrev zeroA : Value := .agg #[.bool false, .int .i64 0, .int .u16 0, .int .u32 0, .int .u32 0, .slice none 0 0, .bool false, .int .u16 0, .slice none 0 0, .slice none 0 0, .int .i64 0]
set_option maxRecDepth 20000 in
set_option maxHeartbeats 4000000 in
theorem of_no (l : List UInt8) (Z : Int) (hZ : evE l = Z) (hne : Z ≠ 0) (A : Option Addr) (n c : Nat) (w : World) (h : Bts w A n c l) :
    Calls Try.prog 67 #[.slice A n c] w fun e w' => e = .returned (.tuple #[.nilIface, .int .i64 Z]) ∧ Below w.heap.size w w' := by
  have hnl := h.len
  have hnc := h.nc
  have HB := Lib.hid h
  by_cases h5 : 512 < l.length
  · have e : Z = 5 := by rw [← hZ]; unfold evE; rw [if_pos h5]
    subst e
    have g : decide ((512 : Int) < (n : Int)) = true := by simp; omega
    clear hZ hne h
    go_enter Try.func67, Try.ntmps67
    go_wp2
    exact bodyPost_ret (v := .tuple #[.nilIface, .int .i64 5]) (by simp [results, Try.results67, go_sem]) rfl ⟨rfl, Below.refl _ _⟩
  · have g : decide ((512 : Int) < (n : Int)) = false := by simp; omega
    by_cases h2 : l.length < 2
    · have e : Z = 2 := by rw [← hZ]; unfold evE; rw [if_neg h5, if_pos h2]
      subst e
      have g2 : decide ((n : Int) < 2) = true := by simp; omega
      clear hZ hne h
      go_enter Try.func67, Try.ntmps67
      go_wp2
      exact bodyPost_ret (v := .tuple #[.nilIface, .int .i64 2]) (by simp [results, Try.results67, go_sem]) rfl ⟨rfl, Below.refl _ _⟩
    · have g2 : decide ((n : Int) < 2) = false := by simp; omega
      obtain ⟨ad, rfl, hc0⟩ := bts_byte h (k := 1) (by omega)
      have hc1 : w.cell? ⟨ad.block, ad.off + 1, none⟩ = some (.int .u8 (byteN l 1)) := hc0
      clear hc0
      have n1 : 1 < n := by omega
      have n1' : (1 : Int) < n := by omega
      cases hf : fbB (byteN l 1)
      · have hm : mE l = Z := by rw [← hZ]; unfold evE; rw [if_neg h5, if_neg h2, hf]; rfl
        obtain ⟨q, hq⟩ : ∃ q, getP l = q := ⟨_, rfl⟩
        have HQ := Lib.hid hq
        by_cases he : lookE l = 0
        · have HE : Hid ((0 : Int) = (lookE l : Nat)) := by show _ = _; rw [he]; rfl
          have hd : dE q.pl = Z := by rw [← mE_yes hq he]; exact hm
          have HD := Lib.hid hd
          have hz : (Z != 0) = true := by simpa using hne
          have hc := fb_cases hf
          clear hZ hne h hm hd hf hq he
          rcases hc with f1 | ⟨f1, f2⟩
          all_goals
            go_enter Try.func67, Try.ntmps67
            go_wp2_with (first
              | (go_at_call 72; (with_reducible refine (pget_row l q 0 HQ.out HE.out (some ad) n c _ HB.out).mono ?_); rintro e w1 ⟨C, cn, cc, E, en, ec, L, ln, lc, rfl, HP, hb1⟩; have hi1 := heap_alloc_new w1 (.cells #[.bool q.mr, .int .i64 q.ty, .int .u16 q.sq, .int .u32 q.tm, .int .u32 q.ss, .slice C cn cc, .bool q.hx, .int .u16 q.pf, .slice E en ec, .slice L ln lc, .int .i64 q.pad] 39); have hb1' := hb1.alloc hb1.size (.cells #[.bool q.mr, .int .i64 q.ty, .int .u16 q.sq, .int .u32 q.tm, .int .u32 q.ss, .slice C cn cc, .bool q.hx, .int .u16 q.pf, .slice E en ec, .slice L ln lc, .int .i64 q.pad] 39); have HP1 := Lib.hid (HP.out.below ((Below.refl w1.heap.size w1).alloc (Nat.le_refl _) (.cells #[.bool q.mr, .int .i64 q.ty, .int .u16 q.sq, .int .u32 q.tm, .int .u32 q.ss, .slice C cn cc, .bool q.hx, .int .u16 q.pf, .slice E en ec, .slice L ln lc, .int .i64 q.pad] 39))); obtain ⟨x0, x1, x2, x3, x4, x5, x6, x7, x8, x9, x10⟩ := eleven_cells hi1)
              | (go_at_call 74; (with_reducible refine (dget_z L ln lc q.pl _ _ _ _ Z rfl rfl rfl rfl HD.out _ (prow_bts HP1.out)).mono ?_); rintro e w2 ⟨rfl, hb2⟩))
            exact bodyPost_ret (v := .tuple #[.nilIface, .int .i64 Z]) (by simp [results, Try.results67, go_sem]) rfl ⟨rfl, (below_next hb1' hb2).alloc (below_next hb1' hb2).size _⟩
        · have e : (Z : Int) = (lookE l : Nat) := by rw [← hm]; unfold mE; rw [if_neg he]
          have HE := Lib.hid e
          have hz : (Z != 0) = true := by simpa using hne
          have hc := fb_cases hf
          clear hZ hne h hm hf hq he e
          rcases hc with f1 | ⟨f1, f2⟩
          all_goals
            go_enter Try.func67, Try.ntmps67
            go_wp2_with (first
              | (go_at_call 72; (with_reducible refine (pget_row l q Z HQ.out HE.out (some ad) n c _ HB.out).mono ?_); rintro e w1 ⟨C, cn, cc, E, en, ec, L, ln, lc, rfl, HP, hb1⟩; have hi1 := heap_alloc_new w1 (.cells #[.bool q.mr, .int .i64 q.ty, .int .u16 q.sq, .int .u32 q.tm, .int .u32 q.ss, .slice C cn cc, .bool q.hx, .int .u16 q.pf, .slice E en ec, .slice L ln lc, .int .i64 q.pad] 39); have hb1' := hb1.alloc hb1.size (.cells #[.bool q.mr, .int .i64 q.ty, .int .u16 q.sq, .int .u32 q.tm, .int .u32 q.ss, .slice C cn cc, .bool q.hx, .int .u16 q.pf, .slice E en ec, .slice L ln lc, .int .i64 q.pad] 39); have HP1 := Lib.hid (HP.out.below ((Below.refl w1.heap.size w1).alloc (Nat.le_refl _) (.cells #[.bool q.mr, .int .i64 q.ty, .int .u16 q.sq, .int .u32 q.tm, .int .u32 q.ss, .slice C cn cc, .bool q.hx, .int .u16 q.pf, .slice E en ec, .slice L ln lc, .int .i64 q.pad] 39))); obtain ⟨x0, x1, x2, x3, x4, x5, x6, x7, x8, x9, x10⟩ := eleven_cells hi1))
            exact bodyPost_ret (v := .tuple #[.nilIface, .int .i64 Z]) (by simp [results, Try.results67, go_sem]) rfl ⟨rfl, hb1'⟩
      · have hm : (Z : Int) = (getsE l : Nat) := by rw [← hZ]; unfold evE; rw [if_neg h5, if_neg h2, hf]; rfl
        have HE := Lib.hid hm
        have hz : (Z != 0) = true := by simpa using hne
        obtain ⟨f1, f2⟩ := fb_yes hf
        clear hZ hne h hm hf
        go_enter Try.func67, Try.ntmps67
        go_wp2_with (first
          | (go_at_call 34; (with_reducible refine (rcget_v (some ad) n c l _ HB.out _ Z _ HE.out rfl rfl).mono ?_); rintro e w1 ⟨A1, cA1, xs, rfl, HI, HO, hb1⟩))
        exact bodyPost_ret (v := .tuple #[.nilIface, .int .i64 Z]) (by simp [results, Try.results67, go_sem]) rfl ⟨rfl, hb1⟩
set_option maxRecDepth 20000 in
set_option maxHeartbeats 4000000 in
theorem of_fb (l : List UInt8) (is : List Itm) (k : Nat) (h5 : l.length ≤ 512) (h2 : 2 ≤ l.length) (hf : fbB (byteN l 1) = true) (hE : getsE l = 0) (hi : getsL l = is) (hk : is.length = k) (A : Option Addr) (n c : Nat) (w : World) (h : Bts w A n c l) :
    Calls Try.prog 67 #[.slice A n c] w fun e w' => ∃ A' c' xs, e = .returned (.tuple #[.iface 127 (.agg #[.slice A' k c']), .int .i64 0]) ∧ Hid (itm xs = is) ∧ Hid (ItsO w' w.heap.size A' k c' xs) ∧ Below w.heap.size w w' := by
  have hnl := h.len
  have hnc := h.nc
  have HB := Lib.hid h
  have g : decide ((512 : Int) < (n : Int)) = false := by simp; omega
  have g2 : decide ((n : Int) < 2) = false := by simp; omega
  obtain ⟨ad, rfl, hc0⟩ := bts_byte h (k := 1) (by omega)
  have hc1 : w.cell? ⟨ad.block, ad.off + 1, none⟩ = some (.int .u8 (byteN l 1)) := hc0
  clear hc0
  have n1 : 1 < n := by omega
  have n1' : (1 : Int) < n := by omega
  obtain ⟨f1, f2⟩ := fb_yes hf
  have HE : Hid ((0 : Int) = (getsE l : Nat)) := by show _ = _; rw [hE]; rfl
  have HI := Lib.hid (And.intro hi hk)
  clear h h5 h2 hf hE hi hk
  go_enter Try.func67, Try.ntmps67
  go_wp2_with (first
    | (go_at_call 34; (with_reducible refine (rcget_v (some ad) n c l _ HB.out is 0 k HE.out HI.out.1 HI.out.2).mono ?_); rintro e w1 ⟨A1, cA1, xs, rfl, HX, HO, hb1⟩))
  exact bodyPost_ret (v := .tuple #[.iface 127 (.agg #[.slice A1 k cA1]), .int .i64 0]) (by simp [results, Try.results67, go_sem]) rfl ⟨A1, cA1, xs, rfl, HX, HO, hb1⟩
set_option maxRecDepth 20000 in
set_option maxHeartbeats 4000000 in
theorem of_md (l : List UInt8) (q : Pkt) (dl : Int) (dk ds : Bool) (df : Int) (hE : lookE l = 0) (hq : getP l = q) (hd : dE q.pl = 0) (h1 : (dL q.pl : Int) = dl) (h2 : dK q.pl = dk) (h3 : dS q.pl = ds) (h4 : (dF q.pl : Int) = df) (A : Option Addr) (n c : Nat) (w : World) (h : Bts w A n c l) :
    Calls Try.prog 67 #[.slice A n c] w fun e w' => ∃ C cn cc E en ec L ln lc, e = .returned (.tuple #[.iface 125 (mdA q C cn cc E en ec L ln lc dl dk ds df), .int .i64 0]) ∧ Hid (PRow w' q C cn cc E en ec L ln lc) ∧ Below w.heap.size w w' := by
  have hnl := h.len
  have hnc := h.nc
  have HB := Lib.hid h
  obtain ⟨k5, k2, _, hf, _⟩ := look_ok hE
  have g : decide ((512 : Int) < (n : Int)) = false := by simp; omega
  have g2 : decide ((n : Int) < 2) = false := by simp; omega
  obtain ⟨ad, rfl, hc0⟩ := bts_byte h (k := 1) (by omega)
  have hc1 : w.cell? ⟨ad.block, ad.off + 1, none⟩ = some (.int .u8 (byteN l 1)) := hc0
  clear hc0
  have n1 : 1 < n := by omega
  have n1' : (1 : Int) < n := by omega
  have hc := fb_cases hf
  have HE : Hid ((0 : Int) = (lookE l : Nat)) := by show _ = _; rw [hE]; rfl
  have HQ := Lib.hid hq
  have HD := Lib.hid (And.intro hd (And.intro h1 (And.intro h2 (And.intro h3 h4))))
  clear h hE hf hq hd h1 h2 h3 h4 k5 k2
  rcases hc with f1 | ⟨f1, f2⟩
  all_goals
    go_enter Try.func67, Try.ntmps67
    go_wp2_with (first
      | (go_at_call 72; (with_reducible refine (pget_row l q 0 HQ.out HE.out (some ad) n c _ HB.out).mono ?_); rintro e w1 ⟨C, cn, cc, E, en, ec, L, ln, lc, rfl, HP, hb1⟩; have hi1 := heap_alloc_new w1 (.cells #[.bool q.mr, .int .i64 q.ty, .int .u16 q.sq, .int .u32 q.tm, .int .u32 q.ss, .slice C cn cc, .bool q.hx, .int .u16 q.pf, .slice E en ec, .slice L ln lc, .int .i64 q.pad] 39); have hb1' := hb1.alloc hb1.size (.cells #[.bool q.mr, .int .i64 q.ty, .int .u16 q.sq, .int .u32 q.tm, .int .u32 q.ss, .slice C cn cc, .bool q.hx, .int .u16 q.pf, .slice E en ec, .slice L ln lc, .int .i64 q.pad] 39); have HP1 := Lib.hid (HP.out.below ((Below.refl w1.heap.size w1).alloc (Nat.le_refl _) (.cells #[.bool q.mr, .int .i64 q.ty, .int .u16 q.sq, .int .u32 q.tm, .int .u32 q.ss, .slice C cn cc, .bool q.hx, .int .u16 q.pf, .slice E en ec, .slice L ln lc, .int .i64 q.pad] 39))); obtain ⟨x0, x1, x2, x3, x4, x5, x6, x7, x8, x9, x10⟩ := eleven_cells hi1)
      | (go_at_call 74; (with_reducible refine (dget_z L ln lc q.pl dl dk ds df 0 HD.out.2.1 HD.out.2.2.1 HD.out.2.2.2.1 HD.out.2.2.2.2 HD.out.1 _ (prow_bts HP1.out)).mono ?_); rintro e w2 ⟨rfl, hb2⟩; have hi2 := blk_below hi1 hb2; have hj2 := heap_alloc_new w2 (.cells #[.int .i64 dl, .bool dk, .bool ds, .int .u16 df] 109); have hbD := (Below.refl w2.heap.size w2).alloc (Nat.le_refl _) (.cells #[.int .i64 dl, .bool dk, .bool ds, .int .u16 df] 109); have hi3 := blk_below hi2 hbD; obtain ⟨x0, x1, x2, x3, x4, x5, x6, x7, x8, x9, x10⟩ := eleven_cells hi3; obtain ⟨d0, d1, d2, d3⟩ := row4_cells hj2; clear hi1))
    exact bodyPost_ret (v := .tuple #[.iface 125 (mdA q C cn cc E en ec L ln lc dl dk ds df), .int .i64 0]) (by simp [results, Try.results67, go_sem]) rfl ⟨C, cn, cc, E, en, ec, L, ln, lc, rfl, (HP1.out.below hb2).below hbD, below_next (below_next hb1' hb2) hbD⟩
end Go.Proofs.Ytknlkmencdlpcaa

namespace Go.Proofs.Ytknlkmencdlpcaa
set_option linter.unusedVariables false
set_option linter.unusedSimpArgs false
open Go Go.RowKit

abbrev zeroM : Value := .agg #[.bool false, .int .i64 0, .int .u16 0, .int .u32 0, .int .u32 0, .slice none 0 0, .bool false, .int .u16 0, .slice none 0 0, .slice none 0 0, .int .i64 0, .int .i64 0, .bool false, .bool false, .int .u16 0]
theorem ta_m (v : Value) (w : World) : (Instr.typeAssert (.iface 125 v) 105 125 true).run Try.prog w = .ok (.tuple #[v, .bool true]) w := by kernel_rfl
theorem ta_mf (v : Value) (w : World) : (Instr.typeAssert (.iface 125 v) 105 127 true).run Try.prog w = .ok (.tuple #[.agg #[.slice none 0 0], .bool false]) w := by kernel_rfl
theorem ta_f (v : Value) (w : World) : (Instr.typeAssert (.iface 127 v) 105 127 true).run Try.prog w = .ok (.tuple #[v, .bool true]) w := by kernel_rfl
theorem ta_fm (v : Value) (w : World) : (Instr.typeAssert (.iface 127 v) 105 125 true).run Try.prog w = .ok (.tuple #[zeroM, .bool false]) w := by kernel_rfl
theorem ta_nm (w : World) : (Instr.typeAssert .nilIface 105 125 true).run Try.prog w = .ok (.tuple #[zeroM, .bool false]) w := by kernel_rfl
theorem ta_nf (w : World) : (Instr.typeAssert .nilIface 105 127 true).run Try.prog w = .ok (.tuple #[.agg #[.slice none 0 0], .bool false]) w := by kernel_rfl
theorem fifteen_cells {w : World} {g : Nat} {t : TypeId} {fr : Nat × Nat} {a0 a1 a2 a3 a4 a5 a6 a7 a8 a9 a10 a11 a12 a13 a14 : Value} (h : w.heap[g]? = some (.cells #[a0, a1, a2, a3, a4, a5, a6, a7, a8, a9, a10, a11, a12, a13, a14] t fr)) :
    w.cell? ⟨g, 0, none⟩ = some a0 ∧ w.cell? ⟨g, 1, none⟩ = some a1 ∧ w.cell? ⟨g, 2, none⟩ = some a2 ∧ w.cell? ⟨g, 3, none⟩ = some a3 ∧ w.cell? ⟨g, 4, none⟩ = some a4 ∧ w.cell? ⟨g, 5, none⟩ = some a5 ∧ w.cell? ⟨g, 6, none⟩ = some a6 ∧ w.cell? ⟨g, 7, none⟩ = some a7 ∧ w.cell? ⟨g, 8, none⟩ = some a8 ∧ w.cell? ⟨g, 9, none⟩ = some a9 ∧ w.cell? ⟨g, 10, none⟩ = some a10 ∧ w.cell? ⟨g, 11, none⟩ = some a11 ∧ w.cell? ⟨g, 12, none⟩ = some a12 ∧ w.cell? ⟨g, 13, none⟩ = some a13 ∧ w.cell? ⟨g, 14, none⟩ = some a14 := by
  refine ⟨?_, ?_, ?_, ?_, ?_, ?_, ?_, ?_, ?_, ?_, ?_, ?_, ?_, ?_, ?_⟩ <;> (rw [cell_of_row _ _ _ _ _ _ h]; rfl)
theorem al_keep {w : World} {g : Nat} {o : Obj} (h : w.heap[g]? = some o) (o' : Obj) : (w.alloc o').heap[g]? = some o := blk_below h ((Below.refl w.heap.size w).alloc (Nat.le_refl _) o')
theorem al_new (w : World) (o : Obj) {k : Nat} (hk : w.heap.size = k) : (w.alloc o).heap[k]? = some o := by subst hk; exact heap_alloc_new w o
theorem al_size (w : World) (o : Obj) : (w.alloc o).heap.size = w.heap.size + 1 := by simp
theorem al_b (w : World) (o : Obj) : Below w.heap.size w (w.alloc o) := (Below.refl _ _).alloc (Nat.le_refl _) _
theorem below_al {w w' : World} (h : Below w.heap.size w w') (o : Obj) : Below w.heap.size w (w'.alloc o) := h.alloc h.size _
set_option maxRecDepth 20000 in
theorem kind_m_in (q : Pkt) (C : Option Addr) (cn cc : Nat) (E : Option Addr) (en ec : Nat) (L : Option Addr) (ln lc : Nat) (dl : Int) (dk ds : Bool) (df : Int) (w : World) : Calls Try.prog 181 #[mdA q C cn cc E en ec L ln lc dl dk ds df] w fun e w' => e = .returned (.int .i64 1) ∧ Below w.heap.size w w' := by
  go_enter Try.func181, Try.ntmps181
  go_wp2
  go_ret
  exact ⟨rfl, by first | exact Below.refl _ _ | exact al_b _ _⟩
set_option maxRecDepth 20000 in
theorem kind_m (q : Pkt) (C : Option Addr) (cn cc : Nat) (E : Option Addr) (en ec : Nat) (L : Option Addr) (ln lc : Nat) (dl : Int) (dk ds : Bool) (df : Int) (w : World) : Calls Try.prog 69 #[.iface 125 (mdA q C cn cc E en ec L ln lc dl dk ds df)] w fun e w' => e = .returned (.int .i64 1) ∧ Below w.heap.size w w' := by
  have hm : ∀ w, (method 335 125 (mdA q C cn cc E en ec L ln lc dl dk ds df) "Kind").run Try.prog w = .ok (181, mdA q C cn cc E en ec L ln lc dl dk ds df) w := fun _ => by rfl
  go_enter Try.func69, Try.ntmps69
  go_wp2_with ((with_reducible refine (kind_m_in q C cn cc E en ec L ln lc dl dk ds df _).mono ?_); rintro e w1 ⟨rfl, hb1⟩)
  go_ret
  exact ⟨rfl, hb1⟩
set_option maxRecDepth 20000 in
theorem kind_f_in (A : Option Addr) (n c : Nat) (w : World) : Calls Try.prog 182 #[.agg #[.slice A n c]] w fun e w' => e = .returned (.int .i64 2) ∧ Below w.heap.size w w' := by
  go_enter Try.func182, Try.ntmps182
  go_wp2
  go_ret
  exact ⟨rfl, by first | exact Below.refl _ _ | exact al_b _ _⟩
set_option maxRecDepth 20000 in
theorem kind_f (A : Option Addr) (n c : Nat) (w : World) : Calls Try.prog 69 #[.iface 127 (.agg #[.slice A n c])] w fun e w' => e = .returned (.int .i64 2) ∧ Below w.heap.size w w' := by
  have hm : ∀ w, (method 335 127 (.agg #[.slice A n c]) "Kind").run Try.prog w = .ok (182, .agg #[.slice A n c]) w := fun _ => by rfl
  go_enter Try.func69, Try.ntmps69
  go_wp2_with ((with_reducible refine (kind_f_in A n c _).mono ?_); rintro e w1 ⟨rfl, hb1⟩)
  go_ret
  exact ⟨rfl, hb1⟩
theorem kind_n (w : World) : Calls Try.prog 69 #[.nilIface] w fun e w' => e = .returned (.int .i64 0) ∧ Below w.heap.size w w' := by
  go_enter Try.func69, Try.ntmps69
  go_wp2
  go_ret
  exact ⟨rfl, Below.refl _ _⟩
/-- Two variables of a call written: what is there then. -/
theorem two_st {w wx w7 w8 : World} {oD o7 : Obj} (hb : Below w.heap.size w wx) (hD : wx.heap[w.heap.size + 1]? = some oD) (hg7 : wx.grownBy w7 (some w.heap.size)) (hi7 : w7.heap[w.heap.size]? = some o7) (hg8 : w7.grownBy w8 (some (w.heap.size + 1))) :
    w7.heap[w.heap.size + 1]? = some oD ∧ w8.heap[w.heap.size]? = some o7 ∧ Below w.heap.size w w8 := by
  refine ⟨?_, ?_, ?_⟩
  · exact (hg7.block _ (blk_in hD) (fun e => by injection e with e; omega)).trans hD
  · exact (hg8.block _ (blk_in hi7) (fun e => by injection e with e; omega)).trans hi7
  · exact (hb.grown hg7 hb.size (fun k hk => by injection hk with hk; omega)).grown hg8 (Nat.le_trans hb.size hg7.size) (fun k hk => by injection hk with hk; omega)
theorem ItsO.over {w w' : World} {base g : Nat} {A : Option Addr} {n c : Nat} {ys : List Sl} (h : ItsO w base A n c ys) {cs : Array Value} {t : TypeId} (hp : w.heap[g]? = some (.cells cs t (0, 0))) (h1 : 54 ≠ t) (h2 : 141 ≠ t) (h3 : 24 ≠ t) (h4 : 181 ≠ t) (hg : w.grownBy w' (some g)) : ItsO w' base A n c ys :=
  ⟨h.own.kept hg (own_off h.own hp h1), fun x hx => ⟨(h.rows x hx).oa.kept hg (own_off (h.rows x hx).oa hp h2), (h.rows x hx).og.kept hg (own_off (h.rows x hx).og hp h3), (h.rows x hx).op.kept hg (own_off (h.rows x hx).op hp h4)⟩, h.ok⟩
theorem its_over {wx w7 w8 : World} {base p d : Nat} {A : Option Addr} {n c : Nat} {ys : List Sl} {cs ds : Array Value} (h : ItsO wx base A n c ys) (hP : wx.heap[p]? = some (.cells cs 39 (0, 0))) (hg7 : wx.grownBy w7 (some p)) (hD : w7.heap[d]? = some (.cells ds 109 (0, 0))) (hg8 : w7.grownBy w8 (some d)) : Its w8 A n c ys :=
  ((h.over hP (by decide) (by decide) (by decide) (by decide) hg7).over hD (by decide) (by decide) (by decide) (by decide) hg8).its
set_option maxRecDepth 20000 in
set_option maxHeartbeats 4000000 in
theorem flat_n (w : World) : Calls Try.prog 70 #[.nilIface] w fun e w' => e = .returned (.tuple #[zeroA, dsA 0 false false 0, .slice none 0 0]) ∧ Below w.heap.size w w' := by
  have h1 := ta_nm
  have h2 := ta_nf
  go_enter Try.func70, Try.ntmps70
  go_upto_region 7 with fail
  have hP : (((((w.alloc (.cells #[.bool false, .int .i64 0, .int .u16 0, .int .u32 0, .int .u32 0, .slice none 0 0, .bool false, .int .u16 0, .slice none 0 0, .slice none 0 0, .int .i64 0] 39)).alloc (.cells #[.int .i64 0, .bool false, .bool false, .int .u16 0] 109)).alloc (.cells #[.bool false, .int .i64 0, .int .u16 0, .int .u32 0, .int .u32 0, .slice none 0 0, .bool false, .int .u16 0, .slice none 0 0, .slice none 0 0, .int .i64 0, .int .i64 0, .bool false, .bool false, .int .u16 0] 125)).alloc (.cells #[.slice none 0 0] 127))).heap[w.heap.size]? = some (.cells #[.bool false, .int .i64 0, .int .u16 0, .int .u32 0, .int .u32 0, .slice none 0 0, .bool false, .int .u16 0, .slice none 0 0, .slice none 0 0, .int .i64 0] 39) := al_keep (al_keep (al_keep (al_new w _ rfl) _) _) _
  have hD : (((((w.alloc (.cells #[.bool false, .int .i64 0, .int .u16 0, .int .u32 0, .int .u32 0, .slice none 0 0, .bool false, .int .u16 0, .slice none 0 0, .slice none 0 0, .int .i64 0] 39)).alloc (.cells #[.int .i64 0, .bool false, .bool false, .int .u16 0] 109)).alloc (.cells #[.bool false, .int .i64 0, .int .u16 0, .int .u32 0, .int .u32 0, .slice none 0 0, .bool false, .int .u16 0, .slice none 0 0, .slice none 0 0, .int .i64 0, .int .i64 0, .bool false, .bool false, .int .u16 0] 125)).alloc (.cells #[.slice none 0 0] 127))).heap[w.heap.size + 1]? = some (.cells #[.int .i64 0, .bool false, .bool false, .int .u16 0] 109) := al_keep (al_keep (al_new _ _ (al_size _ _)) _) _
  have hb : Below w.heap.size w (((((w.alloc (.cells #[.bool false, .int .i64 0, .int .u16 0, .int .u32 0, .int .u32 0, .slice none 0 0, .bool false, .int .u16 0, .slice none 0 0, .slice none 0 0, .int .i64 0] 39)).alloc (.cells #[.int .i64 0, .bool false, .bool false, .int .u16 0] 109)).alloc (.cells #[.bool false, .int .i64 0, .int .u16 0, .int .u32 0, .int .u32 0, .slice none 0 0, .bool false, .int .u16 0, .slice none 0 0, .slice none 0 0, .int .i64 0, .int .i64 0, .bool false, .bool false, .int .u16 0] 125)).alloc (.cells #[.slice none 0 0] 127))) := below_al (below_al (below_al (al_b _ _) _) _) _
  generalize (((((w.alloc (.cells #[.bool false, .int .i64 0, .int .u16 0, .int .u32 0, .int .u32 0, .slice none 0 0, .bool false, .int .u16 0, .slice none 0 0, .slice none 0 0, .int .i64 0] 39)).alloc (.cells #[.int .i64 0, .bool false, .bool false, .int .u16 0] 109)).alloc (.cells #[.bool false, .int .i64 0, .int .u16 0, .int .u32 0, .int .u32 0, .slice none 0 0, .bool false, .int .u16 0, .slice none 0 0, .slice none 0 0, .int .i64 0, .int .i64 0, .bool false, .bool false, .int .u16 0] 125)).alloc (.cells #[.slice none 0 0] 127))) = wx at *
  go_wp2_with (first
    | (refine wpList_store_blk rfl 39 (.tmp 2) (.tmp 31) rfl w.heap.size _ #[.bool false, .int .i64 0, .int .u16 0, .int .u32 0, .int .u32 0, .slice none 0 0, .bool false, .int .u16 0, .slice none 0 0, .slice none 0 0, .int .i64 0] _ rfl rfl hP rfl (by kernel_rfl) (by simp [Value.oneCell']) ?_; intro w7 hiw7 hgw7; have hDx := (hgw7.block _ (blk_in hD) (fun e => by injection e with e; omega)).trans hD)
    | (refine wpList_store_blk rfl 109 (.tmp 3) (.tmp 32) rfl (w.heap.size + 1) _ #[.int .i64 0, .bool false, .bool false, .int .u16 0] _ rfl rfl hDx rfl (by kernel_rfl) (by simp [Value.oneCell']) ?_; intro w8 hiw8 hgw8; skip))
  obtain ⟨_, hi9, hb9⟩ := two_st hb hD hgw7 hiw7 hgw8
  obtain ⟨z0, z1, z2, z3, z4, z5, z6, z7, z8, z9, z10⟩ := eleven_cells hi9
  obtain ⟨d0, d1, d2, d3⟩ := row4_cells hiw8
  exact bodyPost_ret (v := .tuple #[zeroA, dsA 0 false false 0, .slice none 0 0]) (by simp [results, Try.results70, go_sem, z0, z1, z2, z3, z4, z5, z6, z7, z8, z9, z10, d0, d1, d2, d3]) rfl ⟨rfl, hb9⟩
set_option maxRecDepth 20000 in
set_option maxHeartbeats 4000000 in
theorem flat_f (A : Option Addr) (n c : Nat) (xs : List Sl) (w : World) (h : Its w A n c xs) (hA : A = none → n = 0 ∧ c = 0) (hb1 : n * 120 ≤ 140737488355328) (hs : ∀ x ∈ xs, SlB x) :
    Calls Try.prog 70 #[.iface 127 (.agg #[.slice A n c])] w fun e w' => ∃ A' c' ys, e = .returned (.tuple #[zeroA, dsA 0 false false 0, .slice A' n c']) ∧ Hid (Its w' A' n c' ys) ∧ Hid (itm ys = itm xs) ∧ Below w.heap.size w w' := by
  have h1 := ta_f
  have h2 := ta_fm
  have HX := Lib.hid (And.intro h (And.intro hA (And.intro hb1 hs)))
  clear h hA hb1 hs
  go_enter Try.func70, Try.ntmps70
  go_upto_region 6 with fail
  have hP : (((((w.alloc (.cells #[.bool false, .int .i64 0, .int .u16 0, .int .u32 0, .int .u32 0, .slice none 0 0, .bool false, .int .u16 0, .slice none 0 0, .slice none 0 0, .int .i64 0] 39)).alloc (.cells #[.int .i64 0, .bool false, .bool false, .int .u16 0] 109)).alloc (.cells #[.bool false, .int .i64 0, .int .u16 0, .int .u32 0, .int .u32 0, .slice none 0 0, .bool false, .int .u16 0, .slice none 0 0, .slice none 0 0, .int .i64 0, .int .i64 0, .bool false, .bool false, .int .u16 0] 125)).alloc (.cells #[.slice A n c] 127))).heap[w.heap.size]? = some (.cells #[.bool false, .int .i64 0, .int .u16 0, .int .u32 0, .int .u32 0, .slice none 0 0, .bool false, .int .u16 0, .slice none 0 0, .slice none 0 0, .int .i64 0] 39) := al_keep (al_keep (al_keep (al_new w _ rfl) _) _) _
  have hD : (((((w.alloc (.cells #[.bool false, .int .i64 0, .int .u16 0, .int .u32 0, .int .u32 0, .slice none 0 0, .bool false, .int .u16 0, .slice none 0 0, .slice none 0 0, .int .i64 0] 39)).alloc (.cells #[.int .i64 0, .bool false, .bool false, .int .u16 0] 109)).alloc (.cells #[.bool false, .int .i64 0, .int .u16 0, .int .u32 0, .int .u32 0, .slice none 0 0, .bool false, .int .u16 0, .slice none 0 0, .slice none 0 0, .int .i64 0, .int .i64 0, .bool false, .bool false, .int .u16 0] 125)).alloc (.cells #[.slice A n c] 127))).heap[w.heap.size + 1]? = some (.cells #[.int .i64 0, .bool false, .bool false, .int .u16 0] 109) := al_keep (al_keep (al_new _ _ (al_size _ _)) _) _
  have hF : (((((w.alloc (.cells #[.bool false, .int .i64 0, .int .u16 0, .int .u32 0, .int .u32 0, .slice none 0 0, .bool false, .int .u16 0, .slice none 0 0, .slice none 0 0, .int .i64 0] 39)).alloc (.cells #[.int .i64 0, .bool false, .bool false, .int .u16 0] 109)).alloc (.cells #[.bool false, .int .i64 0, .int .u16 0, .int .u32 0, .int .u32 0, .slice none 0 0, .bool false, .int .u16 0, .slice none 0 0, .slice none 0 0, .int .i64 0, .int .i64 0, .bool false, .bool false, .int .u16 0] 125)).alloc (.cells #[.slice A n c] 127))).cell? ⟨w.heap.size + 1 + 1 + 1, 0, none⟩ = some (.slice A n c) := by rw [cell_of_row _ _ _ _ _ _ (al_new _ _ (by simp))]; rfl
  have hb : Below w.heap.size w (((((w.alloc (.cells #[.bool false, .int .i64 0, .int .u16 0, .int .u32 0, .int .u32 0, .slice none 0 0, .bool false, .int .u16 0, .slice none 0 0, .slice none 0 0, .int .i64 0] 39)).alloc (.cells #[.int .i64 0, .bool false, .bool false, .int .u16 0] 109)).alloc (.cells #[.bool false, .int .i64 0, .int .u16 0, .int .u32 0, .int .u32 0, .slice none 0 0, .bool false, .int .u16 0, .slice none 0 0, .slice none 0 0, .int .i64 0, .int .i64 0, .bool false, .bool false, .int .u16 0] 125)).alloc (.cells #[.slice A n c] 127))) := below_al (below_al (below_al (al_b _ _) _) _) _
  generalize (((((w.alloc (.cells #[.bool false, .int .i64 0, .int .u16 0, .int .u32 0, .int .u32 0, .slice none 0 0, .bool false, .int .u16 0, .slice none 0 0, .slice none 0 0, .int .i64 0] 39)).alloc (.cells #[.int .i64 0, .bool false, .bool false, .int .u16 0] 109)).alloc (.cells #[.bool false, .int .i64 0, .int .u16 0, .int .u32 0, .int .u32 0, .slice none 0 0, .bool false, .int .u16 0, .slice none 0 0, .slice none 0 0, .int .i64 0, .int .i64 0, .bool false, .bool false, .int .u16 0] 125)).alloc (.cells #[.slice A n c] 127))) = wy at *
  go_wp2_with (first
    | (go_at_call 113; (with_reducible refine (ownI_any A n c xs wy (HX.out.1.below hb) HX.out.2.1 HX.out.2.2.1 HX.out.2.2.2).mono ?_); rintro e wx ⟨A1, c1, ys, rfl, HY, HE, hbx⟩; replace hP := blk_below hP hbx; replace hD := blk_below hD hbx; replace hb := below_next hb hbx)
    | (refine wpList_store_blk rfl 39 (.tmp 2) (.tmp 26) rfl w.heap.size _ #[.bool false, .int .i64 0, .int .u16 0, .int .u32 0, .int .u32 0, .slice none 0 0, .bool false, .int .u16 0, .slice none 0 0, .slice none 0 0, .int .i64 0] _ rfl rfl hP rfl (by kernel_rfl) (by simp [Value.oneCell']) ?_; intro w7 hiw7 hgw7; have hDx := (hgw7.block _ (blk_in hD) (fun e => by injection e with e; omega)).trans hD)
    | (refine wpList_store_blk rfl 109 (.tmp 3) (.tmp 27) rfl (w.heap.size + 1) _ #[.int .i64 0, .bool false, .bool false, .int .u16 0] _ rfl rfl hDx rfl (by kernel_rfl) (by simp [Value.oneCell']) ?_; intro w8 hiw8 hgw8; skip))
  obtain ⟨_, hi9, hb9⟩ := two_st hb hD hgw7 hiw7 hgw8
  obtain ⟨z0, z1, z2, z3, z4, z5, z6, z7, z8, z9, z10⟩ := eleven_cells hi9
  obtain ⟨d0, d1, d2, d3⟩ := row4_cells hiw8
  exact bodyPost_ret (v := .tuple #[zeroA, dsA 0 false false 0, .slice A1 n c1]) (by simp [results, Try.results70, go_sem, z0, z1, z2, z3, z4, z5, z6, z7, z8, z9, z10, d0, d1, d2, d3]) rfl ⟨A1, c1, ys, rfl, its_over HY.out hP hgw7 hDx hgw8, HE, hb9⟩
set_option maxRecDepth 20000 in
set_option maxHeartbeats 4000000 in
theorem flat_m (q : Pkt) (C : Option Addr) (cn cc : Nat) (E : Option Addr) (en ec : Nat) (L : Option Addr) (ln lc : Nat) (dl : Int) (dk ds : Bool) (df : Int) (w : World) (h : PRow w q C cn cc E en ec L ln lc) (b1 : cn * 4 ≤ 140737488355328) (b2 : en ≤ 140737488351232) (b3 : ln ≤ 140737488351232) :
    Calls Try.prog 70 #[.iface 125 (mdA q C cn cc E en ec L ln lc dl dk ds df)] w fun e w' => ∃ C' cc' E' ec' L' lc', e = .returned (.tuple #[pkA q C' cn cc' E' en ec' L' ln lc', dsA dl dk ds df, .slice none 0 0]) ∧ Hid (PRow w' q C' cn cc' E' en ec' L' ln lc') ∧ Below w.heap.size w w' := by
  have h1 := ta_m
  have HX := Lib.hid (And.intro h (And.intro b1 (And.intro b2 b3)))
  clear h b1 b2 b3
  go_enter Try.func70, Try.ntmps70
  go_wp2_with fail
  have hP : (((w.alloc (.cells #[.bool false, .int .i64 0, .int .u16 0, .int .u32 0, .int .u32 0, .slice none 0 0, .bool false, .int .u16 0, .slice none 0 0, .slice none 0 0, .int .i64 0] 39)).alloc (.cells #[.int .i64 0, .bool false, .bool false, .int .u16 0] 109)).alloc (.cells #[.bool q.mr, .int .i64 q.ty, .int .u16 q.sq, .int .u32 q.tm, .int .u32 q.ss, .slice C cn cc, .bool q.hx, .int .u16 q.pf, .slice E en ec, .slice L ln lc, .int .i64 q.pad, .int .i64 dl, .bool dk, .bool ds, .int .u16 df] 125)).heap[w.heap.size]? = some (.cells #[.bool false, .int .i64 0, .int .u16 0, .int .u32 0, .int .u32 0, .slice none 0 0, .bool false, .int .u16 0, .slice none 0 0, .slice none 0 0, .int .i64 0] 39) := al_keep (al_keep (al_new w _ rfl) _) _
  have hD : (((w.alloc (.cells #[.bool false, .int .i64 0, .int .u16 0, .int .u32 0, .int .u32 0, .slice none 0 0, .bool false, .int .u16 0, .slice none 0 0, .slice none 0 0, .int .i64 0] 39)).alloc (.cells #[.int .i64 0, .bool false, .bool false, .int .u16 0] 109)).alloc (.cells #[.bool q.mr, .int .i64 q.ty, .int .u16 q.sq, .int .u32 q.tm, .int .u32 q.ss, .slice C cn cc, .bool q.hx, .int .u16 q.pf, .slice E en ec, .slice L ln lc, .int .i64 q.pad, .int .i64 dl, .bool dk, .bool ds, .int .u16 df] 125)).heap[w.heap.size + 1]? = some (.cells #[.int .i64 0, .bool false, .bool false, .int .u16 0] 109) := al_keep (al_new _ _ (al_size _ _)) _
  have hM : (((w.alloc (.cells #[.bool false, .int .i64 0, .int .u16 0, .int .u32 0, .int .u32 0, .slice none 0 0, .bool false, .int .u16 0, .slice none 0 0, .slice none 0 0, .int .i64 0] 39)).alloc (.cells #[.int .i64 0, .bool false, .bool false, .int .u16 0] 109)).alloc (.cells #[.bool q.mr, .int .i64 q.ty, .int .u16 q.sq, .int .u32 q.tm, .int .u32 q.ss, .slice C cn cc, .bool q.hx, .int .u16 q.pf, .slice E en ec, .slice L ln lc, .int .i64 q.pad, .int .i64 dl, .bool dk, .bool ds, .int .u16 df] 125)).heap[w.heap.size + 1 + 1]? = some (.cells #[.bool q.mr, .int .i64 q.ty, .int .u16 q.sq, .int .u32 q.tm, .int .u32 q.ss, .slice C cn cc, .bool q.hx, .int .u16 q.pf, .slice E en ec, .slice L ln lc, .int .i64 q.pad, .int .i64 dl, .bool dk, .bool ds, .int .u16 df] 125) := al_new _ _ (by simp)
  have hb : Below w.heap.size w (((w.alloc (.cells #[.bool false, .int .i64 0, .int .u16 0, .int .u32 0, .int .u32 0, .slice none 0 0, .bool false, .int .u16 0, .slice none 0 0, .slice none 0 0, .int .i64 0] 39)).alloc (.cells #[.int .i64 0, .bool false, .bool false, .int .u16 0] 109)).alloc (.cells #[.bool q.mr, .int .i64 q.ty, .int .u16 q.sq, .int .u32 q.tm, .int .u32 q.ss, .slice C cn cc, .bool q.hx, .int .u16 q.pf, .slice E en ec, .slice L ln lc, .int .i64 q.pad, .int .i64 dl, .bool dk, .bool ds, .int .u16 df] 125)) := below_al (below_al (al_b _ _) _) _
  generalize (((w.alloc (.cells #[.bool false, .int .i64 0, .int .u16 0, .int .u32 0, .int .u32 0, .slice none 0 0, .bool false, .int .u16 0, .slice none 0 0, .slice none 0 0, .int .i64 0] 39)).alloc (.cells #[.int .i64 0, .bool false, .bool false, .int .u16 0] 109)).alloc (.cells #[.bool q.mr, .int .i64 q.ty, .int .u16 q.sq, .int .u32 q.tm, .int .u32 q.ss, .slice C cn cc, .bool q.hx, .int .u16 q.pf, .slice E en ec, .slice L ln lc, .int .i64 q.pad, .int .i64 dl, .bool dk, .bool ds, .int .u16 df] 125)) = wy at *
  replace hP := blk_below hP ((Below.refl _ wy).drew)
  replace hD := blk_below hD ((Below.refl _ wy).drew)
  replace hM := blk_below hM ((Below.refl _ wy).drew)
  replace hb := hb.drew
  obtain ⟨m0, m1, m2, m3, m4, m5, m6, m7, m8, m9, m10, m11, m12, m13, m14⟩ := fifteen_cells hM
  refine region_plan (calmB_sound _) (.fork [0, 1, 3] (.leaf [4, 2, 5, 6, 7]) (.fork [2] (.leaf [5, 4, 6, 7]) (.leaf [4, 5, 6, 7]))) (by kernel_rfl) (by kernel_rfl) (by kernel_rfl) ?_
  generalize wy.drew = wd at *
  refine wpPlan_fork fun PL0 hPL0 => ?_
  simp only [List.filterMap_cons, List.filterMap_nil, List.getElem?_toArray, List.getElem?_cons_succ, List.getElem?_cons_zero]
  change wpList _ _ _ [_, _, _] _ _
  go_wp2_with (first | (go_at_call 112; (with_reducible refine (ownP_any q C cn cc E en ec L ln lc wd (HX.out.1.below hb) HX.out.2.1 HX.out.2.2.1 HX.out.2.2.2).mono ?_); rintro e wx ⟨A3, c3, A4, c4, A5, c5, rfl, HO, hbx⟩; have hPx := blk_below hP hbx; have hDx := blk_below hD hbx; have hMx := blk_below hM hbx; have hbX := below_next hb hbx; obtain ⟨m0, m1, m2, m3, m4, m5, m6, m7, m8, m9, m10, m11, m12, m13, m14⟩ := fifteen_cells hMx) | (refine wpList_store_blk rfl 39 (.tmp 2) (.tmp 17) rfl w.heap.size _ #[.bool q.mr, .int .i64 q.ty, .int .u16 q.sq, .int .u32 q.tm, .int .u32 q.ss, .slice A3 cn c3, .bool q.hx, .int .u16 q.pf, .slice A4 en c4, .slice A5 ln c5, .int .i64 q.pad] _ rfl rfl hPx rfl (by kernel_rfl) (by simp [Value.oneCell']) ?_; intro w7 hiw7 hgw7; have hD7 := (hgw7.block _ (blk_in hDx) (fun e => by injection e with e; omega)).trans hDx; have hM7 := (hgw7.block _ (blk_in hMx) (fun e => by injection e with e; omega)).trans hMx; obtain ⟨m0, m1, m2, m3, m4, m5, m6, m7, m8, m9, m10, m11, m12, m13, m14⟩ := fifteen_cells hM7) | (refine wpList_store_blk rfl 109 (.tmp 3) (.tmp 19) rfl (w.heap.size + 1) _ #[.int .i64 dl, .bool dk, .bool ds, .int .u16 df] _ rfl rfl hD7 rfl (by kernel_rfl) (by simp [Value.oneCell']) ?_; intro w8 hiw8 hgw8; skip))
  refine hPL0 _ _ ?_ ?_
  · refine wpPlan_leaf fun PL1 hPL1 => ?_
    simp only [List.filterMap_cons, List.filterMap_nil, List.getElem?_toArray, List.getElem?_cons_succ, List.getElem?_cons_zero]
    change wpList _ _ _ [_, _, _, _, _] _ _
    go_wp2_with (first | (go_at_call 112; (with_reducible refine (ownP_any q C cn cc E en ec L ln lc wd (HX.out.1.below hb) HX.out.2.1 HX.out.2.2.1 HX.out.2.2.2).mono ?_); rintro e wx ⟨A3, c3, A4, c4, A5, c5, rfl, HO, hbx⟩; have hPx := blk_below hP hbx; have hDx := blk_below hD hbx; have hMx := blk_below hM hbx; have hbX := below_next hb hbx; obtain ⟨m0, m1, m2, m3, m4, m5, m6, m7, m8, m9, m10, m11, m12, m13, m14⟩ := fifteen_cells hMx) | (refine wpList_store_blk rfl 39 (.tmp 2) (.tmp 17) rfl w.heap.size _ #[.bool q.mr, .int .i64 q.ty, .int .u16 q.sq, .int .u32 q.tm, .int .u32 q.ss, .slice A3 cn c3, .bool q.hx, .int .u16 q.pf, .slice A4 en c4, .slice A5 ln c5, .int .i64 q.pad] _ rfl rfl hPx rfl (by kernel_rfl) (by simp [Value.oneCell']) ?_; intro w7 hiw7 hgw7; have hD7 := (hgw7.block _ (blk_in hDx) (fun e => by injection e with e; omega)).trans hDx; have hM7 := (hgw7.block _ (blk_in hMx) (fun e => by injection e with e; omega)).trans hMx; obtain ⟨m0, m1, m2, m3, m4, m5, m6, m7, m8, m9, m10, m11, m12, m13, m14⟩ := fifteen_cells hM7) | (refine wpList_store_blk rfl 109 (.tmp 3) (.tmp 19) rfl (w.heap.size + 1) _ #[.int .i64 dl, .bool dk, .bool ds, .int .u16 df] _ rfl rfl hD7 rfl (by kernel_rfl) (by simp [Value.oneCell']) ?_; intro w8 hiw8 hgw8; skip))
    obtain ⟨_, hi9, hb9⟩ := two_st hbX hDx hgw7 hiw7 hgw8
    obtain ⟨z0, z1, z2, z3, z4, z5, z6, z7, z8, z9, z10⟩ := eleven_cells hi9
    obtain ⟨d0, d1, d2, d3⟩ := row4_cells hiw8
    exact bodyPost_ret (v := .tuple #[pkA q A3 cn c3 A4 en c4 A5 ln c5, dsA dl dk ds df, .slice none 0 0]) (by simp [results, Try.results70, go_sem, z0, z1, z2, z3, z4, z5, z6, z7, z8, z9, z10, d0, d1, d2, d3]) rfl ⟨A3, c3, A4, c4, A5, c5, rfl, ((HO.out.over hPx (by decide) (by decide) hgw7).over hD7 (by decide) (by decide) hgw8).row, hb9⟩
  · refine wpPlan_fork fun PL1 hPL1 => ?_
    simp only [List.filterMap_cons, List.filterMap_nil, List.getElem?_toArray, List.getElem?_cons_succ, List.getElem?_cons_zero]
    change wpList _ _ _ [_] _ _
    go_wp2_with (first | (go_at_call 112; (with_reducible refine (ownP_any q C cn cc E en ec L ln lc wd (HX.out.1.below hb) HX.out.2.1 HX.out.2.2.1 HX.out.2.2.2).mono ?_); rintro e wx ⟨A3, c3, A4, c4, A5, c5, rfl, HO, hbx⟩; have hPx := blk_below hP hbx; have hDx := blk_below hD hbx; have hMx := blk_below hM hbx; have hbX := below_next hb hbx; obtain ⟨m0, m1, m2, m3, m4, m5, m6, m7, m8, m9, m10, m11, m12, m13, m14⟩ := fifteen_cells hMx) | (refine wpList_store_blk rfl 39 (.tmp 2) (.tmp 17) rfl w.heap.size _ #[.bool q.mr, .int .i64 q.ty, .int .u16 q.sq, .int .u32 q.tm, .int .u32 q.ss, .slice A3 cn c3, .bool q.hx, .int .u16 q.pf, .slice A4 en c4, .slice A5 ln c5, .int .i64 q.pad] _ rfl rfl hPx rfl (by kernel_rfl) (by simp [Value.oneCell']) ?_; intro w7 hiw7 hgw7; have hD7 := (hgw7.block _ (blk_in hDx) (fun e => by injection e with e; omega)).trans hDx; have hM7 := (hgw7.block _ (blk_in hMx) (fun e => by injection e with e; omega)).trans hMx; obtain ⟨m0, m1, m2, m3, m4, m5, m6, m7, m8, m9, m10, m11, m12, m13, m14⟩ := fifteen_cells hM7) | (refine wpList_store_blk rfl 109 (.tmp 3) (.tmp 19) rfl (w.heap.size + 1) _ #[.int .i64 dl, .bool dk, .bool ds, .int .u16 df] _ rfl rfl hD7 rfl (by kernel_rfl) (by simp [Value.oneCell']) ?_; intro w8 hiw8 hgw8; skip))
    refine hPL1 _ _ ?_ ?_
    · refine wpPlan_leaf fun PL2 hPL2 => ?_
      simp only [List.filterMap_cons, List.filterMap_nil, List.getElem?_toArray, List.getElem?_cons_succ, List.getElem?_cons_zero]
      change wpList _ _ _ [_, _, _, _] _ _
      go_wp2_with (first | (go_at_call 112; (with_reducible refine (ownP_any q C cn cc E en ec L ln lc wd (HX.out.1.below hb) HX.out.2.1 HX.out.2.2.1 HX.out.2.2.2).mono ?_); rintro e wx ⟨A3, c3, A4, c4, A5, c5, rfl, HO, hbx⟩; have hPx := blk_below hP hbx; have hDx := blk_below hD hbx; have hMx := blk_below hM hbx; have hbX := below_next hb hbx; obtain ⟨m0, m1, m2, m3, m4, m5, m6, m7, m8, m9, m10, m11, m12, m13, m14⟩ := fifteen_cells hMx) | (refine wpList_store_blk rfl 39 (.tmp 2) (.tmp 17) rfl w.heap.size _ #[.bool q.mr, .int .i64 q.ty, .int .u16 q.sq, .int .u32 q.tm, .int .u32 q.ss, .slice A3 cn c3, .bool q.hx, .int .u16 q.pf, .slice A4 en c4, .slice A5 ln c5, .int .i64 q.pad] _ rfl rfl hPx rfl (by kernel_rfl) (by simp [Value.oneCell']) ?_; intro w7 hiw7 hgw7; have hD7 := (hgw7.block _ (blk_in hDx) (fun e => by injection e with e; omega)).trans hDx; have hM7 := (hgw7.block _ (blk_in hMx) (fun e => by injection e with e; omega)).trans hMx; obtain ⟨m0, m1, m2, m3, m4, m5, m6, m7, m8, m9, m10, m11, m12, m13, m14⟩ := fifteen_cells hM7) | (refine wpList_store_blk rfl 109 (.tmp 3) (.tmp 19) rfl (w.heap.size + 1) _ #[.int .i64 dl, .bool dk, .bool ds, .int .u16 df] _ rfl rfl hD7 rfl (by kernel_rfl) (by simp [Value.oneCell']) ?_; intro w8 hiw8 hgw8; skip))
      obtain ⟨_, hi9, hb9⟩ := two_st hbX hDx hgw7 hiw7 hgw8
      obtain ⟨z0, z1, z2, z3, z4, z5, z6, z7, z8, z9, z10⟩ := eleven_cells hi9
      obtain ⟨d0, d1, d2, d3⟩ := row4_cells hiw8
      exact bodyPost_ret (v := .tuple #[pkA q A3 cn c3 A4 en c4 A5 ln c5, dsA dl dk ds df, .slice none 0 0]) (by simp [results, Try.results70, go_sem, z0, z1, z2, z3, z4, z5, z6, z7, z8, z9, z10, d0, d1, d2, d3]) rfl ⟨A3, c3, A4, c4, A5, c5, rfl, ((HO.out.over hPx (by decide) (by decide) hgw7).over hD7 (by decide) (by decide) hgw8).row, hb9⟩
    · refine wpPlan_leaf fun PL2 hPL2 => ?_
      simp only [List.filterMap_cons, List.filterMap_nil, List.getElem?_toArray, List.getElem?_cons_succ, List.getElem?_cons_zero]
      change wpList _ _ _ [_, _, _, _] _ _
      go_wp2_with (first | (go_at_call 112; (with_reducible refine (ownP_any q C cn cc E en ec L ln lc wd (HX.out.1.below hb) HX.out.2.1 HX.out.2.2.1 HX.out.2.2.2).mono ?_); rintro e wx ⟨A3, c3, A4, c4, A5, c5, rfl, HO, hbx⟩; have hPx := blk_below hP hbx; have hDx := blk_below hD hbx; have hMx := blk_below hM hbx; have hbX := below_next hb hbx; obtain ⟨m0, m1, m2, m3, m4, m5, m6, m7, m8, m9, m10, m11, m12, m13, m14⟩ := fifteen_cells hMx) | (refine wpList_store_blk rfl 39 (.tmp 2) (.tmp 17) rfl w.heap.size _ #[.bool q.mr, .int .i64 q.ty, .int .u16 q.sq, .int .u32 q.tm, .int .u32 q.ss, .slice A3 cn c3, .bool q.hx, .int .u16 q.pf, .slice A4 en c4, .slice A5 ln c5, .int .i64 q.pad] _ rfl rfl hPx rfl (by kernel_rfl) (by simp [Value.oneCell']) ?_; intro w7 hiw7 hgw7; have hD7 := (hgw7.block _ (blk_in hDx) (fun e => by injection e with e; omega)).trans hDx; have hM7 := (hgw7.block _ (blk_in hMx) (fun e => by injection e with e; omega)).trans hMx; obtain ⟨m0, m1, m2, m3, m4, m5, m6, m7, m8, m9, m10, m11, m12, m13, m14⟩ := fifteen_cells hM7) | (refine wpList_store_blk rfl 109 (.tmp 3) (.tmp 19) rfl (w.heap.size + 1) _ #[.int .i64 dl, .bool dk, .bool ds, .int .u16 df] _ rfl rfl hD7 rfl (by kernel_rfl) (by simp [Value.oneCell']) ?_; intro w8 hiw8 hgw8; skip))
      obtain ⟨_, hi9, hb9⟩ := two_st hbX hDx hgw7 hiw7 hgw8
      obtain ⟨z0, z1, z2, z3, z4, z5, z6, z7, z8, z9, z10⟩ := eleven_cells hi9
      obtain ⟨d0, d1, d2, d3⟩ := row4_cells hiw8
      exact bodyPost_ret (v := .tuple #[pkA q A3 cn c3 A4 en c4 A5 ln c5, dsA dl dk ds df, .slice none 0 0]) (by simp [results, Try.results70, go_sem, z0, z1, z2, z3, z4, z5, z6, z7, z8, z9, z10, d0, d1, d2, d3]) rfl ⟨A3, c3, A4, c4, A5, c5, rfl, ((HO.out.over hPx (by decide) (by decide) hgw7).over hD7 (by decide) (by decide) hgw8).row, hb9⟩
set_option maxRecDepth 20000 in
set_option maxHeartbeats 4000000 in
theorem bytes_n (w : World) : Calls Try.prog 75 #[.nilIface] w fun e w' => e = .returned (.tuple #[.slice none 0 0, .int .i64 4]) ∧ Below w.heap.size w w' := by
  have h1 := ta_nm
  have h2 := ta_nf
  go_enter Try.func75, Try.ntmps75
  go_wp2
  exact bodyPost_ret (v := .tuple #[.slice none 0 0, .int .i64 4]) (by simp [results, Try.results75, go_sem]) rfl ⟨rfl, below_al (al_b _ _) _⟩
set_option maxRecDepth 20000 in
set_option maxHeartbeats 4000000 in
theorem bytes_f (A : Option Addr) (n c : Nat) (xs : List Sl) (l : List UInt8) (Z : Int) (m : Nat) (w : World) (h : Its w A n c xs) (hn : n ≤ 140737488351232) (hZ : Z = (putsE (itm xs) : Nat)) (hl : putsL (itm xs) = l) (hm : l.length = m) :
    Calls Try.prog 75 #[.iface 127 (.agg #[.slice A n c])] w fun e w' => ∃ B c', e = .returned (.tuple #[.slice B m c', .int .i64 Z]) ∧ Hid (w'.ownsRow w.heap.size 5 1 (.slice B m c') m (bys l)) ∧ Below w.heap.size w w' := by
  have h1 := ta_f
  have HX := Lib.hid (And.intro h (And.intro hn (And.intro hZ (And.intro hl hm))))
  have e0 : (w.alloc (.cells #[.slice A n c] 127)).cell? ⟨w.heap.size, 0, none⟩ = some (.slice A n c) := by rw [cell_of_row _ _ _ _ _ _ (heap_alloc_new w _)]; rfl
  clear h hn hZ hl hm
  go_enter Try.func75, Try.ntmps75
  go_wp2_with (go_at_call 28; (with_reducible refine (rcput_v A n c xs _ (HX.out.1.below (al_b _ _)) HX.out.2.1 l Z m HX.out.2.2.1 HX.out.2.2.2.1 HX.out.2.2.2.2).mono ?_); rintro e w1 ⟨B, c1, rfl, ho1, hb1⟩)
  exact bodyPost_ret (v := .tuple #[.slice B m c1, .int .i64 Z]) (by simp [results, Try.results75, go_sem]) rfl ⟨B, c1, rfl, own_mono ho1 (by simp), below_next (al_b _ _) hb1⟩
set_option maxRecDepth 20000 in
set_option maxHeartbeats 4000000 in
theorem bytes_m_no (q : Pkt) (C : Option Addr) (cn cc : Nat) (E : Option Addr) (en ec : Nat) (L : Option Addr) (ln lc : Nat) (dl : Int) (dk ds : Bool) (df : Int) (w : World) (h : PRow w q C cn cc E en ec L ln lc) (hno : dE q.pl ≠ 0 ∨ ¬ ((dL q.pl : Int) = dl ∧ dK q.pl = dk ∧ dS q.pl = ds ∧ (dF q.pl : Int) = df)) :
    Calls Try.prog 75 #[.iface 125 (mdA q C cn cc E en ec L ln lc dl dk ds df)] w fun e w' => e = .returned (.tuple #[.slice none 0 0, .int .i64 1]) ∧ Below w.heap.size w w' := by
  have h1 := ta_m
  have h2 := ta_mf
  have HX := Lib.hid h
  have HN := Lib.hid hno
  obtain ⟨a1, a2, a3, a4, a5, e1, e2, e3, e4, e5⟩ : ∃ (a1 : Int) (a2 a3 : Bool) (a4 a5 : Int), (dL q.pl : Int) = a1 ∧ dK q.pl = a2 ∧ dS q.pl = a3 ∧ (dF q.pl : Int) = a4 ∧ dE q.pl = a5 := ⟨_, _, _, _, _, rfl, rfl, rfl, rfl, rfl⟩
  have HE := Lib.hid (And.intro e1 (And.intro e2 (And.intro e3 (And.intro e4 e5))))
  clear h hno e1 e2 e3 e4 e5
  have hM : ((w.alloc (.cells #[.slice none 0 0] 127)).alloc (.cells #[.bool q.mr, .int .i64 q.ty, .int .u16 q.sq, .int .u32 q.tm, .int .u32 q.ss, .slice C cn cc, .bool q.hx, .int .u16 q.pf, .slice E en ec, .slice L ln lc, .int .i64 q.pad, .int .i64 dl, .bool dk, .bool ds, .int .u16 df] 125)).heap[w.heap.size + 1]? = some (.cells #[.bool q.mr, .int .i64 q.ty, .int .u16 q.sq, .int .u32 q.tm, .int .u32 q.ss, .slice C cn cc, .bool q.hx, .int .u16 q.pf, .slice E en ec, .slice L ln lc, .int .i64 q.pad, .int .i64 dl, .bool dk, .bool ds, .int .u16 df] 125) := al_new _ _ (al_size _ _)
  by_cases hz : a5 = 0
  · subst hz
    have hc : ¬ a1 = dl ∨ (a1 = dl ∧ ¬ a2 = dk) ∨ (a1 = dl ∧ a2 = dk ∧ ¬ a3 = ds) ∨ (a1 = dl ∧ a2 = dk ∧ a3 = ds ∧ ¬ a4 = df) := by
      have hn := HN.out
      have he := HE.out
      rw [he.1, he.2.1, he.2.2.1, he.2.2.2.1, he.2.2.2.2] at hn
      rcases hn with h | h
      · exact absurd rfl h
      · by_cases k1 : a1 = dl
        · by_cases k2 : a2 = dk
          · by_cases k3 : a3 = ds
            · exact .inr (.inr (.inr ⟨k1, k2, k3, fun k4 => h ⟨k1, k2, k3, k4⟩⟩))
            · exact .inr (.inr (.inl ⟨k1, k2, k3⟩))
          · exact .inr (.inl ⟨k1, k2⟩)
        · exact .inl k1
    rcases hc with k1 | ⟨rfl, k2⟩ | ⟨rfl, rfl, k3⟩ | ⟨rfl, rfl, rfl, k4⟩
    all_goals
      go_enter Try.func75, Try.ntmps75
      go_wp2_with (go_at_call 74; (with_reducible refine (dget_z L ln lc q.pl a1 a2 a3 a4 0 HE.out.1 HE.out.2.1 HE.out.2.2.1 HE.out.2.2.2.1 HE.out.2.2.2.2 _ (prow_bts (HX.out.below (below_al (al_b _ _) _)))).mono ?_); rintro e w1 ⟨rfl, hb1⟩; have hM1 := al_keep (blk_below hM hb1) (.cells #[.int .i64 a1, .bool a2, .bool a3, .int .u16 a4] 109); obtain ⟨m0, m1, m2, m3, m4, m5, m6, m7, m8, m9, m10, m11, m12, m13, m14⟩ := fifteen_cells hM1; obtain ⟨d0, d1, d2, d3⟩ := row4_cells (heap_alloc_new w1 (.cells #[.int .i64 a1, .bool a2, .bool a3, .int .u16 a4] 109)))
      exact bodyPost_ret (v := .tuple #[.slice none 0 0, .int .i64 1]) (by simp [results, Try.results75, go_sem]) rfl ⟨rfl, below_al (below_next (below_al (al_b _ _) _) hb1) _⟩
  · have hz' : (a5 != 0) = true := by simpa using hz
    go_enter Try.func75, Try.ntmps75
    go_wp2_with (go_at_call 74; (with_reducible refine (dget_z L ln lc q.pl a1 a2 a3 a4 a5 HE.out.1 HE.out.2.1 HE.out.2.2.1 HE.out.2.2.2.1 HE.out.2.2.2.2 _ (prow_bts (HX.out.below (below_al (al_b _ _) _)))).mono ?_); rintro e w1 ⟨rfl, hb1⟩)
    exact bodyPost_ret (v := .tuple #[.slice none 0 0, .int .i64 1]) (by simp [results, Try.results75, go_sem]) rfl ⟨rfl, below_al (below_next (below_al (al_b _ _) _) hb1) _⟩
set_option maxRecDepth 20000 in
set_option maxHeartbeats 4000000 in
theorem bytes_m_yes (q : Pkt) (C : Option Addr) (cn cc : Nat) (E : Option Addr) (en ec : Nat) (L : Option Addr) (ln lc : Nat) (dl : Int) (dk ds : Bool) (df : Int) (Z : Int) (l : List UInt8) (m : Nat) (w : World) (h : PRow w q C cn cc E en ec L ln lc) (ok : q.Ok) (b2 : en ≤ 140737488351232) (b3 : ln ≤ 140737488351232) (h0 : dE q.pl = 0) (e1 : (dL q.pl : Int) = dl) (e2 : dK q.pl = dk) (e3 : dS q.pl = ds) (e4 : (dF q.pl : Int) = df) (hZ : Z = (errP q : Nat)) (hl : outP q = l) (hm : l.length = m) :
    Calls Try.prog 75 #[.iface 125 (mdA q C cn cc E en ec L ln lc dl dk ds df)] w fun e w' => ∃ B c', e = .returned (.tuple #[.slice B m c', .int .i64 Z]) ∧ Hid (w'.ownsRow w.heap.size 5 1 (.slice B m c') m (bys l)) ∧ Below w.heap.size w w' := by
  have h1 := ta_m
  have h2 := ta_mf
  have HX := Lib.hid h
  have HE := Lib.hid (And.intro e1 (And.intro e2 (And.intro e3 (And.intro e4 h0))))
  have HO := Lib.hid (And.intro ok (And.intro b2 (And.intro b3 (And.intro hZ (And.intro hl hm)))))
  have hM : ((w.alloc (.cells #[.slice none 0 0] 127)).alloc (.cells #[.bool q.mr, .int .i64 q.ty, .int .u16 q.sq, .int .u32 q.tm, .int .u32 q.ss, .slice C cn cc, .bool q.hx, .int .u16 q.pf, .slice E en ec, .slice L ln lc, .int .i64 q.pad, .int .i64 dl, .bool dk, .bool ds, .int .u16 df] 125)).heap[w.heap.size + 1]? = some (.cells #[.bool q.mr, .int .i64 q.ty, .int .u16 q.sq, .int .u32 q.tm, .int .u32 q.ss, .slice C cn cc, .bool q.hx, .int .u16 q.pf, .slice E en ec, .slice L ln lc, .int .i64 q.pad, .int .i64 dl, .bool dk, .bool ds, .int .u16 df] 125) := al_new _ _ (al_size _ _)
  clear h ok b2 b3 h0 e1 e2 e3 e4 hZ hl hm
  go_enter Try.func75, Try.ntmps75
  go_wp2_with (first
    | (go_at_call 74; (with_reducible refine (dget_z L ln lc q.pl dl dk ds df 0 HE.out.1 HE.out.2.1 HE.out.2.2.1 HE.out.2.2.2.1 HE.out.2.2.2.2 _ (prow_bts (HX.out.below (below_al (al_b _ _) _)))).mono ?_); rintro e w1 ⟨rfl, hb1⟩; have hM1 := al_keep (blk_below hM hb1) (.cells #[.int .i64 dl, .bool dk, .bool ds, .int .u16 df] 109); have hB1 := below_al (below_next (below_al (al_b w (.cells #[.slice none 0 0] 127)) (.cells #[.bool q.mr, .int .i64 q.ty, .int .u16 q.sq, .int .u32 q.tm, .int .u32 q.ss, .slice C cn cc, .bool q.hx, .int .u16 q.pf, .slice E en ec, .slice L ln lc, .int .i64 q.pad, .int .i64 dl, .bool dk, .bool ds, .int .u16 df] 125)) hb1) (.cells #[.int .i64 dl, .bool dk, .bool ds, .int .u16 df] 109); obtain ⟨m0, m1, m2, m3, m4, m5, m6, m7, m8, m9, m10, m11, m12, m13, m14⟩ := fifteen_cells hM1; obtain ⟨d0, d1, d2, d3⟩ := row4_cells (heap_alloc_new w1 (.cells #[.int .i64 dl, .bool dk, .bool ds, .int .u16 df] 109)))
    | (go_at_call 73; (with_reducible refine (pput_row q HO.out.1 Z HO.out.2.2.2.1 l HO.out.2.2.2.2.1 m HO.out.2.2.2.2.2 C cn cc E en ec L ln lc _ (HX.out.below hB1) HO.out.2.1 HO.out.2.2.1).mono ?_); rintro e w3 ⟨B, c3, rfl, ho3, hb3⟩))
  exact bodyPost_ret (v := .tuple #[.slice B m c3, .int .i64 Z]) (by simp [results, Try.results75, go_sem]) rfl ⟨B, c3, rfl, own_mono ho3 hB1.size, below_next hB1 hb3⟩
end Go.Proofs.Ytknlkmencdlpcaa

namespace Go.Proofs.Ytknlkmencdlpcaa
set_option linter.unusedVariables false
set_option linter.unusedSimpArgs false
open Go Go.RowKit

theorem seventeen_cells {w : World} {g : Nat} {t : TypeId} {fr : Nat × Nat} {a0 a1 a2 a3 a4 a5 a6 a7 a8 a9 a10 a11 a12 a13 a14 a15 a16 : Value} (h : w.heap[g]? = some (.cells #[a0, a1, a2, a3, a4, a5, a6, a7, a8, a9, a10, a11, a12, a13, a14, a15, a16] t fr)) :
    w.cell? ⟨g, 0, none⟩ = some a0 ∧ w.cell? ⟨g, 1, none⟩ = some a1 ∧ w.cell? ⟨g, 2, none⟩ = some a2 ∧ w.cell? ⟨g, 3, none⟩ = some a3 ∧ w.cell? ⟨g, 4, none⟩ = some a4 ∧ w.cell? ⟨g, 5, none⟩ = some a5 ∧ w.cell? ⟨g, 6, none⟩ = some a6 ∧ w.cell? ⟨g, 7, none⟩ = some a7 ∧ w.cell? ⟨g, 8, none⟩ = some a8 ∧ w.cell? ⟨g, 9, none⟩ = some a9 ∧ w.cell? ⟨g, 10, none⟩ = some a10 ∧ w.cell? ⟨g, 11, none⟩ = some a11 ∧ w.cell? ⟨g, 12, none⟩ = some a12 ∧ w.cell? ⟨g, 13, none⟩ = some a13 ∧ w.cell? ⟨g, 14, none⟩ = some a14 ∧ w.cell? ⟨g, 15, none⟩ = some a15 ∧ w.cell? ⟨g, 16, none⟩ = some a16 := by
  refine ⟨?_, ?_, ?_, ?_, ?_, ?_, ?_, ?_, ?_, ?_, ?_, ?_, ?_, ?_, ?_, ?_, ?_⟩ <;> (rw [cell_of_row _ _ _ _ _ _ h]; rfl)
theorem res_ct {fn : Func} {p u : Tmp} {ty : TypeId} {P : Program} (h : fn.results = #[.cell p ty, .tmp u]) (tmps : Array Value) (w : World) (g : Nat) (t : TypeId) (cs : Array Value) (fr : Nat × Nat) (fs : Array Field)
    (hp : tmps.getD p undef = .pointer (some ⟨g, 0, none⟩)) (hg : w.heap[g]? = some (.cells cs t fr)) (hu : P.underlying ty = some (.struct fs)) (hi : (P.info? ty).map (·.size) = some cs.size) (v : Value) (hv : tmps.getD u undef = v) :
    (results fn tmps).run P w = .ok (.tuple #[.agg cs, v]) w := by
  subst hv
  rw [results_cell_tmp h, hp]
  simp [asAddr, run_loadVar_row w g t ty cs fr (.struct fs) hg hu rfl hi]
abbrev evA (k : Int) (p : Pkt) (C : Option Addr) (cn cc : Nat) (E : Option Addr) (en ec : Nat) (L : Option Addr) (ln lc : Nat) (dl : Int) (dk ds : Bool) (df : Int) (A : Option Addr) (n c : Nat) : Value := .agg #[.int .i64 k, .bool p.mr, .int .i64 p.ty, .int .u16 p.sq, .int .u32 p.tm, .int .u32 p.ss, .slice C cn cc, .bool p.hx, .int .u16 p.pf, .slice E en ec, .slice L ln lc, .int .i64 p.pad, .int .i64 dl, .bool dk, .bool ds, .int .u16 df, .slice A n c]
abbrev evZ (k : Int) (A : Option Addr) (n c : Nat) : Value := .agg #[.int .i64 k, .bool false, .int .i64 0, .int .u16 0, .int .u32 0, .int .u32 0, .slice none 0 0, .bool false, .int .u16 0, .slice none 0 0, .slice none 0 0, .int .i64 0, .int .i64 0, .bool false, .bool false, .int .u16 0, .slice A n c]
set_option maxRecDepth 20000 in
set_option maxHeartbeats 4000000 in
theorem rsift_no (l : List UInt8) (Z : Int) (hZ : evE l = Z) (hne : Z ≠ 0) (A : Option Addr) (n c : Nat) (w : World) (h : Bts w A n c l) :
    Calls Try.prog 68 #[.slice A n c] w fun e w' => e = .returned (.tuple #[evZ 0 none 0 0, .int .i64 Z]) ∧ Below w.heap.size w w' := by
  have hnl := h.len
  have hnc := h.nc
  have HB := Lib.hid h
  by_cases h5 : 512 < l.length
  · have e : Z = 5 := by rw [← hZ]; unfold evE; rw [if_pos h5]
    subst e
    have g : decide ((512 : Int) < (n : Int)) = true := by simp; omega
    clear hZ hne h
    go_enter Try.func68, Try.ntmps68
    go_upto_region 1 with fail
    have hE0 := heap_alloc_new w (.cells #[.int .i64 0, .bool false, .int .i64 0, .int .u16 0, .int .u32 0, .int .u32 0, .slice none 0 0, .bool false, .int .u16 0, .slice none 0 0, .slice none 0 0, .int .i64 0, .int .i64 0, .bool false, .bool false, .int .u16 0, .slice none 0 0] 111)
    have hb0 := al_b w (.cells #[.int .i64 0, .bool false, .int .i64 0, .int .u16 0, .int .u32 0, .int .u32 0, .slice none 0 0, .bool false, .int .u16 0, .slice none 0 0, .slice none 0 0, .int .i64 0, .int .i64 0, .bool false, .bool false, .int .u16 0, .slice none 0 0] 111)
    generalize w.alloc (.cells #[.int .i64 0, .bool false, .int .i64 0, .int .u16 0, .int .u32 0, .int .u32 0, .slice none 0 0, .bool false, .int .u16 0, .slice none 0 0, .slice none 0 0, .int .i64 0, .int .i64 0, .bool false, .bool false, .int .u16 0, .slice none 0 0] 111) = w0 at *
    go_wp2_with (refine wpList_store_blk rfl 111 (.tmp 2) (.tmp 13) rfl w.heap.size _ #[.int .i64 0, .bool false, .int .i64 0, .int .u16 0, .int .u32 0, .int .u32 0, .slice none 0 0, .bool false, .int .u16 0, .slice none 0 0, .slice none 0 0, .int .i64 0, .int .i64 0, .bool false, .bool false, .int .u16 0, .slice none 0 0] _ rfl rfl hE0 rfl (by kernel_rfl) (by simp [Value.oneCell']) ?_; intro w7 hiw7 hgw7)
    exact bodyPost_ret (v := .tuple #[evZ 0 none 0 0, .int .i64 5]) (res_ct (ty := 111) rfl _ _ w.heap.size _ _ _ _ rfl hiw7 Try.underlying111 (by kernel_rfl) _ rfl) rfl ⟨rfl, hb0.grown hgw7 hb0.size (fun k hk => by injection hk with hk; omega)⟩
  · have g : decide ((512 : Int) < (n : Int)) = false := by simp; omega
    by_cases h2 : l.length < 2
    · have e : Z = 2 := by rw [← hZ]; unfold evE; rw [if_neg h5, if_pos h2]
      subst e
      have g2 : decide ((n : Int) < 2) = true := by simp; omega
      clear hZ hne h
      go_enter Try.func68, Try.ntmps68
      go_upto_region 1 with fail
      have hE0 := heap_alloc_new w (.cells #[.int .i64 0, .bool false, .int .i64 0, .int .u16 0, .int .u32 0, .int .u32 0, .slice none 0 0, .bool false, .int .u16 0, .slice none 0 0, .slice none 0 0, .int .i64 0, .int .i64 0, .bool false, .bool false, .int .u16 0, .slice none 0 0] 111)
      have hb0 := al_b w (.cells #[.int .i64 0, .bool false, .int .i64 0, .int .u16 0, .int .u32 0, .int .u32 0, .slice none 0 0, .bool false, .int .u16 0, .slice none 0 0, .slice none 0 0, .int .i64 0, .int .i64 0, .bool false, .bool false, .int .u16 0, .slice none 0 0] 111)
      generalize w.alloc (.cells #[.int .i64 0, .bool false, .int .i64 0, .int .u16 0, .int .u32 0, .int .u32 0, .slice none 0 0, .bool false, .int .u16 0, .slice none 0 0, .slice none 0 0, .int .i64 0, .int .i64 0, .bool false, .bool false, .int .u16 0, .slice none 0 0] 111) = w0 at *
      go_wp2_with (refine wpList_store_blk rfl 111 (.tmp 2) (.tmp 18) rfl w.heap.size _ #[.int .i64 0, .bool false, .int .i64 0, .int .u16 0, .int .u32 0, .int .u32 0, .slice none 0 0, .bool false, .int .u16 0, .slice none 0 0, .slice none 0 0, .int .i64 0, .int .i64 0, .bool false, .bool false, .int .u16 0, .slice none 0 0] _ rfl rfl hE0 rfl (by kernel_rfl) (by simp [Value.oneCell']) ?_; intro w7 hiw7 hgw7)
      exact bodyPost_ret (v := .tuple #[evZ 0 none 0 0, .int .i64 2]) (res_ct (ty := 111) rfl _ _ w.heap.size _ _ _ _ rfl hiw7 Try.underlying111 (by kernel_rfl) _ rfl) rfl ⟨rfl, hb0.grown hgw7 hb0.size (fun k hk => by injection hk with hk; omega)⟩
    · have g2 : decide ((n : Int) < 2) = false := by simp; omega
      obtain ⟨ad, rfl, hc0⟩ := bts_byte h (k := 1) (by omega)
      have hc1 : (w.alloc (.cells #[.int .i64 0, .bool false, .int .i64 0, .int .u16 0, .int .u32 0, .int .u32 0, .slice none 0 0, .bool false, .int .u16 0, .slice none 0 0, .slice none 0 0, .int .i64 0, .int .i64 0, .bool false, .bool false, .int .u16 0, .slice none 0 0] 111)).cell? ⟨ad.block, ad.off + 1, none⟩ = some (.int .u8 (byteN l 1)) := below_cell (al_b w _) hc0
      clear hc0
      have n1 : 1 < n := by omega
      have n1' : (1 : Int) < n := by omega
      cases hf : fbB (byteN l 1)
      · have hm : mE l = Z := by rw [← hZ]; unfold evE; rw [if_neg h5, if_neg h2, hf]; rfl
        have hok : okD l = false := by rw [okD_mE, hm]; simpa using hne
        have HM := Lib.hid (And.intro hok hm)
        have hz : (Z != 0) = true := by simpa using hne
        have hc := fb_cases hf
        clear hZ hne h hm hf hok
        rcases hc with f1 | ⟨f1, f2⟩
        all_goals
          go_enter Try.func68, Try.ntmps68
          go_upto_region 1 with fail
          have hE0 := heap_alloc_new w (.cells #[.int .i64 0, .bool false, .int .i64 0, .int .u16 0, .int .u32 0, .int .u32 0, .slice none 0 0, .bool false, .int .u16 0, .slice none 0 0, .slice none 0 0, .int .i64 0, .int .i64 0, .bool false, .bool false, .int .u16 0, .slice none 0 0] 111)
          have hb0 := al_b w (.cells #[.int .i64 0, .bool false, .int .i64 0, .int .u16 0, .int .u32 0, .int .u32 0, .slice none 0 0, .bool false, .int .u16 0, .slice none 0 0, .slice none 0 0, .int .i64 0, .int .i64 0, .bool false, .bool false, .int .u16 0, .slice none 0 0] 111)
          generalize w.alloc (.cells #[.int .i64 0, .bool false, .int .i64 0, .int .u16 0, .int .u32 0, .int .u32 0, .slice none 0 0, .bool false, .int .u16 0, .slice none 0 0, .slice none 0 0, .int .i64 0, .int .i64 0, .bool false, .bool false, .int .u16 0, .slice none 0 0] 111) = w0 at *
          go_upto_region 12 with (go_at_call 80; (with_reducible refine (media_no l Z HM.out.1 HM.out.2 (some ad) n c _ (HB.out.below hb0)).mono ?_); rintro e w1 ⟨C, cn, cc, E, en, ec, L, ln, lc, rfl, HP, hb1⟩; have hE := blk_below hE0 hb1; have hB := below_next hb0 hb1; have hE2 := al_keep (al_keep hE (.cells #[.bool false, .int .i64 0, .int .u16 0, .int .u32 0, .int .u32 0, .slice C cn cc, .bool false, .int .u16 0, .slice E en ec, .slice L ln lc, .int .i64 0] 39)) (.cells #[.int .i64 0, .bool false, .bool false, .int .u16 0] 109))
          have hBW := below_al (below_al hB (.cells #[.bool false, .int .i64 0, .int .u16 0, .int .u32 0, .int .u32 0, .slice C cn cc, .bool false, .int .u16 0, .slice E en ec, .slice L ln lc, .int .i64 0] 39)) (.cells #[.int .i64 0, .bool false, .bool false, .int .u16 0] 109)
          generalize (w1.alloc (.cells #[.bool false, .int .i64 0, .int .u16 0, .int .u32 0, .int .u32 0, .slice C cn cc, .bool false, .int .u16 0, .slice E en ec, .slice L ln lc, .int .i64 0] 39)).alloc (.cells #[.int .i64 0, .bool false, .bool false, .int .u16 0] 109) = W at *
          go_wp2_with (refine wpList_store_blk rfl 111 (.tmp 2) (.tmp 48) rfl w.heap.size _ #[.int .i64 0, .bool false, .int .i64 0, .int .u16 0, .int .u32 0, .int .u32 0, .slice none 0 0, .bool false, .int .u16 0, .slice none 0 0, .slice none 0 0, .int .i64 0, .int .i64 0, .bool false, .bool false, .int .u16 0, .slice none 0 0] _ rfl rfl hE2 rfl (by kernel_rfl) (by simp [Value.oneCell']) ?_; intro w7 hiw7 hgw7)
          exact bodyPost_ret (v := .tuple #[evZ 0 none 0 0, .int .i64 Z]) (res_ct (ty := 111) rfl _ _ w.heap.size _ _ _ _ rfl hiw7 Try.underlying111 (by kernel_rfl) _ rfl) rfl ⟨rfl, hBW.grown hgw7 hBW.size (fun k hk => by injection hk with hk; omega)⟩
      · have hm : (Z : Int) = (getsE l : Nat) := by rw [← hZ]; unfold evE; rw [if_neg h5, if_neg h2, hf]; rfl
        have HE := Lib.hid hm
        have hz : (Z != 0) = true := by simpa using hne
        obtain ⟨f1, f2⟩ := fb_yes hf
        clear hZ hne h hm hf
        go_enter Try.func68, Try.ntmps68
        go_upto_region 1 with fail
        have hE0 := heap_alloc_new w (.cells #[.int .i64 0, .bool false, .int .i64 0, .int .u16 0, .int .u32 0, .int .u32 0, .slice none 0 0, .bool false, .int .u16 0, .slice none 0 0, .slice none 0 0, .int .i64 0, .int .i64 0, .bool false, .bool false, .int .u16 0, .slice none 0 0] 111)
        have hb0 := al_b w (.cells #[.int .i64 0, .bool false, .int .i64 0, .int .u16 0, .int .u32 0, .int .u32 0, .slice none 0 0, .bool false, .int .u16 0, .slice none 0 0, .slice none 0 0, .int .i64 0, .int .i64 0, .bool false, .bool false, .int .u16 0, .slice none 0 0] 111)
        generalize w.alloc (.cells #[.int .i64 0, .bool false, .int .i64 0, .int .u16 0, .int .u32 0, .int .u32 0, .slice none 0 0, .bool false, .int .u16 0, .slice none 0 0, .slice none 0 0, .int .i64 0, .int .i64 0, .bool false, .bool false, .int .u16 0, .slice none 0 0] 111) = w0 at *
        go_wp2_with (first
          | (go_at_call 35; (with_reducible refine (rgetI_v (some ad) n c l _ (HB.out.below hb0) _ Z _ HE.out rfl rfl).mono ?_); rintro e w1 ⟨A1, cA1, xs, rfl, HI, HO, hb1⟩; have hE := blk_below hE0 hb1; have hB := below_next hb0 hb1)
          | (refine wpList_store_blk rfl 111 (.tmp 2) (.tmp 36) rfl w.heap.size _ #[.int .i64 0, .bool false, .int .i64 0, .int .u16 0, .int .u32 0, .int .u32 0, .slice none 0 0, .bool false, .int .u16 0, .slice none 0 0, .slice none 0 0, .int .i64 0, .int .i64 0, .bool false, .bool false, .int .u16 0, .slice none 0 0] _ rfl rfl hE rfl (by kernel_rfl) (by simp [Value.oneCell']) ?_; intro w7 hiw7 hgw7))
        exact bodyPost_ret (v := .tuple #[evZ 0 none 0 0, .int .i64 Z]) (res_ct (ty := 111) rfl _ _ w.heap.size _ _ _ _ rfl hiw7 Try.underlying111 (by kernel_rfl) _ rfl) rfl ⟨rfl, hB.grown hgw7 hB.size (fun k hk => by injection hk with hk; omega)⟩
set_option maxRecDepth 20000 in
set_option maxHeartbeats 4000000 in
theorem rsift_fb (l : List UInt8) (is : List Itm) (k : Nat) (h5 : l.length ≤ 512) (h2 : 2 ≤ l.length) (hf : fbB (byteN l 1) = true) (hE : getsE l = 0) (hi : getsL l = is) (hk : is.length = k) (A : Option Addr) (n c : Nat) (w : World) (h : Bts w A n c l) :
    Calls Try.prog 68 #[.slice A n c] w fun e w' => ∃ A' c' xs, e = .returned (.tuple #[evZ 2 A' k c', .int .i64 0]) ∧ Hid (itm xs = is) ∧ Hid (Its w' A' k c' xs) ∧ Below w.heap.size w w' := by
  have hnl := h.len
  have hnc := h.nc
  have HB := Lib.hid h
  have g : decide ((512 : Int) < (n : Int)) = false := by simp; omega
  have g2 : decide ((n : Int) < 2) = false := by simp; omega
  obtain ⟨ad, rfl, hc0⟩ := bts_byte h (k := 1) (by omega)
  have hc1 : (w.alloc (.cells #[.int .i64 0, .bool false, .int .i64 0, .int .u16 0, .int .u32 0, .int .u32 0, .slice none 0 0, .bool false, .int .u16 0, .slice none 0 0, .slice none 0 0, .int .i64 0, .int .i64 0, .bool false, .bool false, .int .u16 0, .slice none 0 0] 111)).cell? ⟨ad.block, ad.off + 1, none⟩ = some (.int .u8 (byteN l 1)) := below_cell (al_b w _) hc0
  clear hc0
  have n1 : 1 < n := by omega
  have n1' : (1 : Int) < n := by omega
  obtain ⟨f1, f2⟩ := fb_yes hf
  have HE : Hid ((0 : Int) = (getsE l : Nat)) := by show _ = _; rw [hE]; rfl
  have HI0 := Lib.hid (And.intro hi hk)
  clear h h5 h2 hf hE hi hk
  go_enter Try.func68, Try.ntmps68
  go_upto_region 1 with fail
  have hE0 := heap_alloc_new w (.cells #[.int .i64 0, .bool false, .int .i64 0, .int .u16 0, .int .u32 0, .int .u32 0, .slice none 0 0, .bool false, .int .u16 0, .slice none 0 0, .slice none 0 0, .int .i64 0, .int .i64 0, .bool false, .bool false, .int .u16 0, .slice none 0 0] 111)
  have hb0 := al_b w (.cells #[.int .i64 0, .bool false, .int .i64 0, .int .u16 0, .int .u32 0, .int .u32 0, .slice none 0 0, .bool false, .int .u16 0, .slice none 0 0, .slice none 0 0, .int .i64 0, .int .i64 0, .bool false, .bool false, .int .u16 0, .slice none 0 0] 111)
  generalize w.alloc (.cells #[.int .i64 0, .bool false, .int .i64 0, .int .u16 0, .int .u32 0, .int .u32 0, .slice none 0 0, .bool false, .int .u16 0, .slice none 0 0, .slice none 0 0, .int .i64 0, .int .i64 0, .bool false, .bool false, .int .u16 0, .slice none 0 0] 111) = w0 at *
  go_wp2_with (first
    | (go_at_call 35; (with_reducible refine (rgetI_v (some ad) n c l _ (HB.out.below hb0) is 0 k HE.out HI0.out.1 HI0.out.2).mono ?_); rintro e w1 ⟨A1, cA1, xs, rfl, HI, HO, hb1⟩; have hE := blk_below hE0 hb1; have hB := below_next hb0 hb1)
    | (refine wpList_store_blk rfl 111 (.tmp 2) (.tmp 39) rfl w.heap.size _ #[.int .i64 2, .bool false, .int .i64 0, .int .u16 0, .int .u32 0, .int .u32 0, .slice none 0 0, .bool false, .int .u16 0, .slice none 0 0, .slice none 0 0, .int .i64 0, .int .i64 0, .bool false, .bool false, .int .u16 0, .slice A1 k cA1] _ rfl rfl hE rfl (by kernel_rfl) (by simp [Value.oneCell']) ?_; intro w7 hiw7 hgw7))
  exact bodyPost_ret (v := .tuple #[evZ 2 A1 k cA1, .int .i64 0]) (res_ct (ty := 111) rfl _ _ w.heap.size _ _ _ _ rfl hiw7 Try.underlying111 (by kernel_rfl) _ rfl) rfl ⟨A1, cA1, xs, rfl, HI, (HO.out.over hE (by decide) (by decide) (by decide) (by decide) hgw7).its, hB.grown hgw7 hB.size (fun k hk => by injection hk with hk; omega)⟩
set_option maxRecDepth 20000 in
set_option maxHeartbeats 4000000 in
theorem rsift_md (l : List UInt8) (q : Pkt) (dl : Int) (dk ds : Bool) (df : Int) (hE : lookE l = 0) (hq : getP l = q) (hd : dE q.pl = 0) (h1 : (dL q.pl : Int) = dl) (h2 : dK q.pl = dk) (h3 : dS q.pl = ds) (h4 : (dF q.pl : Int) = df) (A : Option Addr) (n c : Nat) (w : World) (h : Bts w A n c l) :
    Calls Try.prog 68 #[.slice A n c] w fun e w' => ∃ C cn cc E en ec L ln lc, e = .returned (.tuple #[evA 1 q C cn cc E en ec L ln lc dl dk ds df none 0 0, .int .i64 0]) ∧ Hid (PRow w' q C cn cc E en ec L ln lc) ∧ Below w.heap.size w w' := by
  subst h1 h2 h3 h4
  have hnl := h.len
  have hnc := h.nc
  have HB := Lib.hid h
  obtain ⟨k5, k2, _, hf, _⟩ := look_ok hE
  have g : decide ((512 : Int) < (n : Int)) = false := by simp; omega
  have g2 : decide ((n : Int) < 2) = false := by simp; omega
  obtain ⟨ad, rfl, hc0⟩ := bts_byte h (k := 1) (by omega)
  have hc1 : (w.alloc (.cells #[.int .i64 0, .bool false, .int .i64 0, .int .u16 0, .int .u32 0, .int .u32 0, .slice none 0 0, .bool false, .int .u16 0, .slice none 0 0, .slice none 0 0, .int .i64 0, .int .i64 0, .bool false, .bool false, .int .u16 0, .slice none 0 0] 111)).cell? ⟨ad.block, ad.off + 1, none⟩ = some (.int .u8 (byteN l 1)) := below_cell (al_b w _) hc0
  clear hc0
  have n1 : 1 < n := by omega
  have n1' : (1 : Int) < n := by omega
  have hc := fb_cases hf
  have hok : okD l = true := by rw [okD_mE, mE_yes hq hE, hd]; rfl
  have HQ := Lib.hid (And.intro hok hq)
  clear h hE hf hq hd k5 k2 hok
  rcases hc with f1 | ⟨f1, f2⟩
  all_goals
    go_enter Try.func68, Try.ntmps68
    go_upto_region 1 with fail
    have hE0 := heap_alloc_new w (.cells #[.int .i64 0, .bool false, .int .i64 0, .int .u16 0, .int .u32 0, .int .u32 0, .slice none 0 0, .bool false, .int .u16 0, .slice none 0 0, .slice none 0 0, .int .i64 0, .int .i64 0, .bool false, .bool false, .int .u16 0, .slice none 0 0] 111)
    have hb0 := al_b w (.cells #[.int .i64 0, .bool false, .int .i64 0, .int .u16 0, .int .u32 0, .int .u32 0, .slice none 0 0, .bool false, .int .u16 0, .slice none 0 0, .slice none 0 0, .int .i64 0, .int .i64 0, .bool false, .bool false, .int .u16 0, .slice none 0 0] 111)
    generalize w.alloc (.cells #[.int .i64 0, .bool false, .int .i64 0, .int .u16 0, .int .u32 0, .int .u32 0, .slice none 0 0, .bool false, .int .u16 0, .slice none 0 0, .slice none 0 0, .int .i64 0, .int .i64 0, .bool false, .bool false, .int .u16 0, .slice none 0 0] 111) = w0 at *
    go_upto_region 13 with (go_at_call 80; (with_reducible refine (media_ok l q HQ.out.1 HQ.out.2 (some ad) n c _ (HB.out.below hb0)).mono ?_); rintro e w1 ⟨C, cn, cc, E, en, ec, L, ln, lc, rfl, HP, hb1⟩; have hE := blk_below hE0 hb1; have hB := below_next hb0 hb1; have hE2 := al_keep (al_keep hE (.cells #[.bool q.mr, .int .i64 q.ty, .int .u16 q.sq, .int .u32 q.tm, .int .u32 q.ss, .slice C cn cc, .bool q.hx, .int .u16 q.pf, .slice E en ec, .slice L ln lc, .int .i64 q.pad] 39)) (.cells #[.int .i64 (dL q.pl), .bool (dK q.pl), .bool (dS q.pl), .int .u16 (dF q.pl)] 109); obtain ⟨p0, p1, p2, p3, p4, p5, p6, p7, p8, p9, p10⟩ := eleven_cells (al_keep (heap_alloc_new w1 (.cells #[.bool q.mr, .int .i64 q.ty, .int .u16 q.sq, .int .u32 q.tm, .int .u32 q.ss, .slice C cn cc, .bool q.hx, .int .u16 q.pf, .slice E en ec, .slice L ln lc, .int .i64 q.pad] 39)) (.cells #[.int .i64 (dL q.pl), .bool (dK q.pl), .bool (dS q.pl), .int .u16 (dF q.pl)] 109)); obtain ⟨d0, d1, d2, d3⟩ := row4_cells (heap_alloc_new (w1.alloc (.cells #[.bool q.mr, .int .i64 q.ty, .int .u16 q.sq, .int .u32 q.tm, .int .u32 q.ss, .slice C cn cc, .bool q.hx, .int .u16 q.pf, .slice E en ec, .slice L ln lc, .int .i64 q.pad] 39)) (.cells #[.int .i64 (dL q.pl), .bool (dK q.pl), .bool (dS q.pl), .int .u16 (dF q.pl)] 109)); rw [al_size] at d0 d1 d2 d3)
    have hBW := below_al (below_al hB (.cells #[.bool q.mr, .int .i64 q.ty, .int .u16 q.sq, .int .u32 q.tm, .int .u32 q.ss, .slice C cn cc, .bool q.hx, .int .u16 q.pf, .slice E en ec, .slice L ln lc, .int .i64 q.pad] 39)) (.cells #[.int .i64 (dL q.pl), .bool (dK q.pl), .bool (dS q.pl), .int .u16 (dF q.pl)] 109)
    have HPW := Lib.hid ((HP.out.below (al_b _ (.cells #[.bool q.mr, .int .i64 q.ty, .int .u16 q.sq, .int .u32 q.tm, .int .u32 q.ss, .slice C cn cc, .bool q.hx, .int .u16 q.pf, .slice E en ec, .slice L ln lc, .int .i64 q.pad] 39))).below (al_b _ (.cells #[.int .i64 (dL q.pl), .bool (dK q.pl), .bool (dS q.pl), .int .u16 (dF q.pl)] 109)))
    generalize (w1.alloc (.cells #[.bool q.mr, .int .i64 q.ty, .int .u16 q.sq, .int .u32 q.tm, .int .u32 q.ss, .slice C cn cc, .bool q.hx, .int .u16 q.pf, .slice E en ec, .slice L ln lc, .int .i64 q.pad] 39)).alloc (.cells #[.int .i64 (dL q.pl), .bool (dK q.pl), .bool (dS q.pl), .int .u16 (dF q.pl)] 109) = W at *
    go_wp2_with (refine wpList_store_blk rfl 111 (.tmp 2) (.tmp 52) rfl w.heap.size _ #[.int .i64 1, .bool q.mr, .int .i64 q.ty, .int .u16 q.sq, .int .u32 q.tm, .int .u32 q.ss, .slice C cn cc, .bool q.hx, .int .u16 q.pf, .slice E en ec, .slice L ln lc, .int .i64 q.pad, .int .i64 (dL q.pl), .bool (dK q.pl), .bool (dS q.pl), .int .u16 (dF q.pl), .slice none 0 0] _ rfl rfl hE2 rfl (by kernel_rfl) (by simp [Value.oneCell']) ?_; intro w7 hiw7 hgw7)
    exact bodyPost_ret (v := .tuple #[evA 1 q C cn cc E en ec L ln lc (dL q.pl) (dK q.pl) (dS q.pl) (dF q.pl) none 0 0, .int .i64 0]) (res_ct (ty := 111) rfl _ _ w.heap.size _ _ _ _ rfl hiw7 Try.underlying111 (by kernel_rfl) _ rfl) rfl ⟨C, cn, cc, E, en, ec, L, ln, lc, rfl, (HPW.out.over hE2 (by decide) (by decide) hgw7).row, hBW.grown hgw7 hBW.size (fun k hk => by injection hk with hk; omega)⟩
end Go.Proofs.Ytknlkmencdlpcaa
