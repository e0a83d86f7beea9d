/-
Bytes copied (law 6); a packet and its descriptor, read; what PatchOf of the reference tells.
-/
import Derived.Test.YtaomdinddccpeaaPat6
import Derived.Test.YtaomdinddccpeaaPat4
import Derived.Test.YtaomdinddccpeaaDesc4
namespace Go.Proofs.Ytaomdinddccpeaa
set_option linter.unusedVariables false
set_option linter.unusedSimpArgs false
open Go Go.RowKit

set_option maxHeartbeats 1000000 in
theorem copied_any (A : Option Addr) (n c : Nat) (l : List UInt8) (w : World) (h : Bts w A n c l) (hn : n ≤ 140737488351232) :
    Calls Try.prog 15 #[.slice A n c] w fun e w' => ∃ B c', e = .returned (.slice B n c') ∧ w'.ownsRow w.heap.size 5 1 (.slice B n c') n (bys l) ∧ Below w.heap.size w w' := by
  have HB := Lib.hid h
  have hln := h.len
  clear h
  go_enter Try.func15, Try.ntmps15
  go_wp2_with (at_builtin; refine wpList_app slU8 rfl _ _ rfl w.heap.size none 0 0 [] rfl (World.ownsRow_nil _ _ _ _) A n c (bys l) rfl (by rw [bys_length, hln, Nat.mul_one]) HB.out.rd (bys_one _) (by omega) (Nat.le_refl _) ?_; intro A4 c4 w4 ho4 hg4 hA4; simp only [Nat.zero_add, List.nil_append] at ho4; have hb4 := (Below.refl w.heap.size w).grown hg4 (Nat.le_refl _) (by simp))
  go_ret
  simp only [Nat.zero_add]
  exact ⟨A4, c4, rfl, ho4, hb4⟩
theorem media_ok (l : List UInt8) (q : Pkt) (hok : okD l = true) (hq : getP l = q) (A : Option Addr) (n c : Nat) (w : World) (h : Bts w A n c l) :
    Calls Try.prog 27 #[.slice A n c] w fun e w' => ∃ C cn cc E en ec L ln lc, e = .returned (.tuple #[.agg #[.bool q.mr, .int .i64 q.ty, .int .u16 q.sq, .int .u32 q.tm, .int .u32 q.ss, .slice C cn cc, .bool q.hx, .int .u16 q.pf, .slice E en ec, .slice L ln lc, .int .i64 q.pad], .agg #[.int .i64 (dL q.pl), .bool (dK q.pl), .bool (dS q.pl), .int .u16 (dF q.pl)], .int .i64 0]) ∧
      Hid (POwn w' w.heap.size q C cn cc E en ec L ln lc) ∧ Below w.heap.size w w' := by
  have he := okD_look hok
  have e1 : mP l = q := by unfold mP; rw [hok, if_pos rfl, hq]
  have e2 : plD l = q.pl := by unfold plD; rw [if_pos he, ← hq, (getP_f he).2.2.2]
  have e3 : mE l = 0 := by rw [okD_mE] at hok; simpa using hok
  have := media_any A n c l w h
  rw [e1, e2, e3] at this
  exact this
theorem media_no (l : List UInt8) (z : Int) (hok : okD l = false) (hz : mE l = z) (A : Option Addr) (n c : Nat) (w : World) (h : Bts w A n c l) :
    Calls Try.prog 27 #[.slice A n c] w fun e w' => ∃ C cn cc E en ec L ln lc, e = .returned (.tuple #[.agg #[.bool false, .int .i64 0, .int .u16 0, .int .u32 0, .int .u32 0, .slice C cn cc, .bool false, .int .u16 0, .slice E en ec, .slice L ln lc, .int .i64 0], .agg #[.int .i64 0, .bool false, .bool false, .int .u16 0], .int .i64 z]) ∧
      Hid (POwn w' w.heap.size zeroP C cn cc E en ec L ln lc) ∧ Below w.heap.size w w' := by
  have e1 : mP l = zeroP := by unfold mP; rw [hok]; rfl
  obtain ⟨k0, k1, k2, k3⟩ := plD_no hok
  have := media_any A n c l w h
  rw [e1, k0, k1, k2, k3, hz] at this
  exact this
theorem mE_ne {l : List UInt8} (hok : okD l = false) : mE l ≠ 0 := by
  rw [okD_mE] at hok
  simpa using hok
theorem two_second {w1 w5 : World} {o1 o2 : Obj} (hg5 : ((w1.alloc o1).alloc o2).grownBy w5 (some w1.heap.size)) : w5.heap[w1.heap.size + 1]? = some o2 := by
  have hT := two_new w1 o1 o2
  exact (hg5.block _ (by rw [hT.2.2.2]; omega) (by simp)).trans hT.2.2.1
theorem two_stored {w1 w5 w6 : World} {o1 o2 p : Obj} (hg5 : ((w1.alloc o1).alloc o2).grownBy w5 (some w1.heap.size)) (hi5 : w5.heap[w1.heap.size]? = some p) (hg6 : w5.grownBy w6 (some (w1.heap.size + 1))) :
    Below w1.heap.size w1 w6 ∧ w6.heap[w1.heap.size]? = some p ∧ w1.heap.size + 2 ≤ w6.heap.size := by
  have hT := two_new w1 o1 o2
  have h5 := hg5.size
  have h6 := hg6.size
  rw [hT.2.2.2] at h5
  refine ⟨?_, (hg6.block _ (by omega) (by simp)).trans hi5, by omega⟩
  exact (hT.1.grown hg5 hT.1.size (fun q hq => by injection hq with hq; omega)).grown hg6 (by omega) (fun q hq => by injection hq with hq; omega)
theorem four_keep {w w' : World} {g p : Nat} {o : Obj} (h : w.heap[p]? = some o) (hg : w.grownBy w' (some g)) (hne : p ≠ g) : w'.heap[p]? = some o := by
  exact (hg.block _ (blk_lt h) (by simp; omega)).trans h
set_option maxRecDepth 20000 in
set_option maxHeartbeats 4000000 in
theorem rofP_any (A : Option Addr) (n c : Nat) (l : List UInt8) (w : World) (h : Bts w A n c l) :
    Calls Try.prog 21 #[.slice A n c] w fun e w' => e = .returned (.tuple #[.agg #[.int .u16 (oS l), .int .u32 (oT l), .int .u32 (oR l), .int .u16 (oF l)], .bool (okD l)]) ∧ Below w.heap.size w w' := by
  have HB := Lib.hid h
  clear h
  cases hok : okD l
  · have HK := Lib.hid hok
    obtain ⟨z, hz⟩ : ∃ z, mE l = z := ⟨_, rfl⟩
    have hne := mE_ne hok
    rw [hz] at hne
    have HZ := Lib.hid hz
    have HO : Hid (oS l = 0 ∧ oT l = 0 ∧ oR l = 0 ∧ oF l = 0) := by refine ⟨?_, ?_, ?_, ?_⟩ <;> simp [oS, oT, oR, oF, hok]
    clear hok hz
    go_enter Try.func21, Try.ntmps21
    go_wp2_with (first
      | (go_at_call 27; (with_reducible refine (media_no l z HK.out HZ.out A n c _ (HB.out.below ((Below.refl w.heap.size w).alloc (Nat.le_refl _) _))).mono ?_); rintro e w1 ⟨C, cn, cc, E, en, ec, L, ln, lc, rfl, HP, hb1⟩; have hbw := ((Below.refl w.heap.size w).alloc (Nat.le_refl _) _).trans (hb1.mono (by simp)); have hit1 := blk_below (blk_alloc w _) hb1)
      | (refine wpList_store_blk rfl 39 (.tmp 4) (.tmp 10) rfl w1.heap.size _ #[.bool false, .int .i64 0, .int .u16 0, .int .u32 0, .int .u32 0, .slice C cn cc, .bool false, .int .u16 0, .slice E en ec, .slice L ln lc, .int .i64 0] _ rfl rfl (two_new w1 _ _).2.1 rfl (by kernel_rfl) (by simp [Value.oneCell']) ?_; intro w5 hi5 hg5; have hj5 := two_second hg5)
      | (refine wpList_store_blk rfl 52 (.tmp 5) (.tmp 11) rfl (w1.heap.size + 1) _ #[.int .i64 0, .bool false, .bool false, .int .u16 0] _ rfl rfl hj5 rfl (by kernel_rfl) (by simp [Value.oneCell']) ?_; intro w6 hi6 hg6; obtain ⟨hbs, hi7, hs6⟩ := two_stored hg5 hi5 hg6; have hit := blk_below hit1 hbs; have hb6 := hbw.trans (hbs.mono hbw.size))
      | (refine wpList_store_blk rfl 26 (.tmp 2) (.tmp 15) rfl w.heap.size _ #[.int .u16 0, .int .u32 0, .int .u32 0, .int .u16 0] _ rfl rfl hit rfl (by kernel_rfl) (by simp [Value.oneCell']) ?_; intro w7 hi8 hg7; obtain ⟨r0, r1, r2, r3⟩ := four_set hi8))
    exact bodyPost_ret (v := .tuple #[.agg #[.int .u16 0, .int .u32 0, .int .u32 0, .int .u16 0], .bool false]) (by simp [results, Try.results21, go_sem, r0, r1, r2, r3]) rfl ⟨by rw [HO.out.1, HO.out.2.1, HO.out.2.2.1, HO.out.2.2.2]; rfl, hb6.grown hg7 hb6.size (fun q hq => by injection hq with hq; omega)⟩
  · have HK := Lib.hid hok
    obtain ⟨q, hq⟩ : ∃ q, getP l = q := ⟨_, rfl⟩
    have HQ := Lib.hid hq
    have HO : Hid (oS l = q.sq ∧ oT l = q.tm ∧ oR l = q.ss ∧ oF l = dF q.pl) := by
      obtain ⟨f1, f2, f3, f4⟩ := getP_f (okD_look hok)
      refine ⟨?_, ?_, ?_, ?_⟩ <;> simp only [oS, oT, oR, oF, hok, if_true, ← hq, f1, f2, f3, f4]
    clear hok hq
    go_enter Try.func21, Try.ntmps21
    go_wp2_with (first
      | (go_at_call 27; (with_reducible refine (media_ok l q HK.out HQ.out A n c _ (HB.out.below ((Below.refl w.heap.size w).alloc (Nat.le_refl _) _))).mono ?_); rintro e w1 ⟨C, cn, cc, E, en, ec, L, ln, lc, rfl, HP, hb1⟩; have hbw := ((Below.refl w.heap.size w).alloc (Nat.le_refl _) _).trans (hb1.mono (by simp)); have hit1 := blk_below (blk_alloc w _) hb1)
      | (refine wpList_store_blk rfl 39 (.tmp 4) (.tmp 10) rfl w1.heap.size _ #[.bool q.mr, .int .i64 q.ty, .int .u16 q.sq, .int .u32 q.tm, .int .u32 q.ss, .slice C cn cc, .bool q.hx, .int .u16 q.pf, .slice E en ec, .slice L ln lc, .int .i64 q.pad] _ rfl rfl (two_new w1 _ _).2.1 rfl (by kernel_rfl) (by simp [Value.oneCell']) ?_; intro w5 hi5 hg5; have hj5 := two_second hg5)
      | (refine wpList_store_blk rfl 52 (.tmp 5) (.tmp 11) rfl (w1.heap.size + 1) _ #[.int .i64 (dL q.pl), .bool (dK q.pl), .bool (dS q.pl), .int .u16 (dF q.pl)] _ rfl rfl hj5 rfl (by kernel_rfl) (by simp [Value.oneCell']) ?_; intro w6 hi6 hg6; obtain ⟨hbs, hi7, hs6⟩ := two_stored hg5 hi5 hg6; have hit := blk_below hit1 hbs; have hb6 := hbw.trans (hbs.mono hbw.size); obtain ⟨x0, x1, x2, x3, x4, x5, x6, x7, x8, x9, x10⟩ := eleven_cells hi7; obtain ⟨y0, y1, y2, y3⟩ := four_set hi6)
      | (refine wpList_store_blk rfl 26 (.tmp 2) (.tmp 24) rfl w.heap.size _ #[.int .u16 q.sq, .int .u32 q.tm, .int .u32 q.ss, .int .u16 (dF q.pl)] _ rfl rfl hit rfl (by kernel_rfl) (by simp [Value.oneCell']) ?_; intro w7 hi8 hg7; obtain ⟨r0, r1, r2, r3⟩ := four_set hi8))
    exact bodyPost_ret (v := .tuple #[.agg #[.int .u16 q.sq, .int .u32 q.tm, .int .u32 q.ss, .int .u16 (dF q.pl)], .bool true]) (by simp [results, Try.results21, go_sem, r0, r1, r2, r3]) rfl ⟨by rw [HO.out.1, HO.out.2.1, HO.out.2.2.1, HO.out.2.2.2], hb6.grown hg7 hb6.size (fun q hq => by injection hq with hq; omega)⟩
end Go.Proofs.Ytaomdinddccpeaa
