/-
PatchOne: Seq, Time and Ssrc put the packet with that field changed, or change nothing.
-/
import Derived.Test.YtaomdinddccpeaaPatchLast
namespace Go.Proofs.Ytaomdinddccpeaa
set_option linter.unusedVariables false
set_option linter.unusedSimpArgs false
open Go Go.RowKit

/-- What a round keeps: the copied bytes, and the packet. -/
structure OneS (w3 w : World) (g : Nat) (cs : Array Value) (C' : Option Addr) (n c' : Nat) (m : List UInt8) : Prop where
  own : w.ownsRow w3.heap.size 5 1 (.slice C' n c') n (bys m)
  q : w.heap[g]? = some (.cells cs 39 (0, 0))
  b : Below w3.heap.size w3 w
  ge : w3.heap.size ≤ g
section
variable {w3 w w' : World} {g n c' : Nat} {cs cs' : Array Value} {C' : Option Addr} {m m' : List UInt8}
theorem OneS.call (h : OneS w3 w g cs C' n c' m) (ho : w'.ownsRow w3.heap.size 5 1 (.slice C' n c') n (bys m')) (hg : w.grownBy w' (C'.map Addr.block)) : OneS w3 w' g cs C' n c' m' :=
  ⟨ho, blk_over h.own h.q (by decide) hg, h.b.grown hg h.b.size (own_from h.own), h.ge⟩
theorem OneS.set (h : OneS w3 w g cs C' n c' m) (hq : w'.heap[g]? = some (.cells cs' 39 (0, 0))) (hg : w.grownBy w' (some g)) : OneS w3 w' g cs' C' n c' m :=
  ⟨h.own.kept hg (own_off h.own h.q (by decide)), hq, h.b.grown hg h.b.size (fun k hk => by injection hk with hk; have := h.ge; omega), h.ge⟩
end
theorem seqP_v (base : Nat) (A : Option Addr) (n c : Nat) (l m : List UInt8) (z : Nat) (b : Bool) (hz : z < 65536) (hb : decide (lookE l = 0) = b) (hm : setL l 2 2 z = m) (w : World) (ho : w.ownsRow base 5 1 (.slice A n c) n (bys l)) :
    Calls Try.prog 23 #[.slice A n c, .int .u16 z] w fun e w' => e = .returned (.bool b) ∧
      w'.ownsRow base 5 1 (.slice A n c) n (bys m) ∧ w.grownBy w' (A.map Addr.block) := by
  subst hb hm
  exact seqP_any base A n c l z hz w ho
theorem timeP_v (base : Nat) (A : Option Addr) (n c : Nat) (l m : List UInt8) (z : Nat) (b : Bool) (hz : z < 4294967296) (hb : decide (lookE l = 0) = b) (hm : setL l 4 4 z = m) (w : World) (ho : w.ownsRow base 5 1 (.slice A n c) n (bys l)) :
    Calls Try.prog 24 #[.slice A n c, .int .u32 z] w fun e w' => e = .returned (.bool b) ∧
      w'.ownsRow base 5 1 (.slice A n c) n (bys m) ∧ w.grownBy w' (A.map Addr.block) := by
  subst hb hm
  exact timeP_any base A n c l z hz w ho
theorem ssrcP_v (base : Nat) (A : Option Addr) (n c : Nat) (l m : List UInt8) (z : Nat) (b : Bool) (hz : z < 4294967296) (hb : decide (lookE l = 0) = b) (hm : setL l 8 4 z = m) (w : World) (ho : w.ownsRow base 5 1 (.slice A n c) n (bys l)) :
    Calls Try.prog 25 #[.slice A n c, .int .u32 z] w fun e w' => e = .returned (.bool b) ∧
      w'.ownsRow base 5 1 (.slice A n c) n (bys m) ∧ w.grownBy w' (A.map Addr.block) := by
  subst hb hm
  exact ssrcP_any base A n c l z hz w ho
theorem three_a {w3 wd w5 : World} {C' : Option Addr} {n c' : Nat} {m : List UInt8} (hbd : Below w3.heap.size w3 wd) (ho : w5.ownsRow wd.heap.size 5 1 (.slice C' n c') n (bys m)) (hb : Below wd.heap.size wd w5) (o : Obj) : ∀ {cs : Array Value}, o = .cells cs 39 (0, 0) → OneS w3 (w5.alloc o) w5.heap.size cs C' n c' m := by
  intro cs h
  subst h
  have h5 := hbd.trans (hb.mono hbd.size)
  exact ⟨own_mono (ho.alloc _) hbd.size, blk_alloc _ _, h5.alloc h5.size _, h5.size⟩
theorem three_b {w3 wd w5 : World} {C' : Option Addr} {n c' : Nat} {m : List UInt8} {cs : Array Value} (hbd : Below w3.heap.size w3 wd) (ho : w5.ownsRow (wd.alloc (.cells cs 39)).heap.size 5 1 (.slice C' n c') n (bys m)) (hb : Below (wd.alloc (.cells cs 39)).heap.size (wd.alloc (.cells cs 39)) w5) : OneS w3 w5 wd.heap.size cs C' n c' m := by
  have ha := hbd.alloc hbd.size (.cells cs 39)
  have h5 := ha.trans (hb.mono ha.size)
  exact ⟨own_mono ho ha.size, blk_below (blk_alloc wd _) hb, h5, hbd.size⟩
set_option maxRecDepth 20000 in
set_option maxHeartbeats 8000000 in
theorem patchOne_no (A : Option Addr) (n c : Nat) (l : List UInt8) (sq tm ss : Nat) (w : World) (hB : Bts w A n c l) (hn : n ≤ 140737488351232) (bq : sq < 65536) (bt : tm < 4294967296) (bs : ss < 4294967296) (he : lookE l ≠ 0) :
    Calls Try.prog 4 #[.slice A n c, .int .u16 sq, .int .u32 tm, .int .u32 ss] w fun e w' => e = .returned (.bool true) ∧ Below w.heap.size w w' := by
  have HB := Lib.hid hB
  obtain ⟨q, hq⟩ : ∃ q, getP l = q := ⟨_, rfl⟩
  obtain ⟨F, hF⟩ : ∃ m, m = ((lookF l : Nat) : Int) := ⟨_, rfl⟩
  obtain ⟨T, hT⟩ : ∃ m, m = ((lookT l : Nat) : Int) := ⟨_, rfl⟩
  obtain ⟨Z, hZ⟩ : ∃ m, m = ((lookE l : Nat) : Int) := ⟨_, rfl⟩
  have HF : Hid (F = ((lookF l : Nat) : Int) ∧ T = ((lookT l : Nat) : Int) ∧ Z = ((lookE l : Nat) : Int)) := ⟨hF, hT, hZ⟩
  have HQ := Lib.hid hq
  have HL := Lib.hid hB.len
  have HOK : Hid (q.Ok) := by rw [← hq]; exact getP_ok l
  have HLE := Lib.hid (getP_lens l)
  have HM2 : Hid (decide (lookE l = 0) = false ∧ setL l 2 2 sq = l) := ⟨decide_eq_false he, by unfold setL; rw [if_neg he]⟩
  obtain ⟨y2, hy2⟩ : ∃ y, y = ((errP { q with sq := sq } : Nat) : Int) := ⟨_, rfl⟩
  obtain ⟨p2, hp2⟩ : ∃ y, outP { q with sq := sq } = y := ⟨_, rfl⟩
  obtain ⟨k2, hk2⟩ : ∃ y, p2.length = y := ⟨_, rfl⟩
  have HO2 : Hid (y2 = (errP { q with sq := sq } : Nat) ∧ outP { q with sq := sq } = p2 ∧ p2.length = k2) := ⟨hy2, hp2, hk2⟩
  clear hy2 hp2 hk2
  have HM3 : Hid (decide (lookE l = 0) = false ∧ setL l 4 4 tm = l) := ⟨decide_eq_false he, by unfold setL; rw [if_neg he]⟩
  obtain ⟨y3, hy3⟩ : ∃ y, y = ((errP { q with tm := tm } : Nat) : Int) := ⟨_, rfl⟩
  obtain ⟨p3, hp3⟩ : ∃ y, outP { q with tm := tm } = y := ⟨_, rfl⟩
  obtain ⟨k3, hk3⟩ : ∃ y, p3.length = y := ⟨_, rfl⟩
  have HO3 : Hid (y3 = (errP { q with tm := tm } : Nat) ∧ outP { q with tm := tm } = p3 ∧ p3.length = k3) := ⟨hy3, hp3, hk3⟩
  clear hy3 hp3 hk3
  have HM4 : Hid (decide (lookE l = 0) = false ∧ setL l 8 4 ss = l) := ⟨decide_eq_false he, by unfold setL; rw [if_neg he]⟩
  obtain ⟨y4, hy4⟩ : ∃ y, y = ((errP { q with ss := ss } : Nat) : Int) := ⟨_, rfl⟩
  obtain ⟨p4, hp4⟩ : ∃ y, outP { q with ss := ss } = y := ⟨_, rfl⟩
  obtain ⟨k4, hk4⟩ : ∃ y, p4.length = y := ⟨_, rfl⟩
  have HO4 : Hid (y4 = (errP { q with ss := ss } : Nat) ∧ outP { q with ss := ss } = p4 ∧ p4.length = k4) := ⟨hy4, hp4, hk4⟩
  clear hy4 hp4 hk4
  have hZ0 : (Z == 0) = false := by simp; omega
  clear hB hF hT hZ hq he
  go_enter Try.func4, Try.ntmps4
  go_wp2_with (first
    | (go_at_call 14; ((with_reducible refine (shown6_any _).mono ?_); rintro e w1 ⟨rfl, hb1⟩))
    | (go_at_call 22; ((with_reducible refine (rget_own l q F T Z HQ.out HF.out.1 HF.out.2.1 HF.out.2.2 A n c _ (HB.out.below hb1)).mono ?_); rintro e w2 ⟨C, cn, cc, E, en, ec, L, ln, lc, rfl, HP2, hb2⟩; have hw2 := hb1.trans (hb2.mono hb1.size); have hp3 := blk_alloc w2 (.cells #[.bool q.mr, .int .i64 q.ty, .int .u16 q.sq, .int .u32 q.tm, .int .u32 q.ss, .slice C cn cc, .bool q.hx, .int .u16 q.pf, .slice E en ec, .slice L ln lc, .int .i64 q.pad] 39); have hbA := (Below.refl w2.heap.size w2).alloc (Nat.le_refl _) (.cells #[.bool q.mr, .int .i64 q.ty, .int .u16 q.sq, .int .u32 q.tm, .int .u32 q.ss, .slice C cn cc, .bool q.hx, .int .u16 q.pf, .slice E en ec, .slice L ln lc, .int .i64 q.pad] 39); have hw3 := hw2.trans (hbA.mono hw2.size); have HP3 := Lib.hid ((HP2.out.below hbA).mono hb1.size); have hlt2 : w2.heap.size < (w2.alloc (.cells #[.bool q.mr, .int .i64 q.ty, .int .u16 q.sq, .int .u32 q.tm, .int .u32 q.ss, .slice C cn cc, .bool q.hx, .int .u16 q.pf, .slice E en ec, .slice L ln lc, .int .i64 q.pad] 39)).heap.size := (by simp); clear HP2)))
  generalize w2.alloc (.cells #[.bool q.mr, .int .i64 q.ty, .int .u16 q.sq, .int .u32 q.tm, .int .u32 q.ss, .slice C cn cc, .bool q.hx, .int .u16 q.pf, .slice E en ec, .slice L ln lc, .int .i64 q.pad] 39) = w3 at *
  clear hbA
  have HP30 := Lib.hid hp3
  clear hp3
  have ben : en ≤ 140737488351232 := by
    have h1 := HP3.out.row.hen
    have h2 := HLE.out.1
    rw [HQ.out] at h2
    omega
  have bln : ln ≤ 140737488351232 := by
    have h1 := HP3.out.row.hln
    have h2 := HLE.out.2
    rw [HQ.out] at h2
    omega
  go_loopw [13] (fun ix wr => ∃ K : Int, ix = .int .i64 K ∧ (K = 0 ∨ K = 1 ∨ K = 2 ∨ K = 3) ∧ Below w3.heap.size w3 wr) (fun ix _ => (3 - intOf ix).toNat)
  case atStart => exact ⟨0, rfl, .inl rfl, Below.refl _ _⟩
  case round =>
    obtain ⟨K, rfl, hK, hbr⟩ := hrel
    by_cases hlt : K < 3
    · go_upto_region 7 with fail
      go_cut [14, 15, 16] from 32 to 34 (fun s14 s15 s16 wx => ∃ C' c' g, s14 = .slice C' n c' ∧ s15 = .pointer (some ⟨g, 0, none⟩) ∧ s16 = .bool false ∧ Hid (OneS w3 wx g #[.bool q.mr, .int .i64 q.ty, .int .u16 q.sq, .int .u32 q.tm, .int .u32 q.ss, .slice C cn cc, .bool q.hx, .int .u16 q.pf, .slice E en ec, .slice L ln lc, .int .i64 q.pad] C' n c' l))
      case first =>
        refine region_planA (calmB_sound _) (.fork [0] (.fork [2] (.leaf [3, 1, 4, 5, 6]) (.leaf [1, 3, 4, 5, 6])) (.fork [] (.fork [3] (.leaf [2, 1, 4, 5, 6]) (.leaf [1, 2, 4, 5, 6])) (.leaf [1, 2, 3, 4, 5, 6]))) (by kernel_rfl) (by kernel_rfl) (by kernel_rfl) ?_
        have hbd : Below w3.heap.size w3 wr.drew := hbr.drew
        have hcp : ∀ (o : Obj), (wr.drew.alloc o).heap[w2.heap.size]? = _ := fun o => blk_below HP30.out (hbd.alloc hbd.size o)
        have hcd : wr.drew.heap[w2.heap.size]? = _ := blk_below HP30.out hbd
        generalize wr.drew = wd at *
        have hwd := hw3.trans (hbd.mono hw3.size)
        have hwa := hwd.alloc hwd.size (.cells #[.bool false, .int .i64 0, .int .u16 0, .int .u32 0, .int .u32 0, .slice none 0 0, .bool false, .int .u16 0, .slice none 0 0, .slice none 0 0, .int .i64 0] 39)
        obtain ⟨c0, c1, c2, c3, c4, c5, c6, c7, c8, c9, c10⟩ := eleven_cells hcd
        obtain ⟨d0, d1, d2, d3, d4, d5, d6, d7, d8, d9, d10⟩ := eleven_cells (hcp (.cells #[.bool false, .int .i64 0, .int .u16 0, .int .u32 0, .int .u32 0, .slice none 0 0, .bool false, .int .u16 0, .slice none 0 0, .slice none 0 0, .int .i64 0] 39))
        clear hcd hcp
        refine wpPlan_fork fun P1 hP1 => ?_
        simp only [List.filterMap_cons, List.filterMap_nil, List.getElem?_toArray, List.getElem?_cons_succ, List.getElem?_cons_zero]
        change wpList _ _ _ [_] _ _
        go_wp2
        refine hP1 _ _ ?_ ?_
        · refine wpPlan_fork fun P2 hP2 => ?_
          simp only [List.filterMap_cons, List.filterMap_nil, List.getElem?_toArray, List.getElem?_cons_succ, List.getElem?_cons_zero]
          change wpList _ _ _ [_] _ _
          go_wp2
          refine hP2 _ _ ?_ ?_
          · refine wpPlan_leaf fun P3 hP3 => ?_
            simp only [List.filterMap_cons, List.filterMap_nil, List.getElem?_toArray, List.getElem?_cons_succ, List.getElem?_cons_zero]
            change wpList _ _ _ [_, _, _, _, _] _ _
            go_wp2_with (first | (go_at_call 15; ((with_reducible refine (copied_any A n c l wd (HB.out.below hwd) hn).mono ?_); rintro e w5 ⟨C', c', rfl, ho5, hb5⟩; have hX := Lib.hid (three_a hbd ho5 hb5 (.cells #[.bool false, .int .i64 0, .int .u16 0, .int .u32 0, .int .u32 0, .slice none 0 0, .bool false, .int .u16 0, .slice none 0 0, .slice none 0 0, .int .i64 0] 39) rfl); have hy5 := hbd.trans (hb5.mono hbd.size); obtain ⟨e0, e1, e2, e3, e4, e5, e6, e7, e8, e9, e10⟩ := eleven_cells (blk_below HP30.out hy5); obtain ⟨f0, f1, f2, f3, f4, f5, f6, f7, f8, f9, f10⟩ := eleven_cells (blk_below HP30.out (hy5.alloc hy5.size (.cells #[.bool false, .int .i64 0, .int .u16 0, .int .u32 0, .int .u32 0, .slice none 0 0, .bool false, .int .u16 0, .slice none 0 0, .slice none 0 0, .int .i64 0] 39))); clear ho5 hb5 hy5)) | (go_at_call 15; ((with_reducible refine (copied_any A n c l (wd.alloc (.cells #[.bool false, .int .i64 0, .int .u16 0, .int .u32 0, .int .u32 0, .slice none 0 0, .bool false, .int .u16 0, .slice none 0 0, .slice none 0 0, .int .i64 0] 39)) (HB.out.below hwa) hn).mono ?_); rintro e w5 ⟨C', c', rfl, ho5, hb5⟩; have hX := Lib.hid (three_b hbd ho5 hb5); have hya := hbd.alloc hbd.size (.cells #[.bool false, .int .i64 0, .int .u16 0, .int .u32 0, .int .u32 0, .slice none 0 0, .bool false, .int .u16 0, .slice none 0 0, .slice none 0 0, .int .i64 0] 39); have hy5 := hya.trans (hb5.mono hya.size); obtain ⟨e0, e1, e2, e3, e4, e5, e6, e7, e8, e9, e10⟩ := eleven_cells (blk_below HP30.out hy5); clear ho5 hb5 hya hy5)) | (refine wpList_store_blk rfl 39 (.tmp 15) (.tmp 34) rfl w5.heap.size _ #[.bool q.mr, .int .i64 q.ty, .int .u16 q.sq, .int .u32 q.tm, .int .u32 q.ss, .slice C cn cc, .bool q.hx, .int .u16 q.pf, .slice E en ec, .slice L ln lc, .int .i64 q.pad] _ rfl rfl hX.out.q rfl (by kernel_rfl) (by simp [Value.oneCell']) ?_; intro w6 hi6 hg6; have HS := Lib.hid (hX.out.set hi6 hg6)) | (refine wpList_store_blk rfl 39 (.tmp 15) (.tmp 34) rfl wd.heap.size _ #[.bool q.mr, .int .i64 q.ty, .int .u16 q.sq, .int .u32 q.tm, .int .u32 q.ss, .slice C cn cc, .bool q.hx, .int .u16 q.pf, .slice E en ec, .slice L ln lc, .int .i64 q.pad] _ rfl rfl hX.out.q rfl (by kernel_rfl) (by simp [Value.oneCell']) ?_; intro w6 hi6 hg6; have HS := Lib.hid (hX.out.set hi6 hg6)))
            go_meet
            exact ⟨C', c', _, rfl, rfl, rfl, HS⟩
          · refine wpPlan_leaf fun P4 hP4 => ?_
            simp only [List.filterMap_cons, List.filterMap_nil, List.getElem?_toArray, List.getElem?_cons_succ, List.getElem?_cons_zero]
            change wpList _ _ _ [_, _, _, _, _] _ _
            go_wp2_with (first | (go_at_call 15; ((with_reducible refine (copied_any A n c l wd (HB.out.below hwd) hn).mono ?_); rintro e w5 ⟨C', c', rfl, ho5, hb5⟩; have hX := Lib.hid (three_a hbd ho5 hb5 (.cells #[.bool false, .int .i64 0, .int .u16 0, .int .u32 0, .int .u32 0, .slice none 0 0, .bool false, .int .u16 0, .slice none 0 0, .slice none 0 0, .int .i64 0] 39) rfl); have hy5 := hbd.trans (hb5.mono hbd.size); obtain ⟨e0, e1, e2, e3, e4, e5, e6, e7, e8, e9, e10⟩ := eleven_cells (blk_below HP30.out hy5); obtain ⟨f0, f1, f2, f3, f4, f5, f6, f7, f8, f9, f10⟩ := eleven_cells (blk_below HP30.out (hy5.alloc hy5.size (.cells #[.bool false, .int .i64 0, .int .u16 0, .int .u32 0, .int .u32 0, .slice none 0 0, .bool false, .int .u16 0, .slice none 0 0, .slice none 0 0, .int .i64 0] 39))); clear ho5 hb5 hy5)) | (go_at_call 15; ((with_reducible refine (copied_any A n c l (wd.alloc (.cells #[.bool false, .int .i64 0, .int .u16 0, .int .u32 0, .int .u32 0, .slice none 0 0, .bool false, .int .u16 0, .slice none 0 0, .slice none 0 0, .int .i64 0] 39)) (HB.out.below hwa) hn).mono ?_); rintro e w5 ⟨C', c', rfl, ho5, hb5⟩; have hX := Lib.hid (three_b hbd ho5 hb5); have hya := hbd.alloc hbd.size (.cells #[.bool false, .int .i64 0, .int .u16 0, .int .u32 0, .int .u32 0, .slice none 0 0, .bool false, .int .u16 0, .slice none 0 0, .slice none 0 0, .int .i64 0] 39); have hy5 := hya.trans (hb5.mono hya.size); obtain ⟨e0, e1, e2, e3, e4, e5, e6, e7, e8, e9, e10⟩ := eleven_cells (blk_below HP30.out hy5); clear ho5 hb5 hya hy5)) | (refine wpList_store_blk rfl 39 (.tmp 15) (.tmp 34) rfl w5.heap.size _ #[.bool q.mr, .int .i64 q.ty, .int .u16 q.sq, .int .u32 q.tm, .int .u32 q.ss, .slice C cn cc, .bool q.hx, .int .u16 q.pf, .slice E en ec, .slice L ln lc, .int .i64 q.pad] _ rfl rfl hX.out.q rfl (by kernel_rfl) (by simp [Value.oneCell']) ?_; intro w6 hi6 hg6; have HS := Lib.hid (hX.out.set hi6 hg6)) | (refine wpList_store_blk rfl 39 (.tmp 15) (.tmp 34) rfl wd.heap.size _ #[.bool q.mr, .int .i64 q.ty, .int .u16 q.sq, .int .u32 q.tm, .int .u32 q.ss, .slice C cn cc, .bool q.hx, .int .u16 q.pf, .slice E en ec, .slice L ln lc, .int .i64 q.pad] _ rfl rfl hX.out.q rfl (by kernel_rfl) (by simp [Value.oneCell']) ?_; intro w6 hi6 hg6; have HS := Lib.hid (hX.out.set hi6 hg6)))
            go_meet
            exact ⟨C', c', _, rfl, rfl, rfl, HS⟩
        · refine wpPlan_fork fun P5 hP5 => ?_
          simp only [List.filterMap_nil]
          go_wp2
          refine hP5 _ _ ?_ ?_
          · refine wpPlan_fork fun P6 hP6 => ?_
            simp only [List.filterMap_cons, List.filterMap_nil, List.getElem?_toArray, List.getElem?_cons_succ, List.getElem?_cons_zero]
            change wpList _ _ _ [_] _ _
            go_wp2
            refine hP6 _ _ ?_ ?_
            · refine wpPlan_leaf fun P7 hP7 => ?_
              simp only [List.filterMap_cons, List.filterMap_nil, List.getElem?_toArray, List.getElem?_cons_succ, List.getElem?_cons_zero]
              change wpList _ _ _ [_, _, _, _, _] _ _
              go_wp2_with (first | (go_at_call 15; ((with_reducible refine (copied_any A n c l wd (HB.out.below hwd) hn).mono ?_); rintro e w5 ⟨C', c', rfl, ho5, hb5⟩; have hX := Lib.hid (three_a hbd ho5 hb5 (.cells #[.bool false, .int .i64 0, .int .u16 0, .int .u32 0, .int .u32 0, .slice none 0 0, .bool false, .int .u16 0, .slice none 0 0, .slice none 0 0, .int .i64 0] 39) rfl); have hy5 := hbd.trans (hb5.mono hbd.size); obtain ⟨e0, e1, e2, e3, e4, e5, e6, e7, e8, e9, e10⟩ := eleven_cells (blk_below HP30.out hy5); obtain ⟨f0, f1, f2, f3, f4, f5, f6, f7, f8, f9, f10⟩ := eleven_cells (blk_below HP30.out (hy5.alloc hy5.size (.cells #[.bool false, .int .i64 0, .int .u16 0, .int .u32 0, .int .u32 0, .slice none 0 0, .bool false, .int .u16 0, .slice none 0 0, .slice none 0 0, .int .i64 0] 39))); clear ho5 hb5 hy5)) | (go_at_call 15; ((with_reducible refine (copied_any A n c l (wd.alloc (.cells #[.bool false, .int .i64 0, .int .u16 0, .int .u32 0, .int .u32 0, .slice none 0 0, .bool false, .int .u16 0, .slice none 0 0, .slice none 0 0, .int .i64 0] 39)) (HB.out.below hwa) hn).mono ?_); rintro e w5 ⟨C', c', rfl, ho5, hb5⟩; have hX := Lib.hid (three_b hbd ho5 hb5); have hya := hbd.alloc hbd.size (.cells #[.bool false, .int .i64 0, .int .u16 0, .int .u32 0, .int .u32 0, .slice none 0 0, .bool false, .int .u16 0, .slice none 0 0, .slice none 0 0, .int .i64 0] 39); have hy5 := hya.trans (hb5.mono hya.size); obtain ⟨e0, e1, e2, e3, e4, e5, e6, e7, e8, e9, e10⟩ := eleven_cells (blk_below HP30.out hy5); clear ho5 hb5 hya hy5)) | (refine wpList_store_blk rfl 39 (.tmp 15) (.tmp 34) rfl w5.heap.size _ #[.bool q.mr, .int .i64 q.ty, .int .u16 q.sq, .int .u32 q.tm, .int .u32 q.ss, .slice C cn cc, .bool q.hx, .int .u16 q.pf, .slice E en ec, .slice L ln lc, .int .i64 q.pad] _ rfl rfl hX.out.q rfl (by kernel_rfl) (by simp [Value.oneCell']) ?_; intro w6 hi6 hg6; have HS := Lib.hid (hX.out.set hi6 hg6)) | (refine wpList_store_blk rfl 39 (.tmp 15) (.tmp 34) rfl wd.heap.size _ #[.bool q.mr, .int .i64 q.ty, .int .u16 q.sq, .int .u32 q.tm, .int .u32 q.ss, .slice C cn cc, .bool q.hx, .int .u16 q.pf, .slice E en ec, .slice L ln lc, .int .i64 q.pad] _ rfl rfl hX.out.q rfl (by kernel_rfl) (by simp [Value.oneCell']) ?_; intro w6 hi6 hg6; have HS := Lib.hid (hX.out.set hi6 hg6)))
              go_meet
              exact ⟨C', c', _, rfl, rfl, rfl, HS⟩
            · refine wpPlan_leaf fun P8 hP8 => ?_
              simp only [List.filterMap_cons, List.filterMap_nil, List.getElem?_toArray, List.getElem?_cons_succ, List.getElem?_cons_zero]
              change wpList _ _ _ [_, _, _, _, _] _ _
              go_wp2_with (first | (go_at_call 15; ((with_reducible refine (copied_any A n c l wd (HB.out.below hwd) hn).mono ?_); rintro e w5 ⟨C', c', rfl, ho5, hb5⟩; have hX := Lib.hid (three_a hbd ho5 hb5 (.cells #[.bool false, .int .i64 0, .int .u16 0, .int .u32 0, .int .u32 0, .slice none 0 0, .bool false, .int .u16 0, .slice none 0 0, .slice none 0 0, .int .i64 0] 39) rfl); have hy5 := hbd.trans (hb5.mono hbd.size); obtain ⟨e0, e1, e2, e3, e4, e5, e6, e7, e8, e9, e10⟩ := eleven_cells (blk_below HP30.out hy5); obtain ⟨f0, f1, f2, f3, f4, f5, f6, f7, f8, f9, f10⟩ := eleven_cells (blk_below HP30.out (hy5.alloc hy5.size (.cells #[.bool false, .int .i64 0, .int .u16 0, .int .u32 0, .int .u32 0, .slice none 0 0, .bool false, .int .u16 0, .slice none 0 0, .slice none 0 0, .int .i64 0] 39))); clear ho5 hb5 hy5)) | (go_at_call 15; ((with_reducible refine (copied_any A n c l (wd.alloc (.cells #[.bool false, .int .i64 0, .int .u16 0, .int .u32 0, .int .u32 0, .slice none 0 0, .bool false, .int .u16 0, .slice none 0 0, .slice none 0 0, .int .i64 0] 39)) (HB.out.below hwa) hn).mono ?_); rintro e w5 ⟨C', c', rfl, ho5, hb5⟩; have hX := Lib.hid (three_b hbd ho5 hb5); have hya := hbd.alloc hbd.size (.cells #[.bool false, .int .i64 0, .int .u16 0, .int .u32 0, .int .u32 0, .slice none 0 0, .bool false, .int .u16 0, .slice none 0 0, .slice none 0 0, .int .i64 0] 39); have hy5 := hya.trans (hb5.mono hya.size); obtain ⟨e0, e1, e2, e3, e4, e5, e6, e7, e8, e9, e10⟩ := eleven_cells (blk_below HP30.out hy5); clear ho5 hb5 hya hy5)) | (refine wpList_store_blk rfl 39 (.tmp 15) (.tmp 34) rfl w5.heap.size _ #[.bool q.mr, .int .i64 q.ty, .int .u16 q.sq, .int .u32 q.tm, .int .u32 q.ss, .slice C cn cc, .bool q.hx, .int .u16 q.pf, .slice E en ec, .slice L ln lc, .int .i64 q.pad] _ rfl rfl hX.out.q rfl (by kernel_rfl) (by simp [Value.oneCell']) ?_; intro w6 hi6 hg6; have HS := Lib.hid (hX.out.set hi6 hg6)) | (refine wpList_store_blk rfl 39 (.tmp 15) (.tmp 34) rfl wd.heap.size _ #[.bool q.mr, .int .i64 q.ty, .int .u16 q.sq, .int .u32 q.tm, .int .u32 q.ss, .slice C cn cc, .bool q.hx, .int .u16 q.pf, .slice E en ec, .slice L ln lc, .int .i64 q.pad] _ rfl rfl hX.out.q rfl (by kernel_rfl) (by simp [Value.oneCell']) ?_; intro w6 hi6 hg6; have HS := Lib.hid (hX.out.set hi6 hg6)))
              go_meet
              exact ⟨C', c', _, rfl, rfl, rfl, HS⟩
          · refine wpPlan_leaf fun P9 hP9 => ?_
            simp only [List.filterMap_cons, List.filterMap_nil, List.getElem?_toArray, List.getElem?_cons_succ, List.getElem?_cons_zero]
            change wpList _ _ _ [_, _, _, _, _, _] _ _
            go_wp2_with (first | (go_at_call 15; ((with_reducible refine (copied_any A n c l wd (HB.out.below hwd) hn).mono ?_); rintro e w5 ⟨C', c', rfl, ho5, hb5⟩; have hX := Lib.hid (three_a hbd ho5 hb5 (.cells #[.bool false, .int .i64 0, .int .u16 0, .int .u32 0, .int .u32 0, .slice none 0 0, .bool false, .int .u16 0, .slice none 0 0, .slice none 0 0, .int .i64 0] 39) rfl); have hy5 := hbd.trans (hb5.mono hbd.size); obtain ⟨e0, e1, e2, e3, e4, e5, e6, e7, e8, e9, e10⟩ := eleven_cells (blk_below HP30.out hy5); obtain ⟨f0, f1, f2, f3, f4, f5, f6, f7, f8, f9, f10⟩ := eleven_cells (blk_below HP30.out (hy5.alloc hy5.size (.cells #[.bool false, .int .i64 0, .int .u16 0, .int .u32 0, .int .u32 0, .slice none 0 0, .bool false, .int .u16 0, .slice none 0 0, .slice none 0 0, .int .i64 0] 39))); clear ho5 hb5 hy5)) | (go_at_call 15; ((with_reducible refine (copied_any A n c l (wd.alloc (.cells #[.bool false, .int .i64 0, .int .u16 0, .int .u32 0, .int .u32 0, .slice none 0 0, .bool false, .int .u16 0, .slice none 0 0, .slice none 0 0, .int .i64 0] 39)) (HB.out.below hwa) hn).mono ?_); rintro e w5 ⟨C', c', rfl, ho5, hb5⟩; have hX := Lib.hid (three_b hbd ho5 hb5); have hya := hbd.alloc hbd.size (.cells #[.bool false, .int .i64 0, .int .u16 0, .int .u32 0, .int .u32 0, .slice none 0 0, .bool false, .int .u16 0, .slice none 0 0, .slice none 0 0, .int .i64 0] 39); have hy5 := hya.trans (hb5.mono hya.size); obtain ⟨e0, e1, e2, e3, e4, e5, e6, e7, e8, e9, e10⟩ := eleven_cells (blk_below HP30.out hy5); clear ho5 hb5 hya hy5)) | (refine wpList_store_blk rfl 39 (.tmp 15) (.tmp 34) rfl w5.heap.size _ #[.bool q.mr, .int .i64 q.ty, .int .u16 q.sq, .int .u32 q.tm, .int .u32 q.ss, .slice C cn cc, .bool q.hx, .int .u16 q.pf, .slice E en ec, .slice L ln lc, .int .i64 q.pad] _ rfl rfl hX.out.q rfl (by kernel_rfl) (by simp [Value.oneCell']) ?_; intro w6 hi6 hg6; have HS := Lib.hid (hX.out.set hi6 hg6)) | (refine wpList_store_blk rfl 39 (.tmp 15) (.tmp 34) rfl wd.heap.size _ #[.bool q.mr, .int .i64 q.ty, .int .u16 q.sq, .int .u32 q.tm, .int .u32 q.ss, .slice C cn cc, .bool q.hx, .int .u16 q.pf, .slice E en ec, .slice L ln lc, .int .i64 q.pad] _ rfl rfl hX.out.q rfl (by kernel_rfl) (by simp [Value.oneCell']) ?_; intro w6 hi6 hg6; have HS := Lib.hid (hX.out.set hi6 hg6)))
            go_meet
            exact ⟨C', c', _, rfl, rfl, rfl, HS⟩
      case rest =>
      obtain ⟨C', c', g, rfl, rfl, rfl, HS⟩ := hcut
      obtain rfl | rfl | rfl : K = 0 ∨ K = 1 ∨ K = 2 := by omega
      · go_wp2_with (first
          | (go_at_call 23; go_loud ((with_reducible refine (seqP_v w3.heap.size C' n c' l l sq false bq HM2.out.1 HM2.out.2 _ HS.out.own).mono ?_); rintro e w6 ⟨rfl, ho6, hg6⟩; have HS6 := Lib.hid (HS.out.call ho6 hg6); obtain ⟨⟨u1, u2⟩, hq7, hg7⟩ := eleven_2 HS6.out.q (.int .u16 sq); have HS7 := Lib.hid (HS6.out.set hq7 hg7); have hw7 := hw3.trans (HS7.out.b.mono hw3.size); have z1 := cv_own HS7.out.own; have z2 := cv_rd (c := c) HB.out.len (HB.out.below hw7).rd; clear ho6 hg6 hq7 hg7; obtain ⟨c0, c1, c2, c3, c4, c5, c6, c7, c8, c9, c10⟩ := eleven_cells HS7.out.q))
          | (go_at_call 26; go_loud ((with_reducible refine (rpput_row { q with sq := sq } _ _ _ _ _ _ _ _ _ _ ⟨HOK.out.ty, bq, HOK.out.tm, HOK.out.ss, HOK.out.cs, HOK.out.pf, HOK.out.pad⟩ y2 HO2.out.1 p2 HO2.out.2.1 k2 HO2.out.2.2 ⟨(HP3.out.below HS7.out.b).row.rc, (HP3.out.below HS7.out.b).row.re, (HP3.out.below HS7.out.b).row.rl⟩ ben bln).mono ?_); rintro e w8 ⟨B, c8', rfl, ho8, hb8⟩; have z3 := cv_own ho8; have z4 := cv_own (HS7.out.own.kept (own_below hb8) (own_none _)))))
        exact ⟨⟨1, rfl, .inr (.inl rfl), HS7.out.b.trans (hb8.mono HS7.out.b.size)⟩, by simp [intOf]⟩
      · go_wp2_with (first
          | (go_at_call 24; go_loud ((with_reducible refine (timeP_v w3.heap.size C' n c' l l tm false bt HM3.out.1 HM3.out.2 _ HS.out.own).mono ?_); rintro e w6 ⟨rfl, ho6, hg6⟩; have HS6 := Lib.hid (HS.out.call ho6 hg6); obtain ⟨⟨u1, u2⟩, hq7, hg7⟩ := eleven_3 HS6.out.q (.int .u32 tm); have HS7 := Lib.hid (HS6.out.set hq7 hg7); have hw7 := hw3.trans (HS7.out.b.mono hw3.size); have z1 := cv_own HS7.out.own; have z2 := cv_rd (c := c) HB.out.len (HB.out.below hw7).rd; clear ho6 hg6 hq7 hg7; obtain ⟨c0, c1, c2, c3, c4, c5, c6, c7, c8, c9, c10⟩ := eleven_cells HS7.out.q))
          | (go_at_call 26; go_loud ((with_reducible refine (rpput_row { q with tm := tm } _ _ _ _ _ _ _ _ _ _ ⟨HOK.out.ty, HOK.out.sq, bt, HOK.out.ss, HOK.out.cs, HOK.out.pf, HOK.out.pad⟩ y3 HO3.out.1 p3 HO3.out.2.1 k3 HO3.out.2.2 ⟨(HP3.out.below HS7.out.b).row.rc, (HP3.out.below HS7.out.b).row.re, (HP3.out.below HS7.out.b).row.rl⟩ ben bln).mono ?_); rintro e w8 ⟨B, c8', rfl, ho8, hb8⟩; have z3 := cv_own ho8; have z4 := cv_own (HS7.out.own.kept (own_below hb8) (own_none _)))))
        exact ⟨⟨2, rfl, .inr (.inr (.inl rfl)), HS7.out.b.trans (hb8.mono HS7.out.b.size)⟩, by simp [intOf]⟩
      · go_wp2_with (first
          | (go_at_call 25; go_loud ((with_reducible refine (ssrcP_v w3.heap.size C' n c' l l ss false bs HM4.out.1 HM4.out.2 _ HS.out.own).mono ?_); rintro e w6 ⟨rfl, ho6, hg6⟩; have HS6 := Lib.hid (HS.out.call ho6 hg6); obtain ⟨⟨u1, u2⟩, hq7, hg7⟩ := eleven_4 HS6.out.q (.int .u32 ss); have HS7 := Lib.hid (HS6.out.set hq7 hg7); have hw7 := hw3.trans (HS7.out.b.mono hw3.size); have z1 := cv_own HS7.out.own; have z2 := cv_rd (c := c) HB.out.len (HB.out.below hw7).rd; clear ho6 hg6 hq7 hg7; obtain ⟨c0, c1, c2, c3, c4, c5, c6, c7, c8, c9, c10⟩ := eleven_cells HS7.out.q))
          | (go_at_call 26; go_loud ((with_reducible refine (rpput_row { q with ss := ss } _ _ _ _ _ _ _ _ _ _ ⟨HOK.out.ty, HOK.out.sq, HOK.out.tm, bs, HOK.out.cs, HOK.out.pf, HOK.out.pad⟩ y4 HO4.out.1 p4 HO4.out.2.1 k4 HO4.out.2.2 ⟨(HP3.out.below HS7.out.b).row.rc, (HP3.out.below HS7.out.b).row.re, (HP3.out.below HS7.out.b).row.rl⟩ ben bln).mono ?_); rintro e w8 ⟨B, c8', rfl, ho8, hb8⟩; have z3 := cv_own ho8; have z4 := cv_own (HS7.out.own.kept (own_below hb8) (own_none _)))))
        exact ⟨⟨3, rfl, .inr (.inr (.inr rfl)), HS7.out.b.trans (hb8.mono HS7.out.b.size)⟩, by simp [intOf]⟩
    · obtain rfl : K = 3 := by omega
      go_wp2
      go_ret
      exact ⟨rfl, hw3.trans (hbr.mono hw3.size)⟩
set_option maxRecDepth 20000 in
set_option maxHeartbeats 8000000 in
theorem patchOne_yes (A : Option Addr) (n c : Nat) (l : List UInt8) (sq tm ss : Nat) (w : World) (hB : Bts w A n c l) (hn : n ≤ 140737488351232) (bq : sq < 65536) (bt : tm < 4294967296) (bs : ss < 4294967296) (he : lookE l = 0) :
    Calls Try.prog 4 #[.slice A n c, .int .u16 sq, .int .u32 tm, .int .u32 ss] w fun e w' => e = .returned (.bool true) ∧ Below w.heap.size w w' := by
  have HB := Lib.hid hB
  obtain ⟨q, hq⟩ : ∃ q, getP l = q := ⟨_, rfl⟩
  obtain ⟨F, hF⟩ : ∃ m, m = ((lookF l : Nat) : Int) := ⟨_, rfl⟩
  obtain ⟨T, hT⟩ : ∃ m, m = ((lookT l : Nat) : Int) := ⟨_, rfl⟩
  obtain ⟨Z, hZ⟩ : ∃ m, m = ((lookE l : Nat) : Int) := ⟨_, rfl⟩
  have HF : Hid (F = ((lookF l : Nat) : Int) ∧ T = ((lookT l : Nat) : Int) ∧ Z = ((lookE l : Nat) : Int)) := ⟨hF, hT, hZ⟩
  have HQ := Lib.hid hq
  have HL := Lib.hid hB.len
  have HOK : Hid (q.Ok) := by rw [← hq]; exact getP_ok l
  have HLE := Lib.hid (getP_lens l)
  obtain ⟨m2, hm2⟩ : ∃ m, setL l 2 2 sq = m := ⟨_, rfl⟩
  have HM2 : Hid (decide (lookE l = 0) = true ∧ setL l 2 2 sq = m2) := ⟨decide_eq_true he, hm2⟩
  have HO2 : Hid ((0 : Int) = (errP { q with sq := sq } : Nat) ∧ outP { q with sq := sq } = m2 ∧ m2.length = n) := by
    obtain ⟨g1, g2⟩ := seq_get he bq
    obtain ⟨o1, o2⟩ := out_get g1
    rw [g2, hq] at o1 o2
    rw [hm2] at o2
    exact ⟨by rw [o1]; rfl, o2, by rw [← hm2, set_len he (by omega) (by omega) (by omega) (by omega) bq]; exact hB.len⟩
  obtain ⟨m3, hm3⟩ : ∃ m, setL l 4 4 tm = m := ⟨_, rfl⟩
  have HM3 : Hid (decide (lookE l = 0) = true ∧ setL l 4 4 tm = m3) := ⟨decide_eq_true he, hm3⟩
  have HO3 : Hid ((0 : Int) = (errP { q with tm := tm } : Nat) ∧ outP { q with tm := tm } = m3 ∧ m3.length = n) := by
    obtain ⟨g1, g2⟩ := tm_get he bt
    obtain ⟨o1, o2⟩ := out_get g1
    rw [g2, hq] at o1 o2
    rw [hm3] at o2
    exact ⟨by rw [o1]; rfl, o2, by rw [← hm3, set_len he (by omega) (by omega) (by omega) (by omega) bt]; exact hB.len⟩
  obtain ⟨m4, hm4⟩ : ∃ m, setL l 8 4 ss = m := ⟨_, rfl⟩
  have HM4 : Hid (decide (lookE l = 0) = true ∧ setL l 8 4 ss = m4) := ⟨decide_eq_true he, hm4⟩
  have HO4 : Hid ((0 : Int) = (errP { q with ss := ss } : Nat) ∧ outP { q with ss := ss } = m4 ∧ m4.length = n) := by
    obtain ⟨g1, g2⟩ := ss_get he bs
    obtain ⟨o1, o2⟩ := out_get g1
    rw [g2, hq] at o1 o2
    rw [hm4] at o2
    exact ⟨by rw [o1]; rfl, o2, by rw [← hm4, set_len he (by omega) (by omega) (by omega) (by omega) bs]; exact hB.len⟩
  obtain rfl : Z = 0 := by rw [hZ, he]; rfl
  clear hm2 hm3 hm4
  clear hB hF hT hZ hq he
  go_enter Try.func4, Try.ntmps4
  go_wp2_with (first
    | (go_at_call 14; ((with_reducible refine (shown6_any _).mono ?_); rintro e w1 ⟨rfl, hb1⟩))
    | (go_at_call 22; ((with_reducible refine (rget_own l q F T 0 HQ.out HF.out.1 HF.out.2.1 HF.out.2.2 A n c _ (HB.out.below hb1)).mono ?_); rintro e w2 ⟨C, cn, cc, E, en, ec, L, ln, lc, rfl, HP2, hb2⟩; have hw2 := hb1.trans (hb2.mono hb1.size); have hp3 := blk_alloc w2 (.cells #[.bool q.mr, .int .i64 q.ty, .int .u16 q.sq, .int .u32 q.tm, .int .u32 q.ss, .slice C cn cc, .bool q.hx, .int .u16 q.pf, .slice E en ec, .slice L ln lc, .int .i64 q.pad] 39); have hbA := (Below.refl w2.heap.size w2).alloc (Nat.le_refl _) (.cells #[.bool q.mr, .int .i64 q.ty, .int .u16 q.sq, .int .u32 q.tm, .int .u32 q.ss, .slice C cn cc, .bool q.hx, .int .u16 q.pf, .slice E en ec, .slice L ln lc, .int .i64 q.pad] 39); have hw3 := hw2.trans (hbA.mono hw2.size); have HP3 := Lib.hid ((HP2.out.below hbA).mono hb1.size); have hlt2 : w2.heap.size < (w2.alloc (.cells #[.bool q.mr, .int .i64 q.ty, .int .u16 q.sq, .int .u32 q.tm, .int .u32 q.ss, .slice C cn cc, .bool q.hx, .int .u16 q.pf, .slice E en ec, .slice L ln lc, .int .i64 q.pad] 39)).heap.size := (by simp); clear HP2)))
  generalize w2.alloc (.cells #[.bool q.mr, .int .i64 q.ty, .int .u16 q.sq, .int .u32 q.tm, .int .u32 q.ss, .slice C cn cc, .bool q.hx, .int .u16 q.pf, .slice E en ec, .slice L ln lc, .int .i64 q.pad] 39) = w3 at *
  clear hbA
  have HP30 := Lib.hid hp3
  clear hp3
  have ben : en ≤ 140737488351232 := by
    have h1 := HP3.out.row.hen
    have h2 := HLE.out.1
    rw [HQ.out] at h2
    omega
  have bln : ln ≤ 140737488351232 := by
    have h1 := HP3.out.row.hln
    have h2 := HLE.out.2
    rw [HQ.out] at h2
    omega
  go_loopw [13] (fun ix wr => ∃ K : Int, ix = .int .i64 K ∧ (K = 0 ∨ K = 1 ∨ K = 2 ∨ K = 3) ∧ Below w3.heap.size w3 wr) (fun ix _ => (3 - intOf ix).toNat)
  case atStart => exact ⟨0, rfl, .inl rfl, Below.refl _ _⟩
  case round =>
    obtain ⟨K, rfl, hK, hbr⟩ := hrel
    by_cases hlt : K < 3
    · go_upto_region 7 with fail
      go_cut [14, 15, 16] from 32 to 34 (fun s14 s15 s16 wx => ∃ C' c' g, s14 = .slice C' n c' ∧ s15 = .pointer (some ⟨g, 0, none⟩) ∧ s16 = .bool false ∧ Hid (OneS w3 wx g #[.bool q.mr, .int .i64 q.ty, .int .u16 q.sq, .int .u32 q.tm, .int .u32 q.ss, .slice C cn cc, .bool q.hx, .int .u16 q.pf, .slice E en ec, .slice L ln lc, .int .i64 q.pad] C' n c' l))
      case first =>
        refine region_planA (calmB_sound _) (.fork [0] (.fork [2] (.leaf [3, 1, 4, 5, 6]) (.leaf [1, 3, 4, 5, 6])) (.fork [] (.fork [3] (.leaf [2, 1, 4, 5, 6]) (.leaf [1, 2, 4, 5, 6])) (.leaf [1, 2, 3, 4, 5, 6]))) (by kernel_rfl) (by kernel_rfl) (by kernel_rfl) ?_
        have hbd : Below w3.heap.size w3 wr.drew := hbr.drew
        have hcp : ∀ (o : Obj), (wr.drew.alloc o).heap[w2.heap.size]? = _ := fun o => blk_below HP30.out (hbd.alloc hbd.size o)
        have hcd : wr.drew.heap[w2.heap.size]? = _ := blk_below HP30.out hbd
        generalize wr.drew = wd at *
        have hwd := hw3.trans (hbd.mono hw3.size)
        have hwa := hwd.alloc hwd.size (.cells #[.bool false, .int .i64 0, .int .u16 0, .int .u32 0, .int .u32 0, .slice none 0 0, .bool false, .int .u16 0, .slice none 0 0, .slice none 0 0, .int .i64 0] 39)
        obtain ⟨c0, c1, c2, c3, c4, c5, c6, c7, c8, c9, c10⟩ := eleven_cells hcd
        obtain ⟨d0, d1, d2, d3, d4, d5, d6, d7, d8, d9, d10⟩ := eleven_cells (hcp (.cells #[.bool false, .int .i64 0, .int .u16 0, .int .u32 0, .int .u32 0, .slice none 0 0, .bool false, .int .u16 0, .slice none 0 0, .slice none 0 0, .int .i64 0] 39))
        clear hcd hcp
        refine wpPlan_fork fun P1 hP1 => ?_
        simp only [List.filterMap_cons, List.filterMap_nil, List.getElem?_toArray, List.getElem?_cons_succ, List.getElem?_cons_zero]
        change wpList _ _ _ [_] _ _
        go_wp2
        refine hP1 _ _ ?_ ?_
        · refine wpPlan_fork fun P2 hP2 => ?_
          simp only [List.filterMap_cons, List.filterMap_nil, List.getElem?_toArray, List.getElem?_cons_succ, List.getElem?_cons_zero]
          change wpList _ _ _ [_] _ _
          go_wp2
          refine hP2 _ _ ?_ ?_
          · refine wpPlan_leaf fun P3 hP3 => ?_
            simp only [List.filterMap_cons, List.filterMap_nil, List.getElem?_toArray, List.getElem?_cons_succ, List.getElem?_cons_zero]
            change wpList _ _ _ [_, _, _, _, _] _ _
            go_wp2_with (first | (go_at_call 15; ((with_reducible refine (copied_any A n c l wd (HB.out.below hwd) hn).mono ?_); rintro e w5 ⟨C', c', rfl, ho5, hb5⟩; have hX := Lib.hid (three_a hbd ho5 hb5 (.cells #[.bool false, .int .i64 0, .int .u16 0, .int .u32 0, .int .u32 0, .slice none 0 0, .bool false, .int .u16 0, .slice none 0 0, .slice none 0 0, .int .i64 0] 39) rfl); have hy5 := hbd.trans (hb5.mono hbd.size); obtain ⟨e0, e1, e2, e3, e4, e5, e6, e7, e8, e9, e10⟩ := eleven_cells (blk_below HP30.out hy5); obtain ⟨f0, f1, f2, f3, f4, f5, f6, f7, f8, f9, f10⟩ := eleven_cells (blk_below HP30.out (hy5.alloc hy5.size (.cells #[.bool false, .int .i64 0, .int .u16 0, .int .u32 0, .int .u32 0, .slice none 0 0, .bool false, .int .u16 0, .slice none 0 0, .slice none 0 0, .int .i64 0] 39))); clear ho5 hb5 hy5)) | (go_at_call 15; ((with_reducible refine (copied_any A n c l (wd.alloc (.cells #[.bool false, .int .i64 0, .int .u16 0, .int .u32 0, .int .u32 0, .slice none 0 0, .bool false, .int .u16 0, .slice none 0 0, .slice none 0 0, .int .i64 0] 39)) (HB.out.below hwa) hn).mono ?_); rintro e w5 ⟨C', c', rfl, ho5, hb5⟩; have hX := Lib.hid (three_b hbd ho5 hb5); have hya := hbd.alloc hbd.size (.cells #[.bool false, .int .i64 0, .int .u16 0, .int .u32 0, .int .u32 0, .slice none 0 0, .bool false, .int .u16 0, .slice none 0 0, .slice none 0 0, .int .i64 0] 39); have hy5 := hya.trans (hb5.mono hya.size); obtain ⟨e0, e1, e2, e3, e4, e5, e6, e7, e8, e9, e10⟩ := eleven_cells (blk_below HP30.out hy5); clear ho5 hb5 hya hy5)) | (refine wpList_store_blk rfl 39 (.tmp 15) (.tmp 34) rfl w5.heap.size _ #[.bool q.mr, .int .i64 q.ty, .int .u16 q.sq, .int .u32 q.tm, .int .u32 q.ss, .slice C cn cc, .bool q.hx, .int .u16 q.pf, .slice E en ec, .slice L ln lc, .int .i64 q.pad] _ rfl rfl hX.out.q rfl (by kernel_rfl) (by simp [Value.oneCell']) ?_; intro w6 hi6 hg6; have HS := Lib.hid (hX.out.set hi6 hg6)) | (refine wpList_store_blk rfl 39 (.tmp 15) (.tmp 34) rfl wd.heap.size _ #[.bool q.mr, .int .i64 q.ty, .int .u16 q.sq, .int .u32 q.tm, .int .u32 q.ss, .slice C cn cc, .bool q.hx, .int .u16 q.pf, .slice E en ec, .slice L ln lc, .int .i64 q.pad] _ rfl rfl hX.out.q rfl (by kernel_rfl) (by simp [Value.oneCell']) ?_; intro w6 hi6 hg6; have HS := Lib.hid (hX.out.set hi6 hg6)))
            go_meet
            exact ⟨C', c', _, rfl, rfl, rfl, HS⟩
          · refine wpPlan_leaf fun P4 hP4 => ?_
            simp only [List.filterMap_cons, List.filterMap_nil, List.getElem?_toArray, List.getElem?_cons_succ, List.getElem?_cons_zero]
            change wpList _ _ _ [_, _, _, _, _] _ _
            go_wp2_with (first | (go_at_call 15; ((with_reducible refine (copied_any A n c l wd (HB.out.below hwd) hn).mono ?_); rintro e w5 ⟨C', c', rfl, ho5, hb5⟩; have hX := Lib.hid (three_a hbd ho5 hb5 (.cells #[.bool false, .int .i64 0, .int .u16 0, .int .u32 0, .int .u32 0, .slice none 0 0, .bool false, .int .u16 0, .slice none 0 0, .slice none 0 0, .int .i64 0] 39) rfl); have hy5 := hbd.trans (hb5.mono hbd.size); obtain ⟨e0, e1, e2, e3, e4, e5, e6, e7, e8, e9, e10⟩ := eleven_cells (blk_below HP30.out hy5); obtain ⟨f0, f1, f2, f3, f4, f5, f6, f7, f8, f9, f10⟩ := eleven_cells (blk_below HP30.out (hy5.alloc hy5.size (.cells #[.bool false, .int .i64 0, .int .u16 0, .int .u32 0, .int .u32 0, .slice none 0 0, .bool false, .int .u16 0, .slice none 0 0, .slice none 0 0, .int .i64 0] 39))); clear ho5 hb5 hy5)) | (go_at_call 15; ((with_reducible refine (copied_any A n c l (wd.alloc (.cells #[.bool false, .int .i64 0, .int .u16 0, .int .u32 0, .int .u32 0, .slice none 0 0, .bool false, .int .u16 0, .slice none 0 0, .slice none 0 0, .int .i64 0] 39)) (HB.out.below hwa) hn).mono ?_); rintro e w5 ⟨C', c', rfl, ho5, hb5⟩; have hX := Lib.hid (three_b hbd ho5 hb5); have hya := hbd.alloc hbd.size (.cells #[.bool false, .int .i64 0, .int .u16 0, .int .u32 0, .int .u32 0, .slice none 0 0, .bool false, .int .u16 0, .slice none 0 0, .slice none 0 0, .int .i64 0] 39); have hy5 := hya.trans (hb5.mono hya.size); obtain ⟨e0, e1, e2, e3, e4, e5, e6, e7, e8, e9, e10⟩ := eleven_cells (blk_below HP30.out hy5); clear ho5 hb5 hya hy5)) | (refine wpList_store_blk rfl 39 (.tmp 15) (.tmp 34) rfl w5.heap.size _ #[.bool q.mr, .int .i64 q.ty, .int .u16 q.sq, .int .u32 q.tm, .int .u32 q.ss, .slice C cn cc, .bool q.hx, .int .u16 q.pf, .slice E en ec, .slice L ln lc, .int .i64 q.pad] _ rfl rfl hX.out.q rfl (by kernel_rfl) (by simp [Value.oneCell']) ?_; intro w6 hi6 hg6; have HS := Lib.hid (hX.out.set hi6 hg6)) | (refine wpList_store_blk rfl 39 (.tmp 15) (.tmp 34) rfl wd.heap.size _ #[.bool q.mr, .int .i64 q.ty, .int .u16 q.sq, .int .u32 q.tm, .int .u32 q.ss, .slice C cn cc, .bool q.hx, .int .u16 q.pf, .slice E en ec, .slice L ln lc, .int .i64 q.pad] _ rfl rfl hX.out.q rfl (by kernel_rfl) (by simp [Value.oneCell']) ?_; intro w6 hi6 hg6; have HS := Lib.hid (hX.out.set hi6 hg6)))
            go_meet
            exact ⟨C', c', _, rfl, rfl, rfl, HS⟩
        · refine wpPlan_fork fun P5 hP5 => ?_
          simp only [List.filterMap_nil]
          go_wp2
          refine hP5 _ _ ?_ ?_
          · refine wpPlan_fork fun P6 hP6 => ?_
            simp only [List.filterMap_cons, List.filterMap_nil, List.getElem?_toArray, List.getElem?_cons_succ, List.getElem?_cons_zero]
            change wpList _ _ _ [_] _ _
            go_wp2
            refine hP6 _ _ ?_ ?_
            · refine wpPlan_leaf fun P7 hP7 => ?_
              simp only [List.filterMap_cons, List.filterMap_nil, List.getElem?_toArray, List.getElem?_cons_succ, List.getElem?_cons_zero]
              change wpList _ _ _ [_, _, _, _, _] _ _
              go_wp2_with (first | (go_at_call 15; ((with_reducible refine (copied_any A n c l wd (HB.out.below hwd) hn).mono ?_); rintro e w5 ⟨C', c', rfl, ho5, hb5⟩; have hX := Lib.hid (three_a hbd ho5 hb5 (.cells #[.bool false, .int .i64 0, .int .u16 0, .int .u32 0, .int .u32 0, .slice none 0 0, .bool false, .int .u16 0, .slice none 0 0, .slice none 0 0, .int .i64 0] 39) rfl); have hy5 := hbd.trans (hb5.mono hbd.size); obtain ⟨e0, e1, e2, e3, e4, e5, e6, e7, e8, e9, e10⟩ := eleven_cells (blk_below HP30.out hy5); obtain ⟨f0, f1, f2, f3, f4, f5, f6, f7, f8, f9, f10⟩ := eleven_cells (blk_below HP30.out (hy5.alloc hy5.size (.cells #[.bool false, .int .i64 0, .int .u16 0, .int .u32 0, .int .u32 0, .slice none 0 0, .bool false, .int .u16 0, .slice none 0 0, .slice none 0 0, .int .i64 0] 39))); clear ho5 hb5 hy5)) | (go_at_call 15; ((with_reducible refine (copied_any A n c l (wd.alloc (.cells #[.bool false, .int .i64 0, .int .u16 0, .int .u32 0, .int .u32 0, .slice none 0 0, .bool false, .int .u16 0, .slice none 0 0, .slice none 0 0, .int .i64 0] 39)) (HB.out.below hwa) hn).mono ?_); rintro e w5 ⟨C', c', rfl, ho5, hb5⟩; have hX := Lib.hid (three_b hbd ho5 hb5); have hya := hbd.alloc hbd.size (.cells #[.bool false, .int .i64 0, .int .u16 0, .int .u32 0, .int .u32 0, .slice none 0 0, .bool false, .int .u16 0, .slice none 0 0, .slice none 0 0, .int .i64 0] 39); have hy5 := hya.trans (hb5.mono hya.size); obtain ⟨e0, e1, e2, e3, e4, e5, e6, e7, e8, e9, e10⟩ := eleven_cells (blk_below HP30.out hy5); clear ho5 hb5 hya hy5)) | (refine wpList_store_blk rfl 39 (.tmp 15) (.tmp 34) rfl w5.heap.size _ #[.bool q.mr, .int .i64 q.ty, .int .u16 q.sq, .int .u32 q.tm, .int .u32 q.ss, .slice C cn cc, .bool q.hx, .int .u16 q.pf, .slice E en ec, .slice L ln lc, .int .i64 q.pad] _ rfl rfl hX.out.q rfl (by kernel_rfl) (by simp [Value.oneCell']) ?_; intro w6 hi6 hg6; have HS := Lib.hid (hX.out.set hi6 hg6)) | (refine wpList_store_blk rfl 39 (.tmp 15) (.tmp 34) rfl wd.heap.size _ #[.bool q.mr, .int .i64 q.ty, .int .u16 q.sq, .int .u32 q.tm, .int .u32 q.ss, .slice C cn cc, .bool q.hx, .int .u16 q.pf, .slice E en ec, .slice L ln lc, .int .i64 q.pad] _ rfl rfl hX.out.q rfl (by kernel_rfl) (by simp [Value.oneCell']) ?_; intro w6 hi6 hg6; have HS := Lib.hid (hX.out.set hi6 hg6)))
              go_meet
              exact ⟨C', c', _, rfl, rfl, rfl, HS⟩
            · refine wpPlan_leaf fun P8 hP8 => ?_
              simp only [List.filterMap_cons, List.filterMap_nil, List.getElem?_toArray, List.getElem?_cons_succ, List.getElem?_cons_zero]
              change wpList _ _ _ [_, _, _, _, _] _ _
              go_wp2_with (first | (go_at_call 15; ((with_reducible refine (copied_any A n c l wd (HB.out.below hwd) hn).mono ?_); rintro e w5 ⟨C', c', rfl, ho5, hb5⟩; have hX := Lib.hid (three_a hbd ho5 hb5 (.cells #[.bool false, .int .i64 0, .int .u16 0, .int .u32 0, .int .u32 0, .slice none 0 0, .bool false, .int .u16 0, .slice none 0 0, .slice none 0 0, .int .i64 0] 39) rfl); have hy5 := hbd.trans (hb5.mono hbd.size); obtain ⟨e0, e1, e2, e3, e4, e5, e6, e7, e8, e9, e10⟩ := eleven_cells (blk_below HP30.out hy5); obtain ⟨f0, f1, f2, f3, f4, f5, f6, f7, f8, f9, f10⟩ := eleven_cells (blk_below HP30.out (hy5.alloc hy5.size (.cells #[.bool false, .int .i64 0, .int .u16 0, .int .u32 0, .int .u32 0, .slice none 0 0, .bool false, .int .u16 0, .slice none 0 0, .slice none 0 0, .int .i64 0] 39))); clear ho5 hb5 hy5)) | (go_at_call 15; ((with_reducible refine (copied_any A n c l (wd.alloc (.cells #[.bool false, .int .i64 0, .int .u16 0, .int .u32 0, .int .u32 0, .slice none 0 0, .bool false, .int .u16 0, .slice none 0 0, .slice none 0 0, .int .i64 0] 39)) (HB.out.below hwa) hn).mono ?_); rintro e w5 ⟨C', c', rfl, ho5, hb5⟩; have hX := Lib.hid (three_b hbd ho5 hb5); have hya := hbd.alloc hbd.size (.cells #[.bool false, .int .i64 0, .int .u16 0, .int .u32 0, .int .u32 0, .slice none 0 0, .bool false, .int .u16 0, .slice none 0 0, .slice none 0 0, .int .i64 0] 39); have hy5 := hya.trans (hb5.mono hya.size); obtain ⟨e0, e1, e2, e3, e4, e5, e6, e7, e8, e9, e10⟩ := eleven_cells (blk_below HP30.out hy5); clear ho5 hb5 hya hy5)) | (refine wpList_store_blk rfl 39 (.tmp 15) (.tmp 34) rfl w5.heap.size _ #[.bool q.mr, .int .i64 q.ty, .int .u16 q.sq, .int .u32 q.tm, .int .u32 q.ss, .slice C cn cc, .bool q.hx, .int .u16 q.pf, .slice E en ec, .slice L ln lc, .int .i64 q.pad] _ rfl rfl hX.out.q rfl (by kernel_rfl) (by simp [Value.oneCell']) ?_; intro w6 hi6 hg6; have HS := Lib.hid (hX.out.set hi6 hg6)) | (refine wpList_store_blk rfl 39 (.tmp 15) (.tmp 34) rfl wd.heap.size _ #[.bool q.mr, .int .i64 q.ty, .int .u16 q.sq, .int .u32 q.tm, .int .u32 q.ss, .slice C cn cc, .bool q.hx, .int .u16 q.pf, .slice E en ec, .slice L ln lc, .int .i64 q.pad] _ rfl rfl hX.out.q rfl (by kernel_rfl) (by simp [Value.oneCell']) ?_; intro w6 hi6 hg6; have HS := Lib.hid (hX.out.set hi6 hg6)))
              go_meet
              exact ⟨C', c', _, rfl, rfl, rfl, HS⟩
          · refine wpPlan_leaf fun P9 hP9 => ?_
            simp only [List.filterMap_cons, List.filterMap_nil, List.getElem?_toArray, List.getElem?_cons_succ, List.getElem?_cons_zero]
            change wpList _ _ _ [_, _, _, _, _, _] _ _
            go_wp2_with (first | (go_at_call 15; ((with_reducible refine (copied_any A n c l wd (HB.out.below hwd) hn).mono ?_); rintro e w5 ⟨C', c', rfl, ho5, hb5⟩; have hX := Lib.hid (three_a hbd ho5 hb5 (.cells #[.bool false, .int .i64 0, .int .u16 0, .int .u32 0, .int .u32 0, .slice none 0 0, .bool false, .int .u16 0, .slice none 0 0, .slice none 0 0, .int .i64 0] 39) rfl); have hy5 := hbd.trans (hb5.mono hbd.size); obtain ⟨e0, e1, e2, e3, e4, e5, e6, e7, e8, e9, e10⟩ := eleven_cells (blk_below HP30.out hy5); obtain ⟨f0, f1, f2, f3, f4, f5, f6, f7, f8, f9, f10⟩ := eleven_cells (blk_below HP30.out (hy5.alloc hy5.size (.cells #[.bool false, .int .i64 0, .int .u16 0, .int .u32 0, .int .u32 0, .slice none 0 0, .bool false, .int .u16 0, .slice none 0 0, .slice none 0 0, .int .i64 0] 39))); clear ho5 hb5 hy5)) | (go_at_call 15; ((with_reducible refine (copied_any A n c l (wd.alloc (.cells #[.bool false, .int .i64 0, .int .u16 0, .int .u32 0, .int .u32 0, .slice none 0 0, .bool false, .int .u16 0, .slice none 0 0, .slice none 0 0, .int .i64 0] 39)) (HB.out.below hwa) hn).mono ?_); rintro e w5 ⟨C', c', rfl, ho5, hb5⟩; have hX := Lib.hid (three_b hbd ho5 hb5); have hya := hbd.alloc hbd.size (.cells #[.bool false, .int .i64 0, .int .u16 0, .int .u32 0, .int .u32 0, .slice none 0 0, .bool false, .int .u16 0, .slice none 0 0, .slice none 0 0, .int .i64 0] 39); have hy5 := hya.trans (hb5.mono hya.size); obtain ⟨e0, e1, e2, e3, e4, e5, e6, e7, e8, e9, e10⟩ := eleven_cells (blk_below HP30.out hy5); clear ho5 hb5 hya hy5)) | (refine wpList_store_blk rfl 39 (.tmp 15) (.tmp 34) rfl w5.heap.size _ #[.bool q.mr, .int .i64 q.ty, .int .u16 q.sq, .int .u32 q.tm, .int .u32 q.ss, .slice C cn cc, .bool q.hx, .int .u16 q.pf, .slice E en ec, .slice L ln lc, .int .i64 q.pad] _ rfl rfl hX.out.q rfl (by kernel_rfl) (by simp [Value.oneCell']) ?_; intro w6 hi6 hg6; have HS := Lib.hid (hX.out.set hi6 hg6)) | (refine wpList_store_blk rfl 39 (.tmp 15) (.tmp 34) rfl wd.heap.size _ #[.bool q.mr, .int .i64 q.ty, .int .u16 q.sq, .int .u32 q.tm, .int .u32 q.ss, .slice C cn cc, .bool q.hx, .int .u16 q.pf, .slice E en ec, .slice L ln lc, .int .i64 q.pad] _ rfl rfl hX.out.q rfl (by kernel_rfl) (by simp [Value.oneCell']) ?_; intro w6 hi6 hg6; have HS := Lib.hid (hX.out.set hi6 hg6)))
            go_meet
            exact ⟨C', c', _, rfl, rfl, rfl, HS⟩
      case rest =>
      obtain ⟨C', c', g, rfl, rfl, rfl, HS⟩ := hcut
      obtain rfl | rfl | rfl : K = 0 ∨ K = 1 ∨ K = 2 := by omega
      · go_wp2_with (first
          | (go_at_call 23; go_loud ((with_reducible refine (seqP_v w3.heap.size C' n c' l m2 sq true bq HM2.out.1 HM2.out.2 _ HS.out.own).mono ?_); rintro e w6 ⟨rfl, ho6, hg6⟩; have HS6 := Lib.hid (HS.out.call ho6 hg6); obtain ⟨⟨u1, u2⟩, hq7, hg7⟩ := eleven_2 HS6.out.q (.int .u16 sq); have HS7 := Lib.hid (HS6.out.set hq7 hg7); have hw7 := hw3.trans (HS7.out.b.mono hw3.size); have z1 := cv_own HS7.out.own; have z2 := cv_rd (c := c) HB.out.len (HB.out.below hw7).rd; clear ho6 hg6 hq7 hg7; obtain ⟨c0, c1, c2, c3, c4, c5, c6, c7, c8, c9, c10⟩ := eleven_cells HS7.out.q))
          | (go_at_call 26; go_loud ((with_reducible refine (rpput_row { q with sq := sq } _ _ _ _ _ _ _ _ _ _ ⟨HOK.out.ty, bq, HOK.out.tm, HOK.out.ss, HOK.out.cs, HOK.out.pf, HOK.out.pad⟩ 0 HO2.out.1 m2 HO2.out.2.1 n HO2.out.2.2 ⟨(HP3.out.below HS7.out.b).row.rc, (HP3.out.below HS7.out.b).row.re, (HP3.out.below HS7.out.b).row.rl⟩ ben bln).mono ?_); rintro e w8 ⟨B, c8', rfl, ho8, hb8⟩; have z3 := cv_own ho8; have z4 := cv_own (HS7.out.own.kept (own_below hb8) (own_none _)))))
        exact ⟨⟨1, rfl, .inr (.inl rfl), HS7.out.b.trans (hb8.mono HS7.out.b.size)⟩, by simp [intOf]⟩
      · go_wp2_with (first
          | (go_at_call 24; go_loud ((with_reducible refine (timeP_v w3.heap.size C' n c' l m3 tm true bt HM3.out.1 HM3.out.2 _ HS.out.own).mono ?_); rintro e w6 ⟨rfl, ho6, hg6⟩; have HS6 := Lib.hid (HS.out.call ho6 hg6); obtain ⟨⟨u1, u2⟩, hq7, hg7⟩ := eleven_3 HS6.out.q (.int .u32 tm); have HS7 := Lib.hid (HS6.out.set hq7 hg7); have hw7 := hw3.trans (HS7.out.b.mono hw3.size); have z1 := cv_own HS7.out.own; have z2 := cv_rd (c := c) HB.out.len (HB.out.below hw7).rd; clear ho6 hg6 hq7 hg7; obtain ⟨c0, c1, c2, c3, c4, c5, c6, c7, c8, c9, c10⟩ := eleven_cells HS7.out.q))
          | (go_at_call 26; go_loud ((with_reducible refine (rpput_row { q with tm := tm } _ _ _ _ _ _ _ _ _ _ ⟨HOK.out.ty, HOK.out.sq, bt, HOK.out.ss, HOK.out.cs, HOK.out.pf, HOK.out.pad⟩ 0 HO3.out.1 m3 HO3.out.2.1 n HO3.out.2.2 ⟨(HP3.out.below HS7.out.b).row.rc, (HP3.out.below HS7.out.b).row.re, (HP3.out.below HS7.out.b).row.rl⟩ ben bln).mono ?_); rintro e w8 ⟨B, c8', rfl, ho8, hb8⟩; have z3 := cv_own ho8; have z4 := cv_own (HS7.out.own.kept (own_below hb8) (own_none _)))))
        exact ⟨⟨2, rfl, .inr (.inr (.inl rfl)), HS7.out.b.trans (hb8.mono HS7.out.b.size)⟩, by simp [intOf]⟩
      · go_wp2_with (first
          | (go_at_call 25; go_loud ((with_reducible refine (ssrcP_v w3.heap.size C' n c' l m4 ss true bs HM4.out.1 HM4.out.2 _ HS.out.own).mono ?_); rintro e w6 ⟨rfl, ho6, hg6⟩; have HS6 := Lib.hid (HS.out.call ho6 hg6); obtain ⟨⟨u1, u2⟩, hq7, hg7⟩ := eleven_4 HS6.out.q (.int .u32 ss); have HS7 := Lib.hid (HS6.out.set hq7 hg7); have hw7 := hw3.trans (HS7.out.b.mono hw3.size); have z1 := cv_own HS7.out.own; have z2 := cv_rd (c := c) HB.out.len (HB.out.below hw7).rd; clear ho6 hg6 hq7 hg7; obtain ⟨c0, c1, c2, c3, c4, c5, c6, c7, c8, c9, c10⟩ := eleven_cells HS7.out.q))
          | (go_at_call 26; go_loud ((with_reducible refine (rpput_row { q with ss := ss } _ _ _ _ _ _ _ _ _ _ ⟨HOK.out.ty, HOK.out.sq, HOK.out.tm, bs, HOK.out.cs, HOK.out.pf, HOK.out.pad⟩ 0 HO4.out.1 m4 HO4.out.2.1 n HO4.out.2.2 ⟨(HP3.out.below HS7.out.b).row.rc, (HP3.out.below HS7.out.b).row.re, (HP3.out.below HS7.out.b).row.rl⟩ ben bln).mono ?_); rintro e w8 ⟨B, c8', rfl, ho8, hb8⟩; have z3 := cv_own ho8; have z4 := cv_own (HS7.out.own.kept (own_below hb8) (own_none _)))))
        exact ⟨⟨3, rfl, .inr (.inr (.inr rfl)), HS7.out.b.trans (hb8.mono HS7.out.b.size)⟩, by simp [intOf]⟩
    · obtain rfl : K = 3 := by omega
      go_wp2
      go_ret
      exact ⟨rfl, hw3.trans (hbr.mono hw3.size)⟩
namespace patchOne
theorem patchOne_walk (A : Option Addr) (n c : Nat) (l : List UInt8) (s t r : Int) (w : World) (hl : l.length = n) (hc : n ≤ c) (hm : c ≤ maxLen) (hn : n ≤ 140737488351232) (hA : A = none → n = 0 ∧ c = 0) (hr : Rd w A (bys l))
    (h1 : 0 ≤ s ∧ s ≤ 65535) (h2 : 0 ≤ t ∧ t ≤ 4294967295) (h3 : 0 ≤ r ∧ r ≤ 4294967295) :
    Calls Try.prog 4 #[.slice A n c, .int .u16 s, .int .u32 t, .int .u32 r] w fun e w' => e = .returned (.bool true) ∧ Below w.heap.size w w' := by
  obtain ⟨s, rfl⟩ : ∃ m : Nat, s = (m : Int) := ⟨s.toNat, by omega⟩
  obtain ⟨t, rfl⟩ : ∃ m : Nat, t = (m : Int) := ⟨t.toNat, by omega⟩
  obtain ⟨r, rfl⟩ : ∃ m : Nat, r = (m : Int) := ⟨r.toNat, by omega⟩
  by_cases he : lookE l = 0
  · exact patchOne_yes A n c l s t r w ⟨hl, hc, hm, hr⟩ hn (by omega) (by omega) (by omega) he
  · exact patchOne_no A n c l s t r w ⟨hl, hc, hm, hr⟩ hn (by omega) (by omega) (by omega) he
end patchOne
namespace patchOne
open Go.ChangeShapes Go.WideShapes Go.ChangeAt Go.RowKit
open Go.ChangeMaps (open_string shut_string)
set_option linter.unusedVariables false

theorem own : ownKnob Try.prog.godebug = none := by kernel_rfl
theorem laidOut : laidOutB Try.prog = true := by kernel_rfl

set_option maxRecDepth 100000 in
theorem lifted (os : Os) (started : os.Started) (H : Type) (enc : TypeId × Value → H) :
    ReturnsInHanded {} Try.checked os 4 .any (Rows.patchOneSpec.pre6 enc Try.prog Try.f4 Rows.patchOneRow.domain false) (Rows.patchOneSpec.post enc Try.prog Try.f4 false true false false) := by
  refine returnsInHanded_of_change_sized (C := Try.checked) own started (by kernel_rfl) Try.func4
    (ChangeSpec.witness6 (enc := enc) (C := Try.checked) false ⟨#[], #[.slice none 0 0, .int .u16 0, .int .u32 0, .int .u32 0], []⟩ 8 (by kernel_rfl) (by kernel_rfl) (by kernel_rfl) (by kernel_rfl)) ?_
  intro W base args ds gs before hval0 hW hcnd hsz0 _
  have hsz : (DataW.weightsEach Try.prog (Try.f4.params.toList ++ Rows.patchOneSpec.plain.varTypes Try.prog) (ds ++ gs)).all (· ≤ reachBytes) = true := hsz0
  have hval : ∀ (j : Nat) t v, Try.f4.params[j]? = some t → args[j]? = some v → Value.okWide Try.prog W .any base t v := hval0
  have hW' := hW
  obtain ⟨p, q, hA0, hV, rfl, hfz, hnd⟩ := hW
  have hA : DataW.TrodAll enc Try.prog W 0 (fun _ => true) true Try.f4.params.toList args.toList ds p := hA0
  rw [Try.params4] at hA hval hsz
  obtain ⟨v0, vs0, d0, ds0, p0, q0, hargs, rfl, rfl, h0, r0⟩ := trodAll_cons hA
  obtain ⟨v1, vs1, d1, ds1, p1, q1, rfl, rfl, rfl, h1, r1⟩ := trodAll_cons r0
  obtain ⟨v2, vs2, d2, ds2, p2, q2, rfl, rfl, rfl, h2, r2⟩ := trodAll_cons r1
  obtain ⟨v3, vs3, d3, ds3, p3, q3, rfl, rfl, rfl, h3, r3⟩ := trodAll_cons r2
  obtain ⟨rfl, rfl, rfl⟩ := trodAll_nil r3
  obtain rfl : args = #[v0, v1, v2, v3] := by cases args; simp_all
  obtain ⟨rfl, rfl⟩ := trodVars_none hV
  obtain ⟨a0, len0, cap0, rfl⟩ := okWide_slice Try.underlying22 (hval 0 22 v0 rfl rfl)
  have k0 := h0
  have lt0 : ∀ x ∈ p0, x.block < W.heap.size := by obtain ⟨m, hm⟩ := k0; exact DataW.trod_lt m _ _ _ hm
  obtain ⟨l0, n0, nc0, cm0, nl0, rd0, hl0⟩ : ∃ l : List UInt8, l.length = len0 ∧ len0 ≤ cap0 ∧ cap0 ≤ maxLen ∧ (a0 = none → len0 = 0 ∧ cap0 = 0) ∧ Rd W a0 (bys l) ∧ (len0 = 0 ∨ ∃ es sp, d0 = .slice es sp ∧ es.length = len0) := by
    obtain ⟨fuel, hf⟩ := h0
    exact open_byte_slice Try.underlying22 Try.underlying5 (by kernel_rfl) hf
  have hb0 : len0 * 1 ≤ 140737488351232 := reach_slice hsz (j := 0) rfl rfl Try.underlying22 (by kernel_rfl) hl0
  rw [Nat.mul_one] at hb0
  obtain ⟨x1, rfl, rfl, rfl, w1⟩ := open_int Try.underlying23 (hval 1 23 v1 rfl rfl) h1
  obtain ⟨x2, rfl, rfl, rfl, w2⟩ := open_int Try.underlying24 (hval 2 24 v2 rfl rfl) h2
  obtain ⟨x3, rfl, rfl, rfl, w3⟩ := open_int Try.underlying24 (hval 3 24 v3 rfl rfl) h3
  clear hA0 hval0 hsz0
  refine (patchOne_walk a0 len0 cap0 l0 x1 x2 x3 W n0 nc0 cm0 hb0 nl0 rd0 (bounds_u16 w1) (bounds_u32 w2) (bounds_u32 w3)).mono fun e W' ⟨he, bel⟩ => ?_
  subst he
  exact ⟨_, rfl, _, _, _, [], _, [], hW', trodAll_mk1 (shut_bool Try.underlying4 _), (trodAll_cons_mk (Below.trod laidOut (by kernel_rfl) (of_decide_eq_true (by kernel_rfl)) k0 bel lt0) (trodAll_cons_mk (shut_int Try.underlying23 w1) (trodAll_cons_mk (shut_int Try.underlying24 w2) (trodAll_cons_mk (shut_int Try.underlying24 w3) trodAll_mk0)))), rfl, bel.frame _, fun h => by cases h⟩

/-- The statement. -/
theorem proved : Rows.PatchOneSaid :=
  OpenClaim.holds_of_wide 4 Try.f4 rfl rfl rfl rfl rfl rfl rfl ⟨rfl, rfl, rfl, rfl, rfl⟩ rfl rfl rfl rfl rfl (by kernel_rfl) Try.func4 (by kernel_rfl)
    (of_decide_eq_true (by kernel_rfl)) (by unfold Func.isWrapper; rw [if_neg (of_decide_eq_false (by kernel_rfl))]; exact ⟨rfl, rfl⟩)
    (fun os started H enc _ => lifted os started H enc)
#print axioms proved
end patchOne
end Go.Proofs.Ytaomdinddccpeaa
