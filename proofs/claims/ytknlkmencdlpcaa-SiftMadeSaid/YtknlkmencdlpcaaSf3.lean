/-
slices.Clone of numbers, of blocks, of pairs and of items: a copy of its own.
Packet of package own: the packet, its three slices copied.
Items of package own: the items, each with its three slices copied.
-/
import Derived.Test.YtknlkmencdlpcaaRc7
import Derived.Test.YtknlkmencdlpcaaField2
import Derived.Test.YtknlkmencdlpcaaFrame
import Derived.Test.YtknlkmencdlpcaaPktRow
import Derived.Test.YtknlkmencdlpcaaPat6
import Derived.Test.YtknlkmencdlpcaaRcS
import Derived.Deep.CutBlock
namespace Go.Proofs.Ytknlkmencdlpcaa
set_option linter.unusedVariables false
set_option linter.unusedSimpArgs false
open Go Go.RowKit

theorem u32s_oneS (l : List Nat) : ∀ u ∈ u32s l, u.oneCell' = true := by
  intro u hu
  obtain ⟨x, _, rfl⟩ := List.mem_map.1 hu
  rfl
theorem rowK_oneS (l : List Blk) : ∀ u ∈ rowK l, u.oneCell' = true := by
  intro u hu
  obtain ⟨b, _, hu⟩ := List.mem_flatMap.1 hu
  exact blkV_one b u hu
theorem rowP_oneS (l : List (Nat × Nat)) : ∀ u ∈ rowP l, u.oneCell' = true := by
  intro u hu
  obtain ⟨b, _, hu⟩ := List.mem_flatMap.1 hu
  simp only [prV, List.mem_cons, List.not_mem_nil, or_false] at hu
  rcases hu with rfl | rfl <;> rfl
theorem rowI_oneS (l : List Sl) : ∀ u ∈ rowI l, u.oneCell' = true := by
  intro u hu
  obtain ⟨b, _, hu⟩ := List.mem_flatMap.1 hu
  exact slV_one b u hu
set_option maxRecDepth 20000 in
set_option maxHeartbeats 1000000 in
theorem cloneU_any (X : Option Addr) (n c : Nat) (l : List Nat) (w : World) (h : Row w X n c 1 4 (u32s l)) (hb : n * 4 ≤ 140737488355328) :
    Calls Try.prog 145 #[.slice X n c] w fun e w' => ∃ A c', e = .returned (.slice A n c') ∧ w'.ownsRow w.heap.size 24 1 (.slice A n c') n (u32s l) ∧ Below w.heap.size w w' := by
  have hn := h.len
  have hr := h.rd
  rcases X with _ | ad
  · obtain ⟨rfl, rfl⟩ := h.nil rfl
    have e : u32s l = [] := List.eq_nil_of_length_eq_zero (by omega)
    rw [e]
    clear hn hr h hb
    have hq := fun wx => Lib.run_eql_slice_nil (P := Try.prog) wx 37 24 none 0 0 0 0 Try.underlying37
    go_enter Try.func145, Try.ntmps145
    go_wp2
    go_ret
    exact ⟨none, 0, rfl, World.ownsRow_nil _ _ _ _, Below.refl _ _⟩
  · have hq := fun wx => Lib.run_eql_slice_nil (P := Try.prog) wx 37 24 (some ad) n c 0 0 Try.underlying37
    have hrd : Rd (w.alloc (.cells #[] 24)) (some ad) (u32s l) := hr.below ((Below.refl _ _).alloc (Nat.le_refl _) _)
    have Hn := Lib.hid hn
    clear hn hr h
    go_enter Try.func145, Try.ntmps145
    go_wp2_with (at_builtin; refine wpList_app slU32 rfl _ _ rfl w.heap.size (some ⟨w.heap.size, 0, none⟩) 0 0 [] rfl (World.ownsRow_made w #[] 0 (Nat.le_refl _) (Nat.zero_le _) rfl) (some ad) n c (u32s l) rfl Hn.out hrd (u32s_oneS l) (by rw [Nat.zero_add]; exact hb) (by simp) ?_; intro A' c' w' hown hg hA)
    go_ret
    simp only [Nat.zero_add, List.nil_append] at hown
    refine ⟨A', c', by simp, hown, ((Below.refl _ _).alloc (Nat.le_refl _) _).grown hg (by simp) ?_⟩
    intro k hk
    simp at hk
    omega
set_option maxRecDepth 20000 in
set_option maxHeartbeats 1000000 in
theorem cloneK_any (X : Option Addr) (n c : Nat) (l : List Blk) (w : World) (h : Row w X n c 7 28 (rowK l)) (hb : n * 28 ≤ 140737488355328) :
    Calls Try.prog 147 #[.slice X n c] w fun e w' => ∃ A c', e = .returned (.slice A n c') ∧ w'.ownsRow w.heap.size 141 7 (.slice A n c') n (rowK l) ∧ Below w.heap.size w w' := by
  have hn := h.len
  have hr := h.rd
  rcases X with _ | ad
  · obtain ⟨rfl, rfl⟩ := h.nil rfl
    have e : rowK l = [] := List.eq_nil_of_length_eq_zero (by omega)
    rw [e]
    clear hn hr h hb
    have hq := fun wx => Lib.run_eql_slice_nil (P := Try.prog) wx 51 141 none 0 0 0 0 Try.underlying51
    go_enter Try.func147, Try.ntmps147
    go_wp2
    go_ret
    exact ⟨none, 0, rfl, World.ownsRow_nil _ _ _ _, Below.refl _ _⟩
  · have hq := fun wx => Lib.run_eql_slice_nil (P := Try.prog) wx 51 141 (some ad) n c 0 0 Try.underlying51
    have hrd : Rd (w.alloc (.cells #[] 141)) (some ad) (rowK l) := hr.below ((Below.refl _ _).alloc (Nat.le_refl _) _)
    have Hn := Lib.hid hn
    clear hn hr h
    go_enter Try.func147, Try.ntmps147
    go_wp2_with (at_builtin; refine wpList_app slK rfl _ _ rfl w.heap.size (some ⟨w.heap.size, 0, none⟩) 0 0 [] rfl (World.ownsRow_made w #[] 0 (Nat.le_refl _) (Nat.zero_le _) rfl) (some ad) n c (rowK l) rfl Hn.out hrd (rowK_oneS l) (by rw [Nat.zero_add]; exact hb) (by simp) ?_; intro A' c' w' hown hg hA)
    go_ret
    simp only [Nat.zero_add, List.nil_append] at hown
    refine ⟨A', c', by simp, hown, ((Below.refl _ _).alloc (Nat.le_refl _) _).grown hg (by simp) ?_⟩
    intro k hk
    simp at hk
    omega
set_option maxRecDepth 20000 in
set_option maxHeartbeats 1000000 in
theorem cloneP_any (X : Option Addr) (n c : Nat) (l : List (Nat × Nat)) (w : World) (h : Row w X n c 2 4 (rowP l)) (hb : n * 4 ≤ 140737488355328) :
    Calls Try.prog 148 #[.slice X n c] w fun e w' => ∃ A c', e = .returned (.slice A n c') ∧ w'.ownsRow w.heap.size 181 2 (.slice A n c') n (rowP l) ∧ Below w.heap.size w w' := by
  have hn := h.len
  have hr := h.rd
  rcases X with _ | ad
  · obtain ⟨rfl, rfl⟩ := h.nil rfl
    have e : rowP l = [] := List.eq_nil_of_length_eq_zero (by omega)
    rw [e]
    clear hn hr h hb
    have hq := fun wx => Lib.run_eql_slice_nil (P := Try.prog) wx 52 181 none 0 0 0 0 Try.underlying52
    go_enter Try.func148, Try.ntmps148
    go_wp2
    go_ret
    exact ⟨none, 0, rfl, World.ownsRow_nil _ _ _ _, Below.refl _ _⟩
  · have hq := fun wx => Lib.run_eql_slice_nil (P := Try.prog) wx 52 181 (some ad) n c 0 0 Try.underlying52
    have hrd : Rd (w.alloc (.cells #[] 181)) (some ad) (rowP l) := hr.below ((Below.refl _ _).alloc (Nat.le_refl _) _)
    have Hn := Lib.hid hn
    clear hn hr h
    go_enter Try.func148, Try.ntmps148
    go_wp2_with (at_builtin; refine wpList_app slPr rfl _ _ rfl w.heap.size (some ⟨w.heap.size, 0, none⟩) 0 0 [] rfl (World.ownsRow_made w #[] 0 (Nat.le_refl _) (Nat.zero_le _) rfl) (some ad) n c (rowP l) rfl Hn.out hrd (rowP_oneS l) (by rw [Nat.zero_add]; exact hb) (by simp) ?_; intro A' c' w' hown hg hA)
    go_ret
    simp only [Nat.zero_add, List.nil_append] at hown
    refine ⟨A', c', by simp, hown, ((Below.refl _ _).alloc (Nat.le_refl _) _).grown hg (by simp) ?_⟩
    intro k hk
    simp at hk
    omega
set_option maxRecDepth 20000 in
set_option maxHeartbeats 1000000 in
theorem cloneI_any (X : Option Addr) (n c : Nat) (l : List Sl) (w : World) (h : Row w X n c 10 120 (rowI l)) (hb : n * 120 ≤ 140737488355328) :
    Calls Try.prog 146 #[.slice X n c] w fun e w' => ∃ A c', e = .returned (.slice A n c') ∧ w'.ownsRow w.heap.size 54 10 (.slice A n c') n (rowI l) ∧ Below w.heap.size w w' := by
  have hn := h.len
  have hr := h.rd
  rcases X with _ | ad
  · obtain ⟨rfl, rfl⟩ := h.nil rfl
    have e : rowI l = [] := List.eq_nil_of_length_eq_zero (by omega)
    rw [e]
    clear hn hr h hb
    have hq := fun wx => Lib.run_eql_slice_nil (P := Try.prog) wx 48 54 none 0 0 0 0 Try.underlying48
    go_enter Try.func146, Try.ntmps146
    go_wp2
    go_ret
    exact ⟨none, 0, rfl, World.ownsRow_nil _ _ _ _, Below.refl _ _⟩
  · have hq := fun wx => Lib.run_eql_slice_nil (P := Try.prog) wx 48 54 (some ad) n c 0 0 Try.underlying48
    have hrd : Rd (w.alloc (.cells #[] 54)) (some ad) (rowI l) := hr.below ((Below.refl _ _).alloc (Nat.le_refl _) _)
    have Hn := Lib.hid hn
    clear hn hr h
    go_enter Try.func146, Try.ntmps146
    go_wp2_with (at_builtin; refine wpList_app slIt rfl _ _ rfl w.heap.size (some ⟨w.heap.size, 0, none⟩) 0 0 [] rfl (World.ownsRow_made w #[] 0 (Nat.le_refl _) (Nat.zero_le _) rfl) (some ad) n c (rowI l) rfl Hn.out hrd (rowI_oneS l) (by rw [Nat.zero_add]; exact hb) (by simp) ?_; intro A' c' w' hown hg hA)
    go_ret
    simp only [Nat.zero_add, List.nil_append] at hown
    refine ⟨A', c', by simp, hown, ((Below.refl _ _).alloc (Nat.le_refl _) _).grown hg (by simp) ?_⟩
    intro k hk
    simp at hk
    omega
end Go.Proofs.Ytknlkmencdlpcaa

namespace Go.Proofs.Ytknlkmencdlpcaa
set_option linter.unusedVariables false
set_option linter.unusedSimpArgs false
open Go Go.RowKit

theorem pk_set {w : World} {g : Nat} {t : TypeId} {a0 a1 a2 a3 a4 a5 a6 a7 a8 a9 a10 : Value} (v5 v8 v9 : Value) (h : w.heap[g]? = some (.cells #[a0, a1, a2, a3, a4, a5, a6, a7, a8, a9, a10] t (0, 0))) :
    (w.setCell ⟨g, 5, none⟩ v5).heap[g]? = some (.cells #[a0, a1, a2, a3, a4, v5, a6, a7, a8, a9, a10] t (0, 0)) ∧ ((w.setCell ⟨g, 5, none⟩ v5).setCell ⟨g, 8, none⟩ v8).heap[g]? = some (.cells #[a0, a1, a2, a3, a4, v5, a6, a7, v8, a9, a10] t (0, 0)) ∧
    (((w.setCell ⟨g, 5, none⟩ v5).setCell ⟨g, 8, none⟩ v8).setCell ⟨g, 9, none⟩ v9).heap[g]? = some (.cells #[a0, a1, a2, a3, a4, v5, a6, a7, v8, v9, a10] t (0, 0)) := by
  have h1 : (w.setCell ⟨g, 5, none⟩ v5).heap[g]? = some (.cells #[a0, a1, a2, a3, a4, v5, a6, a7, a8, a9, a10] t (0, 0)) := heap_setCell_same w g 5 _ _ _ h
  have h2 : ((w.setCell ⟨g, 5, none⟩ v5).setCell ⟨g, 8, none⟩ v8).heap[g]? = some (.cells #[a0, a1, a2, a3, a4, v5, a6, a7, v8, a9, a10] t (0, 0)) := heap_setCell_same _ g 8 _ _ _ h1
  exact ⟨h1, h2, heap_setCell_same _ g 9 _ _ _ h2⟩
theorem pk_keep {w : World} {g g' : Nat} {o : Obj} (v5 v8 v9 : Value) (hg' : w.heap[g']? = some o) (hne : g' ≠ g) : (((w.setCell ⟨g, 5, none⟩ v5).setCell ⟨g, 8, none⟩ v8).setCell ⟨g, 9, none⟩ v9).heap[g']? = some o := by
  rw [heap_setCell_other _ _ _ _ (fun e => hne e), heap_setCell_other _ _ _ _ (fun e => hne e), heap_setCell_other _ _ _ _ (fun e => hne e)]
  exact hg'
/-- Three cells of a block written: what was below and what is owned elsewhere stays. -/
theorem pk_own {w w1 : World} {base g : Nat} {p : Pkt} {C : Option Addr} {cn cc : Nat} {E : Option Addr} {en ec : Nat} {L : Option Addr} {ln lc : Nat} {a0 a1 a2 a3 a4 a5 a6 a7 a8 a9 a10 : Value} (v5 v8 v9 : Value)
    (h : w.heap[g]? = some (.cells #[a0, a1, a2, a3, a4, a5, a6, a7, a8, a9, a10] 39 (0, 0))) (ho : POwn w base p C cn cc E en ec L ln lc) (hb : Below w1.heap.size w1 w) (h1 : w1.heap.size ≤ g) :
    POwn (((w.setCell ⟨g, 5, none⟩ v5).setCell ⟨g, 8, none⟩ v8).setCell ⟨g, 9, none⟩ v9) base p C cn cc E en ec L ln lc ∧ Below w1.heap.size w1 (((w.setCell ⟨g, 5, none⟩ v5).setCell ⟨g, 8, none⟩ v8).setCell ⟨g, 9, none⟩ v9) := by
  obtain ⟨x1, x2, x3⟩ := pk_set v5 v8 v9 h
  exact ⟨((ho.over h (by decide) (by decide) (set_one w g 5 v5)).over x1 (by decide) (by decide) (set_one _ g 8 v8)).over x2 (by decide) (by decide) (set_one _ g 9 v9), ((hb.setCell (p := ⟨g, 5, none⟩) h1 v5).setCell (p := ⟨g, 8, none⟩) h1 v8).setCell (p := ⟨g, 9, none⟩) h1 v9⟩
abbrev pkA (p : Pkt) (C : Option Addr) (cn cc : Nat) (E : Option Addr) (en ec : Nat) (L : Option Addr) (ln lc : Nat) : Value := .agg #[.bool p.mr, .int .i64 p.ty, .int .u16 p.sq, .int .u32 p.tm, .int .u32 p.ss, .slice C cn cc, .bool p.hx, .int .u16 p.pf, .slice E en ec, .slice L ln lc, .int .i64 p.pad]
set_option maxRecDepth 20000 in
set_option maxHeartbeats 4000000 in
theorem ownP_any (p : Pkt) (C : Option Addr) (cn cc : Nat) (E : Option Addr) (en ec : Nat) (L : Option Addr) (ln lc : Nat) (w : World) (h : PRow w p C cn cc E en ec L ln lc) (b1 : cn * 4 ≤ 140737488355328) (b2 : en ≤ 140737488351232) (b3 : ln ≤ 140737488351232) :
    Calls Try.prog 112 #[pkA p C cn cc E en ec L ln lc] w fun e w' => ∃ C' cc' E' ec' L' lc', e = .returned (pkA p C' cn cc' E' en ec' L' ln lc') ∧ Hid (POwn w' w.heap.size p C' cn cc' E' en ec' L' ln lc') ∧ Below w.heap.size w w' := by
  have HP := Lib.hid h
  have HB := Lib.hid (And.intro b1 (And.intro b2 b3))
  clear h b1 b2 b3
  obtain ⟨hb0, hi0, hj0, hz0⟩ := two_new w (.cells #[.bool p.mr, .int .i64 p.ty, .int .u16 p.sq, .int .u32 p.tm, .int .u32 p.ss, .slice C cn cc, .bool p.hx, .int .u16 p.pf, .slice E en ec, .slice L ln lc, .int .i64 p.pad] 39) (.cells #[.bool false, .int .i64 0, .int .u16 0, .int .u32 0, .int .u32 0, .slice none 0 0, .bool false, .int .u16 0, .slice none 0 0, .slice none 0 0, .int .i64 0] 39)
  go_enter Try.func112, Try.ntmps112
  go_upto_region 1 with fail
  generalize (w.alloc _).alloc _ = w1 at *
  go_cut [] from 3 to 14 (fun wx => ∃ (A3 : Option Addr) (c3 : Nat) (A4 : Option Addr) (c4 : Nat) (A5 : Option Addr) (c5 : Nat), wx.heap[w.heap.size]? = some (.cells #[.bool p.mr, .int .i64 p.ty, .int .u16 p.sq, .int .u32 p.tm, .int .u32 p.ss, .slice A3 cn c3, .bool p.hx, .int .u16 p.pf, .slice A4 en c4, .slice A5 ln c5, .int .i64 p.pad] 39 (0, 0)) ∧ wx.heap[w.heap.size + 1]? = some (.cells #[.bool false, .int .i64 0, .int .u16 0, .int .u32 0, .int .u32 0, .slice none 0 0, .bool false, .int .u16 0, .slice none 0 0, .slice none 0 0, .int .i64 0] 39 (0, 0)) ∧ Hid (POwn wx w.heap.size p A3 cn c3 A4 en c4 A5 ln c5) ∧ Below w.heap.size w wx)
  case rest =>
    obtain ⟨A3, c3, A4, c4, A5, c5, hi6, hj6, HO, hb6⟩ := hcut
    obtain ⟨y0, y1, y2, y3, y4, y5, y6, y7, y8, y9, y10⟩ := eleven_cells hi6
    go_wp2_with (refine wpList_store_blk rfl 39 (.tmp 2) (.tmp 15) rfl (w.heap.size + 1) _ #[.bool p.mr, .int .i64 p.ty, .int .u16 p.sq, .int .u32 p.tm, .int .u32 p.ss, .slice A3 cn c3, .bool p.hx, .int .u16 p.pf, .slice A4 en c4, .slice A5 ln c5, .int .i64 p.pad] _ rfl rfl hj6 rfl (by kernel_rfl) (by simp [Value.oneCell']) ?_; intro w7 hi7 hg7; obtain ⟨z0, z1, z2, z3, z4, z5, z6, z7, z8, z9, z10⟩ := eleven_cells hi7)
    exact bodyPost_ret (v := pkA p A3 cn c3 A4 en c4 A5 ln c5) (by simp [results, Try.results112, go_sem, z0, z1, z2, z3, z4, z5, z6, z7, z8, z9, z10]) rfl ⟨A3, c3, A4, c4, A5, c5, rfl, HO.out.over hj6 (by decide) (by decide) hg7, hb6.grown hg7 hb6.size (fun k hk => by injection hk with hk; omega)⟩
  go_wp2_with fail
  have hbd := hb0.drew
  have hid := blk_below hi0 ((Below.refl _ w1).drew)
  have hjd := blk_below hj0 ((Below.refl _ w1).drew)
  refine region_plan (calmB_sound _) (.fork [0, 1, 3, 6] (.fork [4] (.leaf [7, 2, 9, 5, 8, 10, 11, 12, 13, 14]) (.fork [2] (.leaf [7, 9, 5, 8, 10, 11, 12, 13, 14]) (.leaf [5, 7, 9, 8, 10, 11, 12, 13, 14]))) (.fork [] (.fork [7] (.leaf [4, 2, 9, 5, 8, 10, 11, 12, 13, 14]) (.leaf [2, 4, 9, 5, 8, 10, 11, 12, 13, 14])) (.fork [2, 4] (.leaf [7, 9, 5, 8, 10, 11, 12, 13, 14]) (.leaf [5, 7, 9, 8, 10, 11, 12, 13, 14])))) (by kernel_rfl) (by kernel_rfl) (by kernel_rfl) ?_
  obtain ⟨x0, x1, x2, x3, x4, x5, x6, x7, x8, x9, x10⟩ := eleven_cells hid
  generalize w1.drew = wd at *
  refine wpPlan_fork fun PL0 hPL0 => ?_
  simp only [List.filterMap_cons, List.filterMap_nil, List.getElem?_toArray, List.getElem?_cons_succ, List.getElem?_cons_zero]
  change wpList _ _ _ [_, _, _, _] _ _
  go_wp2_with (first | (go_at_call 145; (with_reducible refine (cloneU_any C cn cc p.cs wd (HP.out.below hbd).rc HB.out.1).mono ?_); rintro e w3 ⟨A3, c3, rfl, ho3, hb3⟩; have hB3 := below_next hbd hb3; have hi3 := blk_below hid hb3; have hj3 := blk_below hjd hb3; obtain ⟨x0, x1, x2, x3, x4, x5, x6, x7, x8, x9, x10⟩ := eleven_cells hi3) | (go_at_call 101; (with_reducible refine (cloneB_any E en ec p.ex w3 (HP.out.hen) (by have := HB.out.2.1; omega) (HP.out.re.nil) (HP.out.below hB3).re.rd).mono ?_); rintro e w4 ⟨A4, c4, rfl, ho4, hb4⟩; have hB4 := below_next hB3 hb4; have hi4 := blk_below hi3 hb4; have hj4 := blk_below hj3 hb4; obtain ⟨x0, x1, x2, x3, x4, x5, x6, x7, x8, x9, x10⟩ := eleven_cells hi4) | (go_at_call 101; (with_reducible refine (cloneB_any L ln lc p.pl w4 (HP.out.hln) (by have := HB.out.2.2; omega) (HP.out.rl.nil) (HP.out.below hB4).rl.rd).mono ?_); rintro e w5 ⟨A5, c5, rfl, ho5, hb5⟩; have hB5 := below_next hB4 hb5; have hi5 := blk_below hi4 hb5; have hj5 := blk_below hj4 hb5; obtain ⟨x0, x1, x2, x3, x4, x5, x6, x7, x8, x9, x10⟩ := eleven_cells hi5; have f5 := frozen_row (j := 5) hi5; have f8 := frozen_row (j := 8) (pk_set (.slice A3 cn c3) (.slice A4 en c4) (.slice A5 ln c5) hi5).1; have f9 := frozen_row (j := 9) (pk_set (.slice A3 cn c3) (.slice A4 en c4) (.slice A5 ln c5) hi5).2.1; have hi6 := (pk_set (.slice A3 cn c3) (.slice A4 en c4) (.slice A5 ln c5) hi5).2.2))
  refine hPL0 _ _ ?_ ?_
  · refine wpPlan_fork fun PL1 hPL1 => ?_
    simp only [List.filterMap_cons, List.filterMap_nil, List.getElem?_toArray, List.getElem?_cons_succ, List.getElem?_cons_zero]
    change wpList _ _ _ [_] _ _
    go_wp2_with (first | (go_at_call 145; (with_reducible refine (cloneU_any C cn cc p.cs wd (HP.out.below hbd).rc HB.out.1).mono ?_); rintro e w3 ⟨A3, c3, rfl, ho3, hb3⟩; have hB3 := below_next hbd hb3; have hi3 := blk_below hid hb3; have hj3 := blk_below hjd hb3; obtain ⟨x0, x1, x2, x3, x4, x5, x6, x7, x8, x9, x10⟩ := eleven_cells hi3) | (go_at_call 101; (with_reducible refine (cloneB_any E en ec p.ex w3 (HP.out.hen) (by have := HB.out.2.1; omega) (HP.out.re.nil) (HP.out.below hB3).re.rd).mono ?_); rintro e w4 ⟨A4, c4, rfl, ho4, hb4⟩; have hB4 := below_next hB3 hb4; have hi4 := blk_below hi3 hb4; have hj4 := blk_below hj3 hb4; obtain ⟨x0, x1, x2, x3, x4, x5, x6, x7, x8, x9, x10⟩ := eleven_cells hi4) | (go_at_call 101; (with_reducible refine (cloneB_any L ln lc p.pl w4 (HP.out.hln) (by have := HB.out.2.2; omega) (HP.out.rl.nil) (HP.out.below hB4).rl.rd).mono ?_); rintro e w5 ⟨A5, c5, rfl, ho5, hb5⟩; have hB5 := below_next hB4 hb5; have hi5 := blk_below hi4 hb5; have hj5 := blk_below hj4 hb5; obtain ⟨x0, x1, x2, x3, x4, x5, x6, x7, x8, x9, x10⟩ := eleven_cells hi5; have f5 := frozen_row (j := 5) hi5; have f8 := frozen_row (j := 8) (pk_set (.slice A3 cn c3) (.slice A4 en c4) (.slice A5 ln c5) hi5).1; have f9 := frozen_row (j := 9) (pk_set (.slice A3 cn c3) (.slice A4 en c4) (.slice A5 ln c5) hi5).2.1; have hi6 := (pk_set (.slice A3 cn c3) (.slice A4 en c4) (.slice A5 ln c5) hi5).2.2))
    refine hPL1 _ _ ?_ ?_
    · refine wpPlan_leaf fun PL2 hPL2 => ?_
      simp only [List.filterMap_cons, List.filterMap_nil, List.getElem?_toArray, List.getElem?_cons_succ, List.getElem?_cons_zero]
      change wpList _ _ _ [_, _, _, _, _, _, _, _, _, _] _ _
      go_wp2_with (first | (go_at_call 145; (with_reducible refine (cloneU_any C cn cc p.cs wd (HP.out.below hbd).rc HB.out.1).mono ?_); rintro e w3 ⟨A3, c3, rfl, ho3, hb3⟩; have hB3 := below_next hbd hb3; have hi3 := blk_below hid hb3; have hj3 := blk_below hjd hb3; obtain ⟨x0, x1, x2, x3, x4, x5, x6, x7, x8, x9, x10⟩ := eleven_cells hi3) | (go_at_call 101; (with_reducible refine (cloneB_any E en ec p.ex w3 (HP.out.hen) (by have := HB.out.2.1; omega) (HP.out.re.nil) (HP.out.below hB3).re.rd).mono ?_); rintro e w4 ⟨A4, c4, rfl, ho4, hb4⟩; have hB4 := below_next hB3 hb4; have hi4 := blk_below hi3 hb4; have hj4 := blk_below hj3 hb4; obtain ⟨x0, x1, x2, x3, x4, x5, x6, x7, x8, x9, x10⟩ := eleven_cells hi4) | (go_at_call 101; (with_reducible refine (cloneB_any L ln lc p.pl w4 (HP.out.hln) (by have := HB.out.2.2; omega) (HP.out.rl.nil) (HP.out.below hB4).rl.rd).mono ?_); rintro e w5 ⟨A5, c5, rfl, ho5, hb5⟩; have hB5 := below_next hB4 hb5; have hi5 := blk_below hi4 hb5; have hj5 := blk_below hj4 hb5; obtain ⟨x0, x1, x2, x3, x4, x5, x6, x7, x8, x9, x10⟩ := eleven_cells hi5; have f5 := frozen_row (j := 5) hi5; have f8 := frozen_row (j := 8) (pk_set (.slice A3 cn c3) (.slice A4 en c4) (.slice A5 ln c5) hi5).1; have f9 := frozen_row (j := 9) (pk_set (.slice A3 cn c3) (.slice A4 en c4) (.slice A5 ln c5) hi5).2.1; have hi6 := (pk_set (.slice A3 cn c3) (.slice A4 en c4) (.slice A5 ln c5) hi5).2.2))
      go_meet
      have hPB := pk_own (.slice A3 cn c3) (.slice A4 en c4) (.slice A5 ln c5) hi5 (base := w.heap.size) ⟨own_mono ((ho3.kept (own_below hb4) (own_none _)).kept (own_below hb5) (own_none _)) hbd.size, own_mono (ho4.kept (own_below hb5) (own_none _)) hB3.size, own_mono ho5 hB4.size⟩ hB5 (Nat.le_refl _)
      exact ⟨A3, c3, A4, c4, A5, c5, hi6, pk_keep (g := w.heap.size) (.slice A3 cn c3) (.slice A4 en c4) (.slice A5 ln c5) hj5 (by omega), hPB.1, hPB.2⟩
    · refine wpPlan_fork fun PL2 hPL2 => ?_
      simp only [List.filterMap_cons, List.filterMap_nil, List.getElem?_toArray, List.getElem?_cons_succ, List.getElem?_cons_zero]
      change wpList _ _ _ [_] _ _
      go_wp2_with (first | (go_at_call 145; (with_reducible refine (cloneU_any C cn cc p.cs wd (HP.out.below hbd).rc HB.out.1).mono ?_); rintro e w3 ⟨A3, c3, rfl, ho3, hb3⟩; have hB3 := below_next hbd hb3; have hi3 := blk_below hid hb3; have hj3 := blk_below hjd hb3; obtain ⟨x0, x1, x2, x3, x4, x5, x6, x7, x8, x9, x10⟩ := eleven_cells hi3) | (go_at_call 101; (with_reducible refine (cloneB_any E en ec p.ex w3 (HP.out.hen) (by have := HB.out.2.1; omega) (HP.out.re.nil) (HP.out.below hB3).re.rd).mono ?_); rintro e w4 ⟨A4, c4, rfl, ho4, hb4⟩; have hB4 := below_next hB3 hb4; have hi4 := blk_below hi3 hb4; have hj4 := blk_below hj3 hb4; obtain ⟨x0, x1, x2, x3, x4, x5, x6, x7, x8, x9, x10⟩ := eleven_cells hi4) | (go_at_call 101; (with_reducible refine (cloneB_any L ln lc p.pl w4 (HP.out.hln) (by have := HB.out.2.2; omega) (HP.out.rl.nil) (HP.out.below hB4).rl.rd).mono ?_); rintro e w5 ⟨A5, c5, rfl, ho5, hb5⟩; have hB5 := below_next hB4 hb5; have hi5 := blk_below hi4 hb5; have hj5 := blk_below hj4 hb5; obtain ⟨x0, x1, x2, x3, x4, x5, x6, x7, x8, x9, x10⟩ := eleven_cells hi5; have f5 := frozen_row (j := 5) hi5; have f8 := frozen_row (j := 8) (pk_set (.slice A3 cn c3) (.slice A4 en c4) (.slice A5 ln c5) hi5).1; have f9 := frozen_row (j := 9) (pk_set (.slice A3 cn c3) (.slice A4 en c4) (.slice A5 ln c5) hi5).2.1; have hi6 := (pk_set (.slice A3 cn c3) (.slice A4 en c4) (.slice A5 ln c5) hi5).2.2))
      refine hPL2 _ _ ?_ ?_
      · refine wpPlan_leaf fun PL3 hPL3 => ?_
        simp only [List.filterMap_cons, List.filterMap_nil, List.getElem?_toArray, List.getElem?_cons_succ, List.getElem?_cons_zero]
        change wpList _ _ _ [_, _, _, _, _, _, _, _, _] _ _
        go_wp2_with (first | (go_at_call 145; (with_reducible refine (cloneU_any C cn cc p.cs wd (HP.out.below hbd).rc HB.out.1).mono ?_); rintro e w3 ⟨A3, c3, rfl, ho3, hb3⟩; have hB3 := below_next hbd hb3; have hi3 := blk_below hid hb3; have hj3 := blk_below hjd hb3; obtain ⟨x0, x1, x2, x3, x4, x5, x6, x7, x8, x9, x10⟩ := eleven_cells hi3) | (go_at_call 101; (with_reducible refine (cloneB_any E en ec p.ex w3 (HP.out.hen) (by have := HB.out.2.1; omega) (HP.out.re.nil) (HP.out.below hB3).re.rd).mono ?_); rintro e w4 ⟨A4, c4, rfl, ho4, hb4⟩; have hB4 := below_next hB3 hb4; have hi4 := blk_below hi3 hb4; have hj4 := blk_below hj3 hb4; obtain ⟨x0, x1, x2, x3, x4, x5, x6, x7, x8, x9, x10⟩ := eleven_cells hi4) | (go_at_call 101; (with_reducible refine (cloneB_any L ln lc p.pl w4 (HP.out.hln) (by have := HB.out.2.2; omega) (HP.out.rl.nil) (HP.out.below hB4).rl.rd).mono ?_); rintro e w5 ⟨A5, c5, rfl, ho5, hb5⟩; have hB5 := below_next hB4 hb5; have hi5 := blk_below hi4 hb5; have hj5 := blk_below hj4 hb5; obtain ⟨x0, x1, x2, x3, x4, x5, x6, x7, x8, x9, x10⟩ := eleven_cells hi5; have f5 := frozen_row (j := 5) hi5; have f8 := frozen_row (j := 8) (pk_set (.slice A3 cn c3) (.slice A4 en c4) (.slice A5 ln c5) hi5).1; have f9 := frozen_row (j := 9) (pk_set (.slice A3 cn c3) (.slice A4 en c4) (.slice A5 ln c5) hi5).2.1; have hi6 := (pk_set (.slice A3 cn c3) (.slice A4 en c4) (.slice A5 ln c5) hi5).2.2))
        go_meet
        have hPB := pk_own (.slice A3 cn c3) (.slice A4 en c4) (.slice A5 ln c5) hi5 (base := w.heap.size) ⟨own_mono ((ho3.kept (own_below hb4) (own_none _)).kept (own_below hb5) (own_none _)) hbd.size, own_mono (ho4.kept (own_below hb5) (own_none _)) hB3.size, own_mono ho5 hB4.size⟩ hB5 (Nat.le_refl _)
        exact ⟨A3, c3, A4, c4, A5, c5, hi6, pk_keep (g := w.heap.size) (.slice A3 cn c3) (.slice A4 en c4) (.slice A5 ln c5) hj5 (by omega), hPB.1, hPB.2⟩
      · refine wpPlan_leaf fun PL3 hPL3 => ?_
        simp only [List.filterMap_cons, List.filterMap_nil, List.getElem?_toArray, List.getElem?_cons_succ, List.getElem?_cons_zero]
        change wpList _ _ _ [_, _, _, _, _, _, _, _, _] _ _
        go_wp2_with (first | (go_at_call 145; (with_reducible refine (cloneU_any C cn cc p.cs wd (HP.out.below hbd).rc HB.out.1).mono ?_); rintro e w3 ⟨A3, c3, rfl, ho3, hb3⟩; have hB3 := below_next hbd hb3; have hi3 := blk_below hid hb3; have hj3 := blk_below hjd hb3; obtain ⟨x0, x1, x2, x3, x4, x5, x6, x7, x8, x9, x10⟩ := eleven_cells hi3) | (go_at_call 101; (with_reducible refine (cloneB_any E en ec p.ex w3 (HP.out.hen) (by have := HB.out.2.1; omega) (HP.out.re.nil) (HP.out.below hB3).re.rd).mono ?_); rintro e w4 ⟨A4, c4, rfl, ho4, hb4⟩; have hB4 := below_next hB3 hb4; have hi4 := blk_below hi3 hb4; have hj4 := blk_below hj3 hb4; obtain ⟨x0, x1, x2, x3, x4, x5, x6, x7, x8, x9, x10⟩ := eleven_cells hi4) | (go_at_call 101; (with_reducible refine (cloneB_any L ln lc p.pl w4 (HP.out.hln) (by have := HB.out.2.2; omega) (HP.out.rl.nil) (HP.out.below hB4).rl.rd).mono ?_); rintro e w5 ⟨A5, c5, rfl, ho5, hb5⟩; have hB5 := below_next hB4 hb5; have hi5 := blk_below hi4 hb5; have hj5 := blk_below hj4 hb5; obtain ⟨x0, x1, x2, x3, x4, x5, x6, x7, x8, x9, x10⟩ := eleven_cells hi5; have f5 := frozen_row (j := 5) hi5; have f8 := frozen_row (j := 8) (pk_set (.slice A3 cn c3) (.slice A4 en c4) (.slice A5 ln c5) hi5).1; have f9 := frozen_row (j := 9) (pk_set (.slice A3 cn c3) (.slice A4 en c4) (.slice A5 ln c5) hi5).2.1; have hi6 := (pk_set (.slice A3 cn c3) (.slice A4 en c4) (.slice A5 ln c5) hi5).2.2))
        go_meet
        have hPB := pk_own (.slice A3 cn c3) (.slice A4 en c4) (.slice A5 ln c5) hi5 (base := w.heap.size) ⟨own_mono ((ho3.kept (own_below hb4) (own_none _)).kept (own_below hb5) (own_none _)) hbd.size, own_mono (ho4.kept (own_below hb5) (own_none _)) hB3.size, own_mono ho5 hB4.size⟩ hB5 (Nat.le_refl _)
        exact ⟨A3, c3, A4, c4, A5, c5, hi6, pk_keep (g := w.heap.size) (.slice A3 cn c3) (.slice A4 en c4) (.slice A5 ln c5) hj5 (by omega), hPB.1, hPB.2⟩
  · refine wpPlan_fork fun PL1 hPL1 => ?_
    simp only [List.filterMap_cons, List.filterMap_nil, List.getElem?_toArray, List.getElem?_cons_succ, List.getElem?_cons_zero]
    go_wp2_with (first | (go_at_call 145; (with_reducible refine (cloneU_any C cn cc p.cs wd (HP.out.below hbd).rc HB.out.1).mono ?_); rintro e w3 ⟨A3, c3, rfl, ho3, hb3⟩; have hB3 := below_next hbd hb3; have hi3 := blk_below hid hb3; have hj3 := blk_below hjd hb3; obtain ⟨x0, x1, x2, x3, x4, x5, x6, x7, x8, x9, x10⟩ := eleven_cells hi3) | (go_at_call 101; (with_reducible refine (cloneB_any E en ec p.ex w3 (HP.out.hen) (by have := HB.out.2.1; omega) (HP.out.re.nil) (HP.out.below hB3).re.rd).mono ?_); rintro e w4 ⟨A4, c4, rfl, ho4, hb4⟩; have hB4 := below_next hB3 hb4; have hi4 := blk_below hi3 hb4; have hj4 := blk_below hj3 hb4; obtain ⟨x0, x1, x2, x3, x4, x5, x6, x7, x8, x9, x10⟩ := eleven_cells hi4) | (go_at_call 101; (with_reducible refine (cloneB_any L ln lc p.pl w4 (HP.out.hln) (by have := HB.out.2.2; omega) (HP.out.rl.nil) (HP.out.below hB4).rl.rd).mono ?_); rintro e w5 ⟨A5, c5, rfl, ho5, hb5⟩; have hB5 := below_next hB4 hb5; have hi5 := blk_below hi4 hb5; have hj5 := blk_below hj4 hb5; obtain ⟨x0, x1, x2, x3, x4, x5, x6, x7, x8, x9, x10⟩ := eleven_cells hi5; have f5 := frozen_row (j := 5) hi5; have f8 := frozen_row (j := 8) (pk_set (.slice A3 cn c3) (.slice A4 en c4) (.slice A5 ln c5) hi5).1; have f9 := frozen_row (j := 9) (pk_set (.slice A3 cn c3) (.slice A4 en c4) (.slice A5 ln c5) hi5).2.1; have hi6 := (pk_set (.slice A3 cn c3) (.slice A4 en c4) (.slice A5 ln c5) hi5).2.2))
    refine hPL1 _ _ ?_ ?_
    · refine wpPlan_fork fun PL2 hPL2 => ?_
      simp only [List.filterMap_cons, List.filterMap_nil, List.getElem?_toArray, List.getElem?_cons_succ, List.getElem?_cons_zero]
      change wpList _ _ _ [_] _ _
      go_wp2_with (first | (go_at_call 145; (with_reducible refine (cloneU_any C cn cc p.cs wd (HP.out.below hbd).rc HB.out.1).mono ?_); rintro e w3 ⟨A3, c3, rfl, ho3, hb3⟩; have hB3 := below_next hbd hb3; have hi3 := blk_below hid hb3; have hj3 := blk_below hjd hb3; obtain ⟨x0, x1, x2, x3, x4, x5, x6, x7, x8, x9, x10⟩ := eleven_cells hi3) | (go_at_call 101; (with_reducible refine (cloneB_any E en ec p.ex w3 (HP.out.hen) (by have := HB.out.2.1; omega) (HP.out.re.nil) (HP.out.below hB3).re.rd).mono ?_); rintro e w4 ⟨A4, c4, rfl, ho4, hb4⟩; have hB4 := below_next hB3 hb4; have hi4 := blk_below hi3 hb4; have hj4 := blk_below hj3 hb4; obtain ⟨x0, x1, x2, x3, x4, x5, x6, x7, x8, x9, x10⟩ := eleven_cells hi4) | (go_at_call 101; (with_reducible refine (cloneB_any L ln lc p.pl w4 (HP.out.hln) (by have := HB.out.2.2; omega) (HP.out.rl.nil) (HP.out.below hB4).rl.rd).mono ?_); rintro e w5 ⟨A5, c5, rfl, ho5, hb5⟩; have hB5 := below_next hB4 hb5; have hi5 := blk_below hi4 hb5; have hj5 := blk_below hj4 hb5; obtain ⟨x0, x1, x2, x3, x4, x5, x6, x7, x8, x9, x10⟩ := eleven_cells hi5; have f5 := frozen_row (j := 5) hi5; have f8 := frozen_row (j := 8) (pk_set (.slice A3 cn c3) (.slice A4 en c4) (.slice A5 ln c5) hi5).1; have f9 := frozen_row (j := 9) (pk_set (.slice A3 cn c3) (.slice A4 en c4) (.slice A5 ln c5) hi5).2.1; have hi6 := (pk_set (.slice A3 cn c3) (.slice A4 en c4) (.slice A5 ln c5) hi5).2.2))
      refine hPL2 _ _ ?_ ?_
      · refine wpPlan_leaf fun PL3 hPL3 => ?_
        simp only [List.filterMap_cons, List.filterMap_nil, List.getElem?_toArray, List.getElem?_cons_succ, List.getElem?_cons_zero]
        change wpList _ _ _ [_, _, _, _, _, _, _, _, _, _] _ _
        go_wp2_with (first | (go_at_call 145; (with_reducible refine (cloneU_any C cn cc p.cs wd (HP.out.below hbd).rc HB.out.1).mono ?_); rintro e w3 ⟨A3, c3, rfl, ho3, hb3⟩; have hB3 := below_next hbd hb3; have hi3 := blk_below hid hb3; have hj3 := blk_below hjd hb3; obtain ⟨x0, x1, x2, x3, x4, x5, x6, x7, x8, x9, x10⟩ := eleven_cells hi3) | (go_at_call 101; (with_reducible refine (cloneB_any E en ec p.ex w3 (HP.out.hen) (by have := HB.out.2.1; omega) (HP.out.re.nil) (HP.out.below hB3).re.rd).mono ?_); rintro e w4 ⟨A4, c4, rfl, ho4, hb4⟩; have hB4 := below_next hB3 hb4; have hi4 := blk_below hi3 hb4; have hj4 := blk_below hj3 hb4; obtain ⟨x0, x1, x2, x3, x4, x5, x6, x7, x8, x9, x10⟩ := eleven_cells hi4) | (go_at_call 101; (with_reducible refine (cloneB_any L ln lc p.pl w4 (HP.out.hln) (by have := HB.out.2.2; omega) (HP.out.rl.nil) (HP.out.below hB4).rl.rd).mono ?_); rintro e w5 ⟨A5, c5, rfl, ho5, hb5⟩; have hB5 := below_next hB4 hb5; have hi5 := blk_below hi4 hb5; have hj5 := blk_below hj4 hb5; obtain ⟨x0, x1, x2, x3, x4, x5, x6, x7, x8, x9, x10⟩ := eleven_cells hi5; have f5 := frozen_row (j := 5) hi5; have f8 := frozen_row (j := 8) (pk_set (.slice A3 cn c3) (.slice A4 en c4) (.slice A5 ln c5) hi5).1; have f9 := frozen_row (j := 9) (pk_set (.slice A3 cn c3) (.slice A4 en c4) (.slice A5 ln c5) hi5).2.1; have hi6 := (pk_set (.slice A3 cn c3) (.slice A4 en c4) (.slice A5 ln c5) hi5).2.2))
        go_meet
        have hPB := pk_own (.slice A3 cn c3) (.slice A4 en c4) (.slice A5 ln c5) hi5 (base := w.heap.size) ⟨own_mono ((ho3.kept (own_below hb4) (own_none _)).kept (own_below hb5) (own_none _)) hbd.size, own_mono (ho4.kept (own_below hb5) (own_none _)) hB3.size, own_mono ho5 hB4.size⟩ hB5 (Nat.le_refl _)
        exact ⟨A3, c3, A4, c4, A5, c5, hi6, pk_keep (g := w.heap.size) (.slice A3 cn c3) (.slice A4 en c4) (.slice A5 ln c5) hj5 (by omega), hPB.1, hPB.2⟩
      · refine wpPlan_leaf fun PL3 hPL3 => ?_
        simp only [List.filterMap_cons, List.filterMap_nil, List.getElem?_toArray, List.getElem?_cons_succ, List.getElem?_cons_zero]
        change wpList _ _ _ [_, _, _, _, _, _, _, _, _, _] _ _
        go_wp2_with (first | (go_at_call 145; (with_reducible refine (cloneU_any C cn cc p.cs wd (HP.out.below hbd).rc HB.out.1).mono ?_); rintro e w3 ⟨A3, c3, rfl, ho3, hb3⟩; have hB3 := below_next hbd hb3; have hi3 := blk_below hid hb3; have hj3 := blk_below hjd hb3; obtain ⟨x0, x1, x2, x3, x4, x5, x6, x7, x8, x9, x10⟩ := eleven_cells hi3) | (go_at_call 101; (with_reducible refine (cloneB_any E en ec p.ex w3 (HP.out.hen) (by have := HB.out.2.1; omega) (HP.out.re.nil) (HP.out.below hB3).re.rd).mono ?_); rintro e w4 ⟨A4, c4, rfl, ho4, hb4⟩; have hB4 := below_next hB3 hb4; have hi4 := blk_below hi3 hb4; have hj4 := blk_below hj3 hb4; obtain ⟨x0, x1, x2, x3, x4, x5, x6, x7, x8, x9, x10⟩ := eleven_cells hi4) | (go_at_call 101; (with_reducible refine (cloneB_any L ln lc p.pl w4 (HP.out.hln) (by have := HB.out.2.2; omega) (HP.out.rl.nil) (HP.out.below hB4).rl.rd).mono ?_); rintro e w5 ⟨A5, c5, rfl, ho5, hb5⟩; have hB5 := below_next hB4 hb5; have hi5 := blk_below hi4 hb5; have hj5 := blk_below hj4 hb5; obtain ⟨x0, x1, x2, x3, x4, x5, x6, x7, x8, x9, x10⟩ := eleven_cells hi5; have f5 := frozen_row (j := 5) hi5; have f8 := frozen_row (j := 8) (pk_set (.slice A3 cn c3) (.slice A4 en c4) (.slice A5 ln c5) hi5).1; have f9 := frozen_row (j := 9) (pk_set (.slice A3 cn c3) (.slice A4 en c4) (.slice A5 ln c5) hi5).2.1; have hi6 := (pk_set (.slice A3 cn c3) (.slice A4 en c4) (.slice A5 ln c5) hi5).2.2))
        go_meet
        have hPB := pk_own (.slice A3 cn c3) (.slice A4 en c4) (.slice A5 ln c5) hi5 (base := w.heap.size) ⟨own_mono ((ho3.kept (own_below hb4) (own_none _)).kept (own_below hb5) (own_none _)) hbd.size, own_mono (ho4.kept (own_below hb5) (own_none _)) hB3.size, own_mono ho5 hB4.size⟩ hB5 (Nat.le_refl _)
        exact ⟨A3, c3, A4, c4, A5, c5, hi6, pk_keep (g := w.heap.size) (.slice A3 cn c3) (.slice A4 en c4) (.slice A5 ln c5) hj5 (by omega), hPB.1, hPB.2⟩
    · refine wpPlan_fork fun PL2 hPL2 => ?_
      simp only [List.filterMap_cons, List.filterMap_nil, List.getElem?_toArray, List.getElem?_cons_succ, List.getElem?_cons_zero]
      change wpList _ _ _ [_, _] _ _
      go_wp2_with (first | (go_at_call 145; (with_reducible refine (cloneU_any C cn cc p.cs wd (HP.out.below hbd).rc HB.out.1).mono ?_); rintro e w3 ⟨A3, c3, rfl, ho3, hb3⟩; have hB3 := below_next hbd hb3; have hi3 := blk_below hid hb3; have hj3 := blk_below hjd hb3; obtain ⟨x0, x1, x2, x3, x4, x5, x6, x7, x8, x9, x10⟩ := eleven_cells hi3) | (go_at_call 101; (with_reducible refine (cloneB_any E en ec p.ex w3 (HP.out.hen) (by have := HB.out.2.1; omega) (HP.out.re.nil) (HP.out.below hB3).re.rd).mono ?_); rintro e w4 ⟨A4, c4, rfl, ho4, hb4⟩; have hB4 := below_next hB3 hb4; have hi4 := blk_below hi3 hb4; have hj4 := blk_below hj3 hb4; obtain ⟨x0, x1, x2, x3, x4, x5, x6, x7, x8, x9, x10⟩ := eleven_cells hi4) | (go_at_call 101; (with_reducible refine (cloneB_any L ln lc p.pl w4 (HP.out.hln) (by have := HB.out.2.2; omega) (HP.out.rl.nil) (HP.out.below hB4).rl.rd).mono ?_); rintro e w5 ⟨A5, c5, rfl, ho5, hb5⟩; have hB5 := below_next hB4 hb5; have hi5 := blk_below hi4 hb5; have hj5 := blk_below hj4 hb5; obtain ⟨x0, x1, x2, x3, x4, x5, x6, x7, x8, x9, x10⟩ := eleven_cells hi5; have f5 := frozen_row (j := 5) hi5; have f8 := frozen_row (j := 8) (pk_set (.slice A3 cn c3) (.slice A4 en c4) (.slice A5 ln c5) hi5).1; have f9 := frozen_row (j := 9) (pk_set (.slice A3 cn c3) (.slice A4 en c4) (.slice A5 ln c5) hi5).2.1; have hi6 := (pk_set (.slice A3 cn c3) (.slice A4 en c4) (.slice A5 ln c5) hi5).2.2))
      refine hPL2 _ _ ?_ ?_
      · refine wpPlan_leaf fun PL3 hPL3 => ?_
        simp only [List.filterMap_cons, List.filterMap_nil, List.getElem?_toArray, List.getElem?_cons_succ, List.getElem?_cons_zero]
        change wpList _ _ _ [_, _, _, _, _, _, _, _, _] _ _
        go_wp2_with (first | (go_at_call 145; (with_reducible refine (cloneU_any C cn cc p.cs wd (HP.out.below hbd).rc HB.out.1).mono ?_); rintro e w3 ⟨A3, c3, rfl, ho3, hb3⟩; have hB3 := below_next hbd hb3; have hi3 := blk_below hid hb3; have hj3 := blk_below hjd hb3; obtain ⟨x0, x1, x2, x3, x4, x5, x6, x7, x8, x9, x10⟩ := eleven_cells hi3) | (go_at_call 101; (with_reducible refine (cloneB_any E en ec p.ex w3 (HP.out.hen) (by have := HB.out.2.1; omega) (HP.out.re.nil) (HP.out.below hB3).re.rd).mono ?_); rintro e w4 ⟨A4, c4, rfl, ho4, hb4⟩; have hB4 := below_next hB3 hb4; have hi4 := blk_below hi3 hb4; have hj4 := blk_below hj3 hb4; obtain ⟨x0, x1, x2, x3, x4, x5, x6, x7, x8, x9, x10⟩ := eleven_cells hi4) | (go_at_call 101; (with_reducible refine (cloneB_any L ln lc p.pl w4 (HP.out.hln) (by have := HB.out.2.2; omega) (HP.out.rl.nil) (HP.out.below hB4).rl.rd).mono ?_); rintro e w5 ⟨A5, c5, rfl, ho5, hb5⟩; have hB5 := below_next hB4 hb5; have hi5 := blk_below hi4 hb5; have hj5 := blk_below hj4 hb5; obtain ⟨x0, x1, x2, x3, x4, x5, x6, x7, x8, x9, x10⟩ := eleven_cells hi5; have f5 := frozen_row (j := 5) hi5; have f8 := frozen_row (j := 8) (pk_set (.slice A3 cn c3) (.slice A4 en c4) (.slice A5 ln c5) hi5).1; have f9 := frozen_row (j := 9) (pk_set (.slice A3 cn c3) (.slice A4 en c4) (.slice A5 ln c5) hi5).2.1; have hi6 := (pk_set (.slice A3 cn c3) (.slice A4 en c4) (.slice A5 ln c5) hi5).2.2))
        go_meet
        have hPB := pk_own (.slice A3 cn c3) (.slice A4 en c4) (.slice A5 ln c5) hi5 (base := w.heap.size) ⟨own_mono ((ho3.kept (own_below hb4) (own_none _)).kept (own_below hb5) (own_none _)) hbd.size, own_mono (ho4.kept (own_below hb5) (own_none _)) hB3.size, own_mono ho5 hB4.size⟩ hB5 (Nat.le_refl _)
        exact ⟨A3, c3, A4, c4, A5, c5, hi6, pk_keep (g := w.heap.size) (.slice A3 cn c3) (.slice A4 en c4) (.slice A5 ln c5) hj5 (by omega), hPB.1, hPB.2⟩
      · refine wpPlan_leaf fun PL3 hPL3 => ?_
        simp only [List.filterMap_cons, List.filterMap_nil, List.getElem?_toArray, List.getElem?_cons_succ, List.getElem?_cons_zero]
        change wpList _ _ _ [_, _, _, _, _, _, _, _, _] _ _
        go_wp2_with (first | (go_at_call 145; (with_reducible refine (cloneU_any C cn cc p.cs wd (HP.out.below hbd).rc HB.out.1).mono ?_); rintro e w3 ⟨A3, c3, rfl, ho3, hb3⟩; have hB3 := below_next hbd hb3; have hi3 := blk_below hid hb3; have hj3 := blk_below hjd hb3; obtain ⟨x0, x1, x2, x3, x4, x5, x6, x7, x8, x9, x10⟩ := eleven_cells hi3) | (go_at_call 101; (with_reducible refine (cloneB_any E en ec p.ex w3 (HP.out.hen) (by have := HB.out.2.1; omega) (HP.out.re.nil) (HP.out.below hB3).re.rd).mono ?_); rintro e w4 ⟨A4, c4, rfl, ho4, hb4⟩; have hB4 := below_next hB3 hb4; have hi4 := blk_below hi3 hb4; have hj4 := blk_below hj3 hb4; obtain ⟨x0, x1, x2, x3, x4, x5, x6, x7, x8, x9, x10⟩ := eleven_cells hi4) | (go_at_call 101; (with_reducible refine (cloneB_any L ln lc p.pl w4 (HP.out.hln) (by have := HB.out.2.2; omega) (HP.out.rl.nil) (HP.out.below hB4).rl.rd).mono ?_); rintro e w5 ⟨A5, c5, rfl, ho5, hb5⟩; have hB5 := below_next hB4 hb5; have hi5 := blk_below hi4 hb5; have hj5 := blk_below hj4 hb5; obtain ⟨x0, x1, x2, x3, x4, x5, x6, x7, x8, x9, x10⟩ := eleven_cells hi5; have f5 := frozen_row (j := 5) hi5; have f8 := frozen_row (j := 8) (pk_set (.slice A3 cn c3) (.slice A4 en c4) (.slice A5 ln c5) hi5).1; have f9 := frozen_row (j := 9) (pk_set (.slice A3 cn c3) (.slice A4 en c4) (.slice A5 ln c5) hi5).2.1; have hi6 := (pk_set (.slice A3 cn c3) (.slice A4 en c4) (.slice A5 ln c5) hi5).2.2))
        go_meet
        have hPB := pk_own (.slice A3 cn c3) (.slice A4 en c4) (.slice A5 ln c5) hi5 (base := w.heap.size) ⟨own_mono ((ho3.kept (own_below hb4) (own_none _)).kept (own_below hb5) (own_none _)) hbd.size, own_mono (ho4.kept (own_below hb5) (own_none _)) hB3.size, own_mono ho5 hB4.size⟩ hB5 (Nat.le_refl _)
        exact ⟨A3, c3, A4, c4, A5, c5, hi6, pk_keep (g := w.heap.size) (.slice A3 cn c3) (.slice A4 en c4) (.slice A5 ln c5) hj5 (by omega), hPB.1, hPB.2⟩
end Go.Proofs.Ytknlkmencdlpcaa

namespace Go.Proofs.Ytknlkmencdlpcaa
set_option linter.unusedVariables false
set_option linter.unusedSimpArgs false
open Go Go.RowKit

theorem rowI_set3 (ys : List Sl) (k : Nat) (h : k < ys.length) (A3 : Option Addr) (c3 : Nat) (A4 : Option Addr) (c4 : Nat) (A5 : Option Addr) (c5 : Nat) :
    (((rowI ys).set (k * 10 + 6) (.slice A3 ys[k].n c3)).set (k * 10 + 7) (.slice A4 ys[k].gn c4)).set (k * 10 + 9) (.slice A5 ys[k].pn c5) = rowI (ys.set k ⟨ys[k].i, A3, ys[k].n, c3, A4, ys[k].gn, c4, A5, ys[k].pn, c5⟩) := by
  induction ys generalizing k with
  | nil => simp at h
  | cons b l ih =>
    cases k with
    | zero => rfl
    | succ k =>
      have hk : k < l.length := by simpa using h
      have := ih k hk
      rw [show (k + 1) * 10 + 6 = (k * 10 + 6) + 10 by omega, show (k + 1) * 10 + 7 = (k * 10 + 7) + 10 by omega, show (k + 1) * 10 + 9 = (k * 10 + 9) + 10 by omega]
      show slV b ++ (((rowI l).set (k * 10 + 6) (.slice A3 l[k].n c3)).set (k * 10 + 7) (.slice A4 l[k].gn c4)).set (k * 10 + 9) (.slice A5 l[k].pn c5) = slV b ++ rowI (l.set k ⟨l[k].i, A3, l[k].n, c3, A4, l[k].gn, c4, A5, l[k].pn, c5⟩)
      rw [this]
theorem itm_set (ys : List Sl) (k : Nat) (h : k < ys.length) (y : Sl) (hy : y.i = ys[k].i) : itm (ys.set k y) = itm ys := by
  unfold itm
  rw [List.map_set, hy]
  apply List.ext_getElem?
  intro j
  rw [List.getElem?_set]
  split
  · rename_i e; subst e
    rw [List.length_map]
    rw [if_pos h, List.getElem?_map, List.getElem?_eq_getElem h]; rfl
  · rfl
/-- Small enough to be copied. -/
structure SlB (x : Sl) : Prop where
  (bk : x.n * 28 ≤ 140737488355328) (bg : x.gn * 4 ≤ 140737488355328) (bp : x.pn * 4 ≤ 140737488355328)
/-- Items on the way: each of the caller's or of one's own. -/
structure ItsW (w0 w : World) (k : Nat) (A : Option Addr) (n c : Nat) (is : List Itm) (ys : List Sl) : Prop where
  b : Below w0.heap.size w0 w
  own : w.ownsRow w0.heap.size 54 10 (.slice A n c) n (rowI ys)
  rows : ∀ (j : Nat) (h : j < ys.length), ((k ≤ j ∧ SlR w0 ys[j]) ∨ (SlX w w0.heap.size ys[j] ∧ ys[j].i.Ok)) ∧ SlB ys[j]
  it : itm ys = is
theorem ItsW.len {w0 w : World} {k : Nat} {A : Option Addr} {n c : Nat} {is : List Itm} {ys : List Sl} (h : ItsW w0 w k A n c is ys) : ys.length = n := by
  have := h.own.1
  rw [rowI_length] at this
  omega
theorem ItsW.row {w0 w : World} {k : Nat} {A : Option Addr} {n c : Nat} {is : List Itm} {ys : List Sl} (h : ItsW w0 w k A n c is ys) {y : Sl} (hy : y ∈ ys) : SlR w y := by
  obtain ⟨j, hj, rfl⟩ := List.getElem_of_mem hy
  rcases (h.rows j hj).1 with h1 | ⟨h1, h2⟩
  · exact h1.2.below h.b
  · exact ⟨own_rowG 28 h1.oa, own_rowG 4 h1.og, own_rowG 4 h1.op, h2⟩
theorem ItsW.done {w0 w : World} {A : Option Addr} {n c : Nat} {is : List Itm} {ys : List Sl} (h : ItsW w0 w n A n c is ys) : ItsO w w0.heap.size A n c ys := by
  have key : ∀ y ∈ ys, SlX w w0.heap.size y ∧ y.i.Ok := fun y hy => by
    obtain ⟨j, hj, rfl⟩ := List.getElem_of_mem hy
    rcases (h.rows j hj).1 with h1 | h1
    · have := h.len; omega
    · exact h1
  exact ⟨h.own, fun y hy => (key y hy).1, fun y hy => (key y hy).2⟩
theorem ItsW.below {w0 w w' : World} {k : Nat} {A : Option Addr} {n c : Nat} {is : List Itm} {ys : List Sl} (h : ItsW w0 w k A n c is ys) (hb : Below w.heap.size w w') : ItsW w0 w' k A n c is ys :=
  ⟨below_next h.b hb, h.own.kept (own_below hb) (own_none _), fun j hj => ⟨(h.rows j hj).1.imp id (fun h => ⟨slx_below h.1 hb, h.2⟩), (h.rows j hj).2⟩, h.it⟩
/-- One of the items has slices of its own now. -/
theorem ItsW.set {w0 w : World} {g n c k : Nat} {is : List Itm} {ys : List Sl} (h : ItsW w0 w k (some ⟨g, 0, none⟩) n c is ys) (hk : k < ys.length) {A3 : Option Addr} {c3 : Nat} {A4 : Option Addr} {c4 : Nat} {A5 : Option Addr} {c5 : Nat}
    (h3 : w.ownsRow w0.heap.size 141 7 (.slice A3 ys[k].n c3) ys[k].n (rowK ys[k].i.bl)) (h4 : w.ownsRow w0.heap.size 24 1 (.slice A4 ys[k].gn c4) ys[k].gn (u32s ys[k].i.go)) (h5 : w.ownsRow w0.heap.size 181 2 (.slice A5 ys[k].pn c5) ys[k].pn (rowP ys[k].i.pr)) :
    ItsW w0 (((w.setCell ⟨g, k * 10 + 6, none⟩ (.slice A3 ys[k].n c3)).setCell ⟨g, k * 10 + 7, none⟩ (.slice A4 ys[k].gn c4)).setCell ⟨g, k * 10 + 9, none⟩ (.slice A5 ys[k].pn c5)) (k + 1) (some ⟨g, 0, none⟩) n c is (ys.set k ⟨ys[k].i, A3, ys[k].n, c3, A4, ys[k].gn, c4, A5, ys[k].pn, c5⟩) := by
  obtain ⟨o1, g1⟩ := h.own.stored (k * 10 + 6) (.slice A3 ys[k].n c3)
  obtain ⟨o2, g2⟩ := o1.stored (k * 10 + 7) (.slice A4 ys[k].gn c4)
  obtain ⟨o3, g3⟩ := o2.stored (k * 10 + 9) (.slice A5 ys[k].pn c5)
  have hg : w0.heap.size ≤ g := own_from h.own g rfl
  have ok := (h.row (List.getElem_mem hk)).ok
  refine ⟨((h.b.setCell (p := ⟨g, k * 10 + 6, none⟩) hg _).setCell (p := ⟨g, k * 10 + 7, none⟩) hg _).setCell (p := ⟨g, k * 10 + 9, none⟩) hg _, ?_, fun j hj => ?_, ?_⟩
  · rw [← rowI_set3 ys k hk]; exact o3
  · have hj' : j < ys.length := by simpa using hj
    by_cases e : k = j
    · subst e
      rw [List.getElem_set_self]
      exact ⟨.inr ⟨slx_over (slx_over (slx_over (x := ⟨ys[k].i, A3, ys[k].n, c3, A4, ys[k].gn, c4, A5, ys[k].pn, c5⟩) ⟨h3, h4, h5⟩ h.own g1) o1 g2) o2 g3, ok⟩, ⟨(h.rows k hk).2.bk, (h.rows k hk).2.bg, (h.rows k hk).2.bp⟩⟩
    · rw [List.getElem_set_ne e]
      exact ⟨(h.rows j hj').1.imp (fun q => ⟨by have := q.1; omega, q.2⟩) (fun q => ⟨slx_over (slx_over (slx_over q.1 h.own g1) o1 g2) o2 g3, q.2⟩), (h.rows j hj').2⟩
  · rw [← h.it]; exact itm_set ys k hk _ rfl
theorem sl_679 {w : World} {base g n c : Nat} {ys : List Sl} (h : w.ownsRow base 54 10 (.slice (some ⟨g, 0, none⟩) n c) n (rowI ys)) {k : Nat} (hk : k < ys.length) :
    w.cell? ⟨g, k * 10 + 6, none⟩ = some (.slice ys[k].A ys[k].n ys[k].c) ∧ w.cell? ⟨g, k * 10 + 7, none⟩ = some (.slice ys[k].G ys[k].gn ys[k].gc) ∧ w.cell? ⟨g, k * 10 + 9, none⟩ = some (.slice ys[k].P ys[k].pn ys[k].pc) := by
  have hl := h.1
  rw [rowI_length] at hl
  refine ⟨?_, ?_, ?_⟩ <;> (rw [h.cellAt _ (by omega), rowI_at ys k _ hk (by omega)]; rfl)
set_option maxRecDepth 20000 in
set_option maxHeartbeats 4000000 in
theorem ownI_any (A : Option Addr) (n c : Nat) (xs : List Sl) (w : World) (h : Its w A n c xs) (hA : A = none → n = 0 ∧ c = 0) (hb : n * 120 ≤ 140737488355328) (hs : ∀ x ∈ xs, SlB x) :
    Calls Try.prog 113 #[.slice A n c] w fun e w' => ∃ A' c' ys, e = .returned (.slice A' n c') ∧ Hid (ItsO w' w.heap.size A' n c' ys) ∧ Hid (itm ys = itm xs) ∧ Below w.heap.size w w' := by
  have HR : Hid (Row w A n c 10 120 (rowI xs)) := ⟨by rw [rowI_length, h.len], h.nc, h.cm, hA, h.rd⟩
  have HS := Lib.hid (And.intro h hs)
  have HN := Lib.hid hb
  clear h hs hA hb
  go_enter Try.func113, Try.ntmps113
  go_wp2_with (go_at_call 146; (with_reducible refine (cloneI_any A n c xs _ HR.out HN.out).mono ?_); rintro e w1 ⟨A1, c1, rfl, ho1, hb1⟩)
  have hW0 : ItsW w w1 0 A1 n c1 (itm xs) xs := ⟨hb1, ho1, fun j hj => ⟨.inl ⟨Nat.zero_le _, HS.out.1.rows _ (List.getElem_mem hj)⟩, HS.out.2 _ (List.getElem_mem hj)⟩, rfl⟩
  clear hb1
  have HN2 := Lib.hid (show n ≤ 140737488355328 by have := HN.out; omega)
  rcases Nat.eq_zero_or_pos n with hn0 | hn0
  · subst hn0
    clear ho1
    go_loopw [9] (fun i wr => i = .int .i64 0 ∧ ItsW w wr 0 A1 0 c1 (itm xs) xs) (fun i _ => 0)
    case atStart => exact ⟨rfl, hW0⟩
    case round =>
      obtain ⟨rfl, hW⟩ := hrel
      clear hW0
      go_wp2
      go_ret
      exact ⟨A1, c1, xs, rfl, hW.done, hW.it, hW.b⟩
  obtain ⟨g, cap, hv, _⟩ := ho1.form hn0
  obtain ⟨hv1, hv2⟩ : A1 = some ⟨g, 0, none⟩ ∧ c1 = cap := by injection hv with h1 h2 h3; exact ⟨h1, h3⟩
  subst hv1
  clear ho1 hv hv2 hn0
  go_loopw [9] (fun i wr => ∃ (k : Nat) (ys : List Sl), i = .int .i64 k ∧ k ≤ n ∧ ItsW w wr k (some ⟨g, 0, none⟩) n c1 (itm xs) ys) (fun i _ => n - (intOf i).toNat)
  case atStart => exact ⟨0, xs, rfl, Nat.zero_le _, hW0⟩
  case round =>
    obtain ⟨k, ys, rfl, hkn, hW⟩ := hrel
    clear hW0
    have hbn := HN2.out
    by_cases hlt : k < n
    · have hk : k < ys.length := by rw [hW.len]; exact hlt
      obtain ⟨ad, hadd, e0, e1, e2, e3, e4, e5, e6, e7, e8, e9⟩ := rd_sl (own_rowG 120 hW.own).rd hk
      injection hadd with hadd
      subst hadd
      have hnc := (own_cap hW.own).1
      obtain ⟨y, hy⟩ : ∃ y, y = ys[k] := ⟨_, rfl⟩
      rw [← hy] at e0 e1 e2 e3 e4 e5 e6 e7 e8 e9
      have hrow : SlR wr y ∧ SlB y := by rw [hy]; exact ⟨hW.row (List.getElem_mem hk), (hW.rows k hk).2⟩
      have HRW := Lib.hid hrow
      have HY := Lib.hid hy
      have HK := Lib.hid hk
      have HWW := Lib.hid hW
      clear hrow hy hW
      simp only [add_lit] at e0 e1 e2 e3 e4 e5 e6 e7 e8 e9
      obtain ⟨b, hbn2⟩ : ∃ b, b = wr.heap.size := ⟨_, rfl⟩
      have hv0 := heap_alloc_new wr (.cells #[.int .i64 y.i.k, .int .u32 y.i.s, .int .u64 y.i.ntp, .int .u32 y.i.tm, .int .u32 y.i.pk, .int .u32 y.i.oc, .slice y.A y.n y.c, .slice y.G y.gn y.gc, .int .u32 y.i.me, .slice y.P y.pn y.pc] 54)
      have hb2 := (Below.refl wr.heap.size wr).alloc (Nat.le_refl _) (.cells #[.int .i64 y.i.k, .int .u32 y.i.s, .int .u64 y.i.ntp, .int .u32 y.i.tm, .int .u32 y.i.pk, .int .u32 y.i.oc, .slice y.A y.n y.c, .slice y.G y.gn y.gc, .int .u32 y.i.me, .slice y.P y.pn y.pc] 54)
      go_wp2_with fail
      generalize wr.alloc (.cells #[.int .i64 y.i.k, .int .u32 y.i.s, .int .u64 y.i.ntp, .int .u32 y.i.tm, .int .u32 y.i.pk, .int .u32 y.i.oc, .slice y.A y.n y.c, .slice y.G y.gn y.gc, .int .u32 y.i.me, .slice y.P y.pn y.pc] 54) = w2 at *
      have hbd := hb2.drew
      have hvd := blk_below hv0 ((Below.refl _ w2).drew)
      clear e0 e1 e2 e3 e4 e5 e6 e7 e8 e9 hb2 hv0
      refine region_plan (calmB_sound _) (.fork [0, 1, 2, 3, 4, 5, 6, 7, 9, 12] (.fork [10] (.leaf [13, 8, 11, 14, 15, 16, 17, 18, 19, 20, 21, 22, 23]) (.fork [8] (.leaf [13, 11, 14, 15, 16, 17, 18, 19, 20, 21, 22, 23]) (.leaf [11, 13, 14, 15, 16, 17, 18, 19, 20, 21, 22, 23]))) (.fork [] (.fork [13] (.leaf [10, 8, 11, 14, 15, 16, 17, 18, 19, 20, 21, 22, 23]) (.leaf [8, 10, 11, 14, 15, 16, 17, 18, 19, 20, 21, 22, 23])) (.fork [8, 10] (.leaf [13, 11, 14, 15, 16, 17, 18, 19, 20, 21, 22, 23]) (.leaf [11, 13, 14, 15, 16, 17, 18, 19, 20, 21, 22, 23])))) (by kernel_rfl) (by kernel_rfl) (by kernel_rfl) ?_
      obtain ⟨a0, a1, a2, a3, a4, a5, a6, a7, a8, a9⟩ := ten_cells hvd
      generalize w2.drew = wd at *
      refine wpPlan_fork fun PL0 hPL0 => ?_
      simp only [List.filterMap_cons, List.filterMap_nil, List.getElem?_toArray, List.getElem?_cons_succ, List.getElem?_cons_zero]
      change wpList _ _ _ [_, _, _, _, _, _, _, _, _, _] _ _
      go_wp2_with (first | (go_at_call 147; (with_reducible refine (cloneK_any y.A y.n y.c y.i.bl wd (HRW.out.1.below hbd).ra HRW.out.2.bk).mono ?_); rintro e w3 ⟨A3, c3, rfl, ho3, hb3⟩; have hB3 := below_next hbd hb3; have hv3 := blk_below hvd hb3; obtain ⟨a0, a1, a2, a3, a4, a5, a6, a7, a8, a9⟩ := ten_cells hv3) | (go_at_call 145; (with_reducible refine (cloneU_any y.G y.gn y.gc y.i.go w3 (HRW.out.1.below hB3).rg HRW.out.2.bg).mono ?_); rintro e w4 ⟨A4, c4, rfl, ho4, hb4⟩; have hB4 := below_next hB3 hb4; have hv4 := blk_below hv3 hb4; obtain ⟨a0, a1, a2, a3, a4, a5, a6, a7, a8, a9⟩ := ten_cells hv4) | (go_at_call 148; (with_reducible refine (cloneP_any y.P y.pn y.pc y.i.pr w4 (HRW.out.1.below hB4).rp HRW.out.2.bp).mono ?_); rintro e w5 ⟨A5, c5, rfl, ho5, hb5⟩; have hB5 := below_next hB4 hb5; have HW5 := HWW.out.below (below_next (below_next hbd hb3) hb4 |> fun q => below_next q hb5); have f6 := HW5.own.frozenAt (k * 10 + 6); have f7 := HW5.own.frozenAt (k * 10 + 7); have f9 := HW5.own.frozenAt (k * 10 + 9); obtain ⟨g6, g7, g9⟩ := sl_679 HW5.own hk; rw [← HY.out] at g6 g7 g9))
      refine hPL0 _ _ ?_ ?_
      · refine wpPlan_fork fun PL1 hPL1 => ?_
        simp only [List.filterMap_cons, List.filterMap_nil, List.getElem?_toArray, List.getElem?_cons_succ, List.getElem?_cons_zero]
        change wpList _ _ _ [_] _ _
        go_wp2_with (first | (go_at_call 147; (with_reducible refine (cloneK_any y.A y.n y.c y.i.bl wd (HRW.out.1.below hbd).ra HRW.out.2.bk).mono ?_); rintro e w3 ⟨A3, c3, rfl, ho3, hb3⟩; have hB3 := below_next hbd hb3; have hv3 := blk_below hvd hb3; obtain ⟨a0, a1, a2, a3, a4, a5, a6, a7, a8, a9⟩ := ten_cells hv3) | (go_at_call 145; (with_reducible refine (cloneU_any y.G y.gn y.gc y.i.go w3 (HRW.out.1.below hB3).rg HRW.out.2.bg).mono ?_); rintro e w4 ⟨A4, c4, rfl, ho4, hb4⟩; have hB4 := below_next hB3 hb4; have hv4 := blk_below hv3 hb4; obtain ⟨a0, a1, a2, a3, a4, a5, a6, a7, a8, a9⟩ := ten_cells hv4) | (go_at_call 148; (with_reducible refine (cloneP_any y.P y.pn y.pc y.i.pr w4 (HRW.out.1.below hB4).rp HRW.out.2.bp).mono ?_); rintro e w5 ⟨A5, c5, rfl, ho5, hb5⟩; have hB5 := below_next hB4 hb5; have HW5 := HWW.out.below (below_next (below_next hbd hb3) hb4 |> fun q => below_next q hb5); have f6 := HW5.own.frozenAt (k * 10 + 6); have f7 := HW5.own.frozenAt (k * 10 + 7); have f9 := HW5.own.frozenAt (k * 10 + 9); obtain ⟨g6, g7, g9⟩ := sl_679 HW5.own hk; rw [← HY.out] at g6 g7 g9))
        refine hPL1 _ _ ?_ ?_
        · refine wpPlan_leaf fun PL2 hPL2 => ?_
          simp only [List.filterMap_cons, List.filterMap_nil, List.getElem?_toArray, List.getElem?_cons_succ, List.getElem?_cons_zero]
          change wpList _ _ _ [_, _, _, _, _, _, _, _, _, _, _, _, _] _ _
          go_wp2_with (first | (go_at_call 147; (with_reducible refine (cloneK_any y.A y.n y.c y.i.bl wd (HRW.out.1.below hbd).ra HRW.out.2.bk).mono ?_); rintro e w3 ⟨A3, c3, rfl, ho3, hb3⟩; have hB3 := below_next hbd hb3; have hv3 := blk_below hvd hb3; obtain ⟨a0, a1, a2, a3, a4, a5, a6, a7, a8, a9⟩ := ten_cells hv3) | (go_at_call 145; (with_reducible refine (cloneU_any y.G y.gn y.gc y.i.go w3 (HRW.out.1.below hB3).rg HRW.out.2.bg).mono ?_); rintro e w4 ⟨A4, c4, rfl, ho4, hb4⟩; have hB4 := below_next hB3 hb4; have hv4 := blk_below hv3 hb4; obtain ⟨a0, a1, a2, a3, a4, a5, a6, a7, a8, a9⟩ := ten_cells hv4) | (go_at_call 148; (with_reducible refine (cloneP_any y.P y.pn y.pc y.i.pr w4 (HRW.out.1.below hB4).rp HRW.out.2.bp).mono ?_); rintro e w5 ⟨A5, c5, rfl, ho5, hb5⟩; have hB5 := below_next hB4 hb5; have HW5 := HWW.out.below (below_next (below_next hbd hb3) hb4 |> fun q => below_next q hb5); have f6 := HW5.own.frozenAt (k * 10 + 6); have f7 := HW5.own.frozenAt (k * 10 + 7); have f9 := HW5.own.frozenAt (k * 10 + 9); obtain ⟨g6, g7, g9⟩ := sl_679 HW5.own hk; rw [← HY.out] at g6 g7 g9))
          have h8 := HW5.set hk (A3 := A3) (c3 := c3) (A4 := A4) (c4 := c4) (A5 := A5) (c5 := c5) (by rw [← HY.out]; exact own_mono (((ho3.kept (own_below hb4) (own_none _)).kept (own_below hb5) (own_none _))) (Nat.le_trans HWW.out.b.size hbd.size)) (by rw [← HY.out]; exact own_mono (ho4.kept (own_below hb5) (own_none _)) (Nat.le_trans HWW.out.b.size hB3.size)) (by rw [← HY.out]; exact own_mono ho5 (Nat.le_trans HWW.out.b.size hB4.size))
          rw [← HY.out] at h8
          exact ⟨⟨k + 1, _, rfl, by omega, h8⟩, by simp [intOf]; omega⟩
        · refine wpPlan_fork fun PL2 hPL2 => ?_
          simp only [List.filterMap_cons, List.filterMap_nil, List.getElem?_toArray, List.getElem?_cons_succ, List.getElem?_cons_zero]
          change wpList _ _ _ [_] _ _
          go_wp2_with (first | (go_at_call 147; (with_reducible refine (cloneK_any y.A y.n y.c y.i.bl wd (HRW.out.1.below hbd).ra HRW.out.2.bk).mono ?_); rintro e w3 ⟨A3, c3, rfl, ho3, hb3⟩; have hB3 := below_next hbd hb3; have hv3 := blk_below hvd hb3; obtain ⟨a0, a1, a2, a3, a4, a5, a6, a7, a8, a9⟩ := ten_cells hv3) | (go_at_call 145; (with_reducible refine (cloneU_any y.G y.gn y.gc y.i.go w3 (HRW.out.1.below hB3).rg HRW.out.2.bg).mono ?_); rintro e w4 ⟨A4, c4, rfl, ho4, hb4⟩; have hB4 := below_next hB3 hb4; have hv4 := blk_below hv3 hb4; obtain ⟨a0, a1, a2, a3, a4, a5, a6, a7, a8, a9⟩ := ten_cells hv4) | (go_at_call 148; (with_reducible refine (cloneP_any y.P y.pn y.pc y.i.pr w4 (HRW.out.1.below hB4).rp HRW.out.2.bp).mono ?_); rintro e w5 ⟨A5, c5, rfl, ho5, hb5⟩; have hB5 := below_next hB4 hb5; have HW5 := HWW.out.below (below_next (below_next hbd hb3) hb4 |> fun q => below_next q hb5); have f6 := HW5.own.frozenAt (k * 10 + 6); have f7 := HW5.own.frozenAt (k * 10 + 7); have f9 := HW5.own.frozenAt (k * 10 + 9); obtain ⟨g6, g7, g9⟩ := sl_679 HW5.own hk; rw [← HY.out] at g6 g7 g9))
          refine hPL2 _ _ ?_ ?_
          · refine wpPlan_leaf fun PL3 hPL3 => ?_
            simp only [List.filterMap_cons, List.filterMap_nil, List.getElem?_toArray, List.getElem?_cons_succ, List.getElem?_cons_zero]
            change wpList _ _ _ [_, _, _, _, _, _, _, _, _, _, _, _] _ _
            go_wp2_with (first | (go_at_call 147; (with_reducible refine (cloneK_any y.A y.n y.c y.i.bl wd (HRW.out.1.below hbd).ra HRW.out.2.bk).mono ?_); rintro e w3 ⟨A3, c3, rfl, ho3, hb3⟩; have hB3 := below_next hbd hb3; have hv3 := blk_below hvd hb3; obtain ⟨a0, a1, a2, a3, a4, a5, a6, a7, a8, a9⟩ := ten_cells hv3) | (go_at_call 145; (with_reducible refine (cloneU_any y.G y.gn y.gc y.i.go w3 (HRW.out.1.below hB3).rg HRW.out.2.bg).mono ?_); rintro e w4 ⟨A4, c4, rfl, ho4, hb4⟩; have hB4 := below_next hB3 hb4; have hv4 := blk_below hv3 hb4; obtain ⟨a0, a1, a2, a3, a4, a5, a6, a7, a8, a9⟩ := ten_cells hv4) | (go_at_call 148; (with_reducible refine (cloneP_any y.P y.pn y.pc y.i.pr w4 (HRW.out.1.below hB4).rp HRW.out.2.bp).mono ?_); rintro e w5 ⟨A5, c5, rfl, ho5, hb5⟩; have hB5 := below_next hB4 hb5; have HW5 := HWW.out.below (below_next (below_next hbd hb3) hb4 |> fun q => below_next q hb5); have f6 := HW5.own.frozenAt (k * 10 + 6); have f7 := HW5.own.frozenAt (k * 10 + 7); have f9 := HW5.own.frozenAt (k * 10 + 9); obtain ⟨g6, g7, g9⟩ := sl_679 HW5.own hk; rw [← HY.out] at g6 g7 g9))
            have h8 := HW5.set hk (A3 := A3) (c3 := c3) (A4 := A4) (c4 := c4) (A5 := A5) (c5 := c5) (by rw [← HY.out]; exact own_mono (((ho3.kept (own_below hb4) (own_none _)).kept (own_below hb5) (own_none _))) (Nat.le_trans HWW.out.b.size hbd.size)) (by rw [← HY.out]; exact own_mono (ho4.kept (own_below hb5) (own_none _)) (Nat.le_trans HWW.out.b.size hB3.size)) (by rw [← HY.out]; exact own_mono ho5 (Nat.le_trans HWW.out.b.size hB4.size))
            rw [← HY.out] at h8
            exact ⟨⟨k + 1, _, rfl, by omega, h8⟩, by simp [intOf]; omega⟩
          · refine wpPlan_leaf fun PL3 hPL3 => ?_
            simp only [List.filterMap_cons, List.filterMap_nil, List.getElem?_toArray, List.getElem?_cons_succ, List.getElem?_cons_zero]
            change wpList _ _ _ [_, _, _, _, _, _, _, _, _, _, _, _] _ _
            go_wp2_with (first | (go_at_call 147; (with_reducible refine (cloneK_any y.A y.n y.c y.i.bl wd (HRW.out.1.below hbd).ra HRW.out.2.bk).mono ?_); rintro e w3 ⟨A3, c3, rfl, ho3, hb3⟩; have hB3 := below_next hbd hb3; have hv3 := blk_below hvd hb3; obtain ⟨a0, a1, a2, a3, a4, a5, a6, a7, a8, a9⟩ := ten_cells hv3) | (go_at_call 145; (with_reducible refine (cloneU_any y.G y.gn y.gc y.i.go w3 (HRW.out.1.below hB3).rg HRW.out.2.bg).mono ?_); rintro e w4 ⟨A4, c4, rfl, ho4, hb4⟩; have hB4 := below_next hB3 hb4; have hv4 := blk_below hv3 hb4; obtain ⟨a0, a1, a2, a3, a4, a5, a6, a7, a8, a9⟩ := ten_cells hv4) | (go_at_call 148; (with_reducible refine (cloneP_any y.P y.pn y.pc y.i.pr w4 (HRW.out.1.below hB4).rp HRW.out.2.bp).mono ?_); rintro e w5 ⟨A5, c5, rfl, ho5, hb5⟩; have hB5 := below_next hB4 hb5; have HW5 := HWW.out.below (below_next (below_next hbd hb3) hb4 |> fun q => below_next q hb5); have f6 := HW5.own.frozenAt (k * 10 + 6); have f7 := HW5.own.frozenAt (k * 10 + 7); have f9 := HW5.own.frozenAt (k * 10 + 9); obtain ⟨g6, g7, g9⟩ := sl_679 HW5.own hk; rw [← HY.out] at g6 g7 g9))
            have h8 := HW5.set hk (A3 := A3) (c3 := c3) (A4 := A4) (c4 := c4) (A5 := A5) (c5 := c5) (by rw [← HY.out]; exact own_mono (((ho3.kept (own_below hb4) (own_none _)).kept (own_below hb5) (own_none _))) (Nat.le_trans HWW.out.b.size hbd.size)) (by rw [← HY.out]; exact own_mono (ho4.kept (own_below hb5) (own_none _)) (Nat.le_trans HWW.out.b.size hB3.size)) (by rw [← HY.out]; exact own_mono ho5 (Nat.le_trans HWW.out.b.size hB4.size))
            rw [← HY.out] at h8
            exact ⟨⟨k + 1, _, rfl, by omega, h8⟩, by simp [intOf]; omega⟩
      · refine wpPlan_fork fun PL1 hPL1 => ?_
        simp only [List.filterMap_cons, List.filterMap_nil, List.getElem?_toArray, List.getElem?_cons_succ, List.getElem?_cons_zero]
        go_wp2_with (first | (go_at_call 147; (with_reducible refine (cloneK_any y.A y.n y.c y.i.bl wd (HRW.out.1.below hbd).ra HRW.out.2.bk).mono ?_); rintro e w3 ⟨A3, c3, rfl, ho3, hb3⟩; have hB3 := below_next hbd hb3; have hv3 := blk_below hvd hb3; obtain ⟨a0, a1, a2, a3, a4, a5, a6, a7, a8, a9⟩ := ten_cells hv3) | (go_at_call 145; (with_reducible refine (cloneU_any y.G y.gn y.gc y.i.go w3 (HRW.out.1.below hB3).rg HRW.out.2.bg).mono ?_); rintro e w4 ⟨A4, c4, rfl, ho4, hb4⟩; have hB4 := below_next hB3 hb4; have hv4 := blk_below hv3 hb4; obtain ⟨a0, a1, a2, a3, a4, a5, a6, a7, a8, a9⟩ := ten_cells hv4) | (go_at_call 148; (with_reducible refine (cloneP_any y.P y.pn y.pc y.i.pr w4 (HRW.out.1.below hB4).rp HRW.out.2.bp).mono ?_); rintro e w5 ⟨A5, c5, rfl, ho5, hb5⟩; have hB5 := below_next hB4 hb5; have HW5 := HWW.out.below (below_next (below_next hbd hb3) hb4 |> fun q => below_next q hb5); have f6 := HW5.own.frozenAt (k * 10 + 6); have f7 := HW5.own.frozenAt (k * 10 + 7); have f9 := HW5.own.frozenAt (k * 10 + 9); obtain ⟨g6, g7, g9⟩ := sl_679 HW5.own hk; rw [← HY.out] at g6 g7 g9))
        refine hPL1 _ _ ?_ ?_
        · refine wpPlan_fork fun PL2 hPL2 => ?_
          simp only [List.filterMap_cons, List.filterMap_nil, List.getElem?_toArray, List.getElem?_cons_succ, List.getElem?_cons_zero]
          change wpList _ _ _ [_] _ _
          go_wp2_with (first | (go_at_call 147; (with_reducible refine (cloneK_any y.A y.n y.c y.i.bl wd (HRW.out.1.below hbd).ra HRW.out.2.bk).mono ?_); rintro e w3 ⟨A3, c3, rfl, ho3, hb3⟩; have hB3 := below_next hbd hb3; have hv3 := blk_below hvd hb3; obtain ⟨a0, a1, a2, a3, a4, a5, a6, a7, a8, a9⟩ := ten_cells hv3) | (go_at_call 145; (with_reducible refine (cloneU_any y.G y.gn y.gc y.i.go w3 (HRW.out.1.below hB3).rg HRW.out.2.bg).mono ?_); rintro e w4 ⟨A4, c4, rfl, ho4, hb4⟩; have hB4 := below_next hB3 hb4; have hv4 := blk_below hv3 hb4; obtain ⟨a0, a1, a2, a3, a4, a5, a6, a7, a8, a9⟩ := ten_cells hv4) | (go_at_call 148; (with_reducible refine (cloneP_any y.P y.pn y.pc y.i.pr w4 (HRW.out.1.below hB4).rp HRW.out.2.bp).mono ?_); rintro e w5 ⟨A5, c5, rfl, ho5, hb5⟩; have hB5 := below_next hB4 hb5; have HW5 := HWW.out.below (below_next (below_next hbd hb3) hb4 |> fun q => below_next q hb5); have f6 := HW5.own.frozenAt (k * 10 + 6); have f7 := HW5.own.frozenAt (k * 10 + 7); have f9 := HW5.own.frozenAt (k * 10 + 9); obtain ⟨g6, g7, g9⟩ := sl_679 HW5.own hk; rw [← HY.out] at g6 g7 g9))
          refine hPL2 _ _ ?_ ?_
          · refine wpPlan_leaf fun PL3 hPL3 => ?_
            simp only [List.filterMap_cons, List.filterMap_nil, List.getElem?_toArray, List.getElem?_cons_succ, List.getElem?_cons_zero]
            change wpList _ _ _ [_, _, _, _, _, _, _, _, _, _, _, _, _] _ _
            go_wp2_with (first | (go_at_call 147; (with_reducible refine (cloneK_any y.A y.n y.c y.i.bl wd (HRW.out.1.below hbd).ra HRW.out.2.bk).mono ?_); rintro e w3 ⟨A3, c3, rfl, ho3, hb3⟩; have hB3 := below_next hbd hb3; have hv3 := blk_below hvd hb3; obtain ⟨a0, a1, a2, a3, a4, a5, a6, a7, a8, a9⟩ := ten_cells hv3) | (go_at_call 145; (with_reducible refine (cloneU_any y.G y.gn y.gc y.i.go w3 (HRW.out.1.below hB3).rg HRW.out.2.bg).mono ?_); rintro e w4 ⟨A4, c4, rfl, ho4, hb4⟩; have hB4 := below_next hB3 hb4; have hv4 := blk_below hv3 hb4; obtain ⟨a0, a1, a2, a3, a4, a5, a6, a7, a8, a9⟩ := ten_cells hv4) | (go_at_call 148; (with_reducible refine (cloneP_any y.P y.pn y.pc y.i.pr w4 (HRW.out.1.below hB4).rp HRW.out.2.bp).mono ?_); rintro e w5 ⟨A5, c5, rfl, ho5, hb5⟩; have hB5 := below_next hB4 hb5; have HW5 := HWW.out.below (below_next (below_next hbd hb3) hb4 |> fun q => below_next q hb5); have f6 := HW5.own.frozenAt (k * 10 + 6); have f7 := HW5.own.frozenAt (k * 10 + 7); have f9 := HW5.own.frozenAt (k * 10 + 9); obtain ⟨g6, g7, g9⟩ := sl_679 HW5.own hk; rw [← HY.out] at g6 g7 g9))
            have h8 := HW5.set hk (A3 := A3) (c3 := c3) (A4 := A4) (c4 := c4) (A5 := A5) (c5 := c5) (by rw [← HY.out]; exact own_mono (((ho3.kept (own_below hb4) (own_none _)).kept (own_below hb5) (own_none _))) (Nat.le_trans HWW.out.b.size hbd.size)) (by rw [← HY.out]; exact own_mono (ho4.kept (own_below hb5) (own_none _)) (Nat.le_trans HWW.out.b.size hB3.size)) (by rw [← HY.out]; exact own_mono ho5 (Nat.le_trans HWW.out.b.size hB4.size))
            rw [← HY.out] at h8
            exact ⟨⟨k + 1, _, rfl, by omega, h8⟩, by simp [intOf]; omega⟩
          · refine wpPlan_leaf fun PL3 hPL3 => ?_
            simp only [List.filterMap_cons, List.filterMap_nil, List.getElem?_toArray, List.getElem?_cons_succ, List.getElem?_cons_zero]
            change wpList _ _ _ [_, _, _, _, _, _, _, _, _, _, _, _, _] _ _
            go_wp2_with (first | (go_at_call 147; (with_reducible refine (cloneK_any y.A y.n y.c y.i.bl wd (HRW.out.1.below hbd).ra HRW.out.2.bk).mono ?_); rintro e w3 ⟨A3, c3, rfl, ho3, hb3⟩; have hB3 := below_next hbd hb3; have hv3 := blk_below hvd hb3; obtain ⟨a0, a1, a2, a3, a4, a5, a6, a7, a8, a9⟩ := ten_cells hv3) | (go_at_call 145; (with_reducible refine (cloneU_any y.G y.gn y.gc y.i.go w3 (HRW.out.1.below hB3).rg HRW.out.2.bg).mono ?_); rintro e w4 ⟨A4, c4, rfl, ho4, hb4⟩; have hB4 := below_next hB3 hb4; have hv4 := blk_below hv3 hb4; obtain ⟨a0, a1, a2, a3, a4, a5, a6, a7, a8, a9⟩ := ten_cells hv4) | (go_at_call 148; (with_reducible refine (cloneP_any y.P y.pn y.pc y.i.pr w4 (HRW.out.1.below hB4).rp HRW.out.2.bp).mono ?_); rintro e w5 ⟨A5, c5, rfl, ho5, hb5⟩; have hB5 := below_next hB4 hb5; have HW5 := HWW.out.below (below_next (below_next hbd hb3) hb4 |> fun q => below_next q hb5); have f6 := HW5.own.frozenAt (k * 10 + 6); have f7 := HW5.own.frozenAt (k * 10 + 7); have f9 := HW5.own.frozenAt (k * 10 + 9); obtain ⟨g6, g7, g9⟩ := sl_679 HW5.own hk; rw [← HY.out] at g6 g7 g9))
            have h8 := HW5.set hk (A3 := A3) (c3 := c3) (A4 := A4) (c4 := c4) (A5 := A5) (c5 := c5) (by rw [← HY.out]; exact own_mono (((ho3.kept (own_below hb4) (own_none _)).kept (own_below hb5) (own_none _))) (Nat.le_trans HWW.out.b.size hbd.size)) (by rw [← HY.out]; exact own_mono (ho4.kept (own_below hb5) (own_none _)) (Nat.le_trans HWW.out.b.size hB3.size)) (by rw [← HY.out]; exact own_mono ho5 (Nat.le_trans HWW.out.b.size hB4.size))
            rw [← HY.out] at h8
            exact ⟨⟨k + 1, _, rfl, by omega, h8⟩, by simp [intOf]; omega⟩
        · refine wpPlan_fork fun PL2 hPL2 => ?_
          simp only [List.filterMap_cons, List.filterMap_nil, List.getElem?_toArray, List.getElem?_cons_succ, List.getElem?_cons_zero]
          change wpList _ _ _ [_, _] _ _
          go_wp2_with (first | (go_at_call 147; (with_reducible refine (cloneK_any y.A y.n y.c y.i.bl wd (HRW.out.1.below hbd).ra HRW.out.2.bk).mono ?_); rintro e w3 ⟨A3, c3, rfl, ho3, hb3⟩; have hB3 := below_next hbd hb3; have hv3 := blk_below hvd hb3; obtain ⟨a0, a1, a2, a3, a4, a5, a6, a7, a8, a9⟩ := ten_cells hv3) | (go_at_call 145; (with_reducible refine (cloneU_any y.G y.gn y.gc y.i.go w3 (HRW.out.1.below hB3).rg HRW.out.2.bg).mono ?_); rintro e w4 ⟨A4, c4, rfl, ho4, hb4⟩; have hB4 := below_next hB3 hb4; have hv4 := blk_below hv3 hb4; obtain ⟨a0, a1, a2, a3, a4, a5, a6, a7, a8, a9⟩ := ten_cells hv4) | (go_at_call 148; (with_reducible refine (cloneP_any y.P y.pn y.pc y.i.pr w4 (HRW.out.1.below hB4).rp HRW.out.2.bp).mono ?_); rintro e w5 ⟨A5, c5, rfl, ho5, hb5⟩; have hB5 := below_next hB4 hb5; have HW5 := HWW.out.below (below_next (below_next hbd hb3) hb4 |> fun q => below_next q hb5); have f6 := HW5.own.frozenAt (k * 10 + 6); have f7 := HW5.own.frozenAt (k * 10 + 7); have f9 := HW5.own.frozenAt (k * 10 + 9); obtain ⟨g6, g7, g9⟩ := sl_679 HW5.own hk; rw [← HY.out] at g6 g7 g9))
          refine hPL2 _ _ ?_ ?_
          · refine wpPlan_leaf fun PL3 hPL3 => ?_
            simp only [List.filterMap_cons, List.filterMap_nil, List.getElem?_toArray, List.getElem?_cons_succ, List.getElem?_cons_zero]
            change wpList _ _ _ [_, _, _, _, _, _, _, _, _, _, _, _] _ _
            go_wp2_with (first | (go_at_call 147; (with_reducible refine (cloneK_any y.A y.n y.c y.i.bl wd (HRW.out.1.below hbd).ra HRW.out.2.bk).mono ?_); rintro e w3 ⟨A3, c3, rfl, ho3, hb3⟩; have hB3 := below_next hbd hb3; have hv3 := blk_below hvd hb3; obtain ⟨a0, a1, a2, a3, a4, a5, a6, a7, a8, a9⟩ := ten_cells hv3) | (go_at_call 145; (with_reducible refine (cloneU_any y.G y.gn y.gc y.i.go w3 (HRW.out.1.below hB3).rg HRW.out.2.bg).mono ?_); rintro e w4 ⟨A4, c4, rfl, ho4, hb4⟩; have hB4 := below_next hB3 hb4; have hv4 := blk_below hv3 hb4; obtain ⟨a0, a1, a2, a3, a4, a5, a6, a7, a8, a9⟩ := ten_cells hv4) | (go_at_call 148; (with_reducible refine (cloneP_any y.P y.pn y.pc y.i.pr w4 (HRW.out.1.below hB4).rp HRW.out.2.bp).mono ?_); rintro e w5 ⟨A5, c5, rfl, ho5, hb5⟩; have hB5 := below_next hB4 hb5; have HW5 := HWW.out.below (below_next (below_next hbd hb3) hb4 |> fun q => below_next q hb5); have f6 := HW5.own.frozenAt (k * 10 + 6); have f7 := HW5.own.frozenAt (k * 10 + 7); have f9 := HW5.own.frozenAt (k * 10 + 9); obtain ⟨g6, g7, g9⟩ := sl_679 HW5.own hk; rw [← HY.out] at g6 g7 g9))
            have h8 := HW5.set hk (A3 := A3) (c3 := c3) (A4 := A4) (c4 := c4) (A5 := A5) (c5 := c5) (by rw [← HY.out]; exact own_mono (((ho3.kept (own_below hb4) (own_none _)).kept (own_below hb5) (own_none _))) (Nat.le_trans HWW.out.b.size hbd.size)) (by rw [← HY.out]; exact own_mono (ho4.kept (own_below hb5) (own_none _)) (Nat.le_trans HWW.out.b.size hB3.size)) (by rw [← HY.out]; exact own_mono ho5 (Nat.le_trans HWW.out.b.size hB4.size))
            rw [← HY.out] at h8
            exact ⟨⟨k + 1, _, rfl, by omega, h8⟩, by simp [intOf]; omega⟩
          · refine wpPlan_leaf fun PL3 hPL3 => ?_
            simp only [List.filterMap_cons, List.filterMap_nil, List.getElem?_toArray, List.getElem?_cons_succ, List.getElem?_cons_zero]
            change wpList _ _ _ [_, _, _, _, _, _, _, _, _, _, _, _] _ _
            go_wp2_with (first | (go_at_call 147; (with_reducible refine (cloneK_any y.A y.n y.c y.i.bl wd (HRW.out.1.below hbd).ra HRW.out.2.bk).mono ?_); rintro e w3 ⟨A3, c3, rfl, ho3, hb3⟩; have hB3 := below_next hbd hb3; have hv3 := blk_below hvd hb3; obtain ⟨a0, a1, a2, a3, a4, a5, a6, a7, a8, a9⟩ := ten_cells hv3) | (go_at_call 145; (with_reducible refine (cloneU_any y.G y.gn y.gc y.i.go w3 (HRW.out.1.below hB3).rg HRW.out.2.bg).mono ?_); rintro e w4 ⟨A4, c4, rfl, ho4, hb4⟩; have hB4 := below_next hB3 hb4; have hv4 := blk_below hv3 hb4; obtain ⟨a0, a1, a2, a3, a4, a5, a6, a7, a8, a9⟩ := ten_cells hv4) | (go_at_call 148; (with_reducible refine (cloneP_any y.P y.pn y.pc y.i.pr w4 (HRW.out.1.below hB4).rp HRW.out.2.bp).mono ?_); rintro e w5 ⟨A5, c5, rfl, ho5, hb5⟩; have hB5 := below_next hB4 hb5; have HW5 := HWW.out.below (below_next (below_next hbd hb3) hb4 |> fun q => below_next q hb5); have f6 := HW5.own.frozenAt (k * 10 + 6); have f7 := HW5.own.frozenAt (k * 10 + 7); have f9 := HW5.own.frozenAt (k * 10 + 9); obtain ⟨g6, g7, g9⟩ := sl_679 HW5.own hk; rw [← HY.out] at g6 g7 g9))
            have h8 := HW5.set hk (A3 := A3) (c3 := c3) (A4 := A4) (c4 := c4) (A5 := A5) (c5 := c5) (by rw [← HY.out]; exact own_mono (((ho3.kept (own_below hb4) (own_none _)).kept (own_below hb5) (own_none _))) (Nat.le_trans HWW.out.b.size hbd.size)) (by rw [← HY.out]; exact own_mono (ho4.kept (own_below hb5) (own_none _)) (Nat.le_trans HWW.out.b.size hB3.size)) (by rw [← HY.out]; exact own_mono ho5 (Nat.le_trans HWW.out.b.size hB4.size))
            rw [← HY.out] at h8
            exact ⟨⟨k + 1, _, rfl, by omega, h8⟩, by simp [intOf]; omega⟩
    · obtain rfl : k = n := by omega
      clear hlt
      go_wp2
      go_ret
      exact ⟨some ⟨g, 0, none⟩, c1, ys, rfl, hW.done, hW.it, hW.b⟩
end Go.Proofs.Ytknlkmencdlpcaa
