/-
Two lists of what was sent, two lists of handles: alike. What is there for BatchPlays.
-/
import Derived.Test.YtknlkmencdlpcaaBt5
namespace Go.Proofs.Ytknlkmencdlpcaa
set_option linter.unusedVariables false
set_option linter.unusedSimpArgs false
open Go Go.RowKit

theorem bare_get {ys ys' : List Snt} (h : ys.map Snt.bare = ys'.map Snt.bare) {k : Nat} (hk : k < ys.length) (hk' : k < ys'.length) : ys[k].k = ys'[k].k ∧ ys[k].p = ys'[k].p ∧ ys[k].s = ys'[k].s ∧ ys[k].z.l = ys'[k].z.l := by
  have := congrArg (fun t => t[k]?) h
  simp only [List.getElem?_map, List.getElem?_eq_getElem hk, List.getElem?_eq_getElem hk', Option.map_some, Option.some.injEq] at this
  simp only [Snt.bare, Snt.mk.injEq, Bz.mk.injEq, true_and] at this
  exact this
set_option maxRecDepth 20000 in
set_option maxHeartbeats 2000000 in
theorem sameSent_any (X : Option Addr) (m d : Nat) (ys : List Snt) (X' : Option Addr) (m' d' : Nat) (ys' : List Snt) (w : World) (B B' : Nat) (ho : w.ownsRow B 97 4 (.slice X m d) m (rowG snV ys)) (ho' : w.ownsRow B' 97 4 (.slice X' m' d') m' (rowG snV ys'))
    (h : ys.map Snt.bare = ys'.map Snt.bare) (hz : ∀ y ∈ ys, y.z.ok w) (hz' : ∀ y ∈ ys', y.z.ok w) (hm : m ≤ 1000) :
    Calls Try.prog 59 #[.slice X m d, .slice X' m' d'] w fun e w' => e = .returned (.bool true) ∧ Below w.heap.size w w' := by
  have hl := rowG_len snV_length ho (by omega)
  have hl' := rowG_len snV_length ho' (by omega)
  have hll : ys.length = ys'.length := by have := congrArg List.length h; simpa using this
  obtain rfl : m = m' := by omega
  have hmd := own_cap' ho
  have hmd' := own_cap' ho'
  have HL := Lib.hid (And.intro hl hl')
  have HO := Lib.hid (And.intro ho ho')
  have HE := Lib.hid h
  have HZ := Lib.hid (And.intro hz hz')
  have hmm : ((m : Int) != (m : Int)) = false := by simp
  clear hl hl' hll ho ho' h hz hz'
  go_enter Try.func59, Try.ntmps59
  go_wp2
  go_loopw [13] (fun i wr => ∃ k : Nat, i = .int .i64 k ∧ k ≤ m ∧ Below w.heap.size w wr) (fun i _ => m - (intOf i).toNat)
  case atStart => exact ⟨0, rfl, Nat.zero_le _, Below.refl _ _⟩
  case round =>
    obtain ⟨k, rfl, hkn, hbr⟩ := hrel
    by_cases hlt : k < m
    · have hbd := hbr.drew
      go_wp2_with fail
      refine region_plan (calmB_sound _) (.leaf [0, 1, 2, 3, 4, 5, 6, 7, 8, 9, 10, 11, 12, 13, 14, 15, 16, 17, 18, 19, 20, 21, 22, 23, 24, 25, 26, 27, 28, 29, 30, 31, 32, 33, 34, 35, 36, 37, 38, 39, 40, 41, 42, 43, 44, 45, 46, 47, 48, 49, 50, 51]) (by kernel_rfl) (by kernel_rfl) (by kernel_rfl) ?_
      have hk : k < ys.length := by have := HL.out.1; omega
      have hk' : k < ys'.length := by have := HL.out.2; omega
      obtain ⟨g1, rfl, _, _, hc1⟩ := rowG_cells snV_length (HO.out.1.kept (own_below hbd) (own_none _)) (by omega) hk
      obtain ⟨g2, rfl, _, _, hc2⟩ := rowG_cells snV_length (HO.out.2.kept (own_below hbd) (own_none _)) (by omega) hk'
      obtain ⟨e0, e1, e2, e3⟩ := bare_get HE.out hk hk'
      have a0 := hc1 0 _ rfl
      have a1 := hc1 1 _ rfl
      have a2 := hc1 2 _ rfl
      have a3 := hc1 3 _ rfl
      have b0 := hc2 0 _ rfl
      have b1 := hc2 1 _ rfl
      have b2 := hc2 2 _ rfl
      have b3 := hc2 3 _ rfl
      rw [← e0] at b0
      rw [← e1] at b1
      rw [← e2] at b2
      have cv1 := cv_rd (c := ys[k].z.c) ((HZ.out.1 _ (List.getElem_mem hk)).bt.len) ((HZ.out.1 _ (List.getElem_mem hk)).below hbd).bt.rd
      have cv2 := cv_rd (c := ys'[k].z.c) ((HZ.out.2 _ (List.getElem_mem hk')).bt.len) ((HZ.out.2 _ (List.getElem_mem hk')).below hbd).bt.rd
      rw [← e3] at cv2
      simp only [Nat.add_zero] at a0 b0
      clear hc1 hc2 e0 e1 e2 e3
      generalize wr.drew = w7 at *
      refine wpPlan_leaf fun PL0 hPL0 => ?_
      simp only [List.filterMap_cons, List.filterMap_nil, List.getElem?_toArray, List.getElem?_cons_succ, List.getElem?_cons_zero]
      change wpList _ _ _ [_, _, _, _, _, _, _, _, _, _, _, _, _, _, _, _, _, _, _, _, _, _, _, _, _, _, _, _, _, _, _, _, _, _, _, _, _, _, _, _, _, _, _, _, _, _, _, _, _, _, _, _] _ _
      go_wp2_with (fail)
      exact ⟨⟨k + 1, rfl, by omega, hbd⟩, by simp [intOf]; omega⟩
    · go_wp2
      go_ret
      exact ⟨rfl, hbr⟩
set_option maxRecDepth 20000 in
set_option maxHeartbeats 2000000 in
theorem sameHandles_any (X : Option Addr) (m d : Nat) (X' : Option Addr) (m' d' : Nat) (hs : List (Int × Int)) (w : World) (B B' : Nat) (ho : w.ownsRow B 69 2 (.slice X m d) m (rowG hdV hs)) (ho' : w.ownsRow B' 69 2 (.slice X' m' d') m' (rowG hdV hs)) (hm : m ≤ 1000) :
    Calls Try.prog 64 #[.slice X m d, .slice X' m' d'] w fun e w' => e = .returned (.bool true) ∧ Below w.heap.size w w' := by
  have hl := rowG_len hdV_length ho (by omega)
  have hl' := rowG_len hdV_length ho' (by omega)
  obtain rfl : m = m' := by omega
  have hmd := own_cap' ho
  have hmd' := own_cap' ho'
  have HL := Lib.hid hl
  have HO := Lib.hid (And.intro ho ho')
  clear hl hl' ho ho'
  go_enter Try.func64, Try.ntmps64
  go_wp2
  go_loopw [13] (fun i wr => ∃ k : Nat, i = .int .i64 k ∧ k ≤ m ∧ Below w.heap.size w wr) (fun i _ => m - (intOf i).toNat)
  case atStart => exact ⟨0, rfl, Nat.zero_le _, Below.refl _ _⟩
  case round =>
    obtain ⟨k, rfl, hkn, hbr⟩ := hrel
    by_cases hlt : k < m
    · have hk : k < hs.length := by have := HL.out; omega
      obtain ⟨g1, rfl, _, _, hc1⟩ := rowG_cells hdV_length (HO.out.1.kept (own_below hbr) (own_none _)) (by omega) hk
      obtain ⟨g2, rfl, _, _, hc2⟩ := rowG_cells hdV_length (HO.out.2.kept (own_below hbr) (own_none _)) (by omega) hk
      have a0 : ∀ j, (wr.drewN j).cell? ⟨g1, k * 2, none⟩ = some (.int .i64 hs[k].1) := fun j => hc1 0 _ rfl
      have a1 : ∀ j, (wr.drewN j).cell? ⟨g1, k * 2 + 1, none⟩ = some (.int .u32 hs[k].2) := fun j => hc1 1 _ rfl
      have b0 : ∀ j, (wr.drewN j).cell? ⟨g2, k * 2, none⟩ = some (.int .i64 hs[k].1) := fun j => hc2 0 _ rfl
      have b1 : ∀ j, (wr.drewN j).cell? ⟨g2, k * 2 + 1, none⟩ = some (.int .u32 hs[k].2) := fun j => hc2 1 _ rfl
      clear hc1 hc2
      go_wp2
      go_quiet (fail)
      go_wp2
      exact ⟨⟨k + 1, rfl, by omega, below_drewN hbr _⟩, by simp [intOf]; omega⟩
    · go_wp2
      go_ret
      exact ⟨rfl, hbr⟩
section
variable {w0 w w' : World} {B pb P : Nat} {N : Int} {ws : List Wr} {l : List Rsc}
theorem BatH.rto {F F' : Nat → Prop} {R n : Nat} {S S' : List Slo} {L L' : Nat → List UInt8} (h : BatH w0 w B pb P N ws l) (i : Nat) (hi : l[i]? = some (rRto B F R n S L)) (hs : Rto w' B F' R n S' L') (hG : Grw F F' w.heap.size) (hw : Wen w w' F) : BatH w0 w' B pb P N ws (l.set i (rRto B F' R n S' L')) := by
  obtain ⟨A, m, c, xs, F0, Z, hk, h1⟩ := h
  exact ⟨A, m, c, xs, F0, Z, hk.rto (i + 3) hi hs hG hw, h1⟩
theorem BatH.var {b : Nat} {o o' : Obj} (h : BatH w0 w B pb P N ws l) (i : Nat) (hi : l[i]? = some (rVar b o)) (hg : w.grownBy w' (some b)) (hb : w'.heap[b]? = some o') : BatH w0 w' B pb P N ws (l.set i (rVar b o')) := by
  obtain ⟨A, m, c, xs, F0, Z, hk, h1⟩ := h
  exact ⟨A, m, c, xs, F0, Z, hk.var (i + 3) hi hg hb, h1⟩
theorem BatH.app {e : TypeId} {size : Nat} {A A' : Option Addr} {n c n' c' : Nat} {xs xs' : List Value} (h : BatH w0 w B pb P N ws l) (i : Nat) (hi : l[i]? = some (rRow B e size A n c xs)) (ho : w'.ownsRow B e size (.slice A' n' c') n' xs') (hg : w.grownBy w' (A.map Addr.block)) (hA : A' = A ∨ A' = some ⟨w.heap.size, 0, none⟩) : BatH w0 w' B pb P N ws (l.set i (rRow B e size A' n' c' xs')) := by
  obtain ⟨A0, m0, c0, xs0, F0, Z, hk, h1⟩ := h
  exact ⟨A0, m0, c0, xs0, F0, Z, hk.app (i + 3) hi ho hg hA, h1⟩
theorem BatH.into {F : Nat → Prop} {Z : List Bz} {B' : Nat} {A : Option Addr} {n c : Nat} {bl : List UInt8} (h : BatH w0 w B pb P N ws (rRow B' 5 1 A n c (bys bl) :: l)) (i : Nat) (hi : l[i]? = some (rPool F Z)) (hn : n ≤ 140737488351232) :
    BatH w0 w B pb P N ws (l.set i (rPool (fun k => F k ∨ A.map Addr.block = some k) (⟨A, n, c, bl⟩ :: Z))) := by
  obtain ⟨A0, m0, c0, xs0, F0, Z0, hk, h1⟩ := h
  exact ⟨A0, m0, c0, xs0, F0, Z0, (hk.up 3 rfl).into (i + 3) hi hn, h1⟩
/-- To the front of what else is held. -/
theorem bat_front {A : Option Addr} {m c : Nat} {xs : List Wr} {F : Nat → Prop} {Z : List Bz} {r : Rsc} (h : Hold w0 w B (r :: rVar pb (btO P N A m c) :: rRow B 92 10 A m c (rowG wrV xs) :: rPool F Z :: l)) :
    Hold w0 w B (rVar pb (btO P N A m c) :: rRow B 92 10 A m c (rowG wrV xs) :: rPool F Z :: r :: l) := ((h.up 3 rfl).up 3 rfl).up 3 rfl
theorem BatH.up {r : Rsc} (h : BatH w0 w B pb P N ws l) (i : Nat) (hi : l[i]? = some r) : BatH w0 w B pb P N ws (r :: l.eraseIdx i) := by
  obtain ⟨A, m, c, xs, F0, Z, hk, h1⟩ := h
  exact ⟨A, m, c, xs, F0, Z, bat_front (hk.up (i + 3) hi), h1⟩
theorem BatH.del {r : Rsc} (h : BatH w0 w B pb P N ws l) (i : Nat) (hi : l[i]? = some r) : BatH w0 w B pb P N ws (l.eraseIdx i) := by
  obtain ⟨A, m, c, xs, F0, Z, hk, h1⟩ := h
  exact ⟨A, m, c, xs, F0, Z, hk.del (i + 3) hi, h1⟩
theorem BatH.vnew0 (h : BatH w0 w B pb P N ws l) (cs : Array Value) (t : TypeId) : BatH w0 (w.alloc (.cells cs t)) B pb P N ws (rVar w.heap.size (.cells cs t (0, 0)) :: l) := by
  obtain ⟨A, m, c, xs, F0, Z, hk, h1⟩ := h
  exact ⟨A, m, c, xs, F0, Z, bat_front (hk.vnew0 cs t), h1⟩
theorem BatH.rnew (h : BatH w0 w B pb P N ws l) {e : TypeId} {size : Nat} {A : Option Addr} {n c : Nat} {xs : List Value} (ho : w'.ownsRow w.heap.size e size (.slice A n c) n xs) (hb : Below w.heap.size w w') : BatH w0 w' B pb P N ws (rRow B e size A n c xs :: l) := by
  obtain ⟨A0, m, c0, xs0, F0, Z, hk, h1⟩ := h
  exact ⟨A0, m, c0, xs0, F0, Z, bat_front (hk.rnew ho hb), h1⟩
theorem BatH.rnil (h : BatH w0 w B pb P N ws l) (e : TypeId) (size : Nat) : BatH w0 w B pb P N ws (rRow B e size none 0 0 [] :: l) := by
  obtain ⟨A0, m, c0, xs0, F0, Z, hk, h1⟩ := h
  exact ⟨A0, m, c0, xs0, F0, Z, bat_front (hk.rnil e size), h1⟩
theorem BatH.pnil (h : BatH w0 w B pb P N ws l) : BatH w0 w B pb P N ws (rPool (fun _ => False) [] :: l) := by
  obtain ⟨A0, m, c0, xs0, F0, Z, hk, h1⟩ := h
  exact ⟨A0, m, c0, xs0, F0, Z, bat_front hk.pnil, h1⟩
theorem BatH.hs (h : BatH w0 w B pb P N ws l) : B ≤ w.heap.size := by
  obtain ⟨A0, m, c0, xs0, F0, Z, hk, h1⟩ := h
  exact hk.hs
theorem BatH.alloc (h : BatH w0 w B pb P N ws l) (o : Obj) : BatH w0 (w.alloc o) B pb P N ws l := h.below ((Below.refl _ _).alloc (Nat.le_refl _) o)
theorem BatH.drew (h : BatH w0 w B pb P N ws l) : BatH w0 w.drew B pb P N ws l := h.below ((Below.refl _ _).drew)
theorem BatH.open_ {F : Nat → Prop} {R n : Nat} {S : List Slo} {L : Nat → List UInt8} (h : BatH w0 w B pb P N ws l) (i : Nat) (hi : l[i]? = some (rRto B F R n S L)) : ∃ q c g d V, BatH w0 w B pb P N ws (l.set i (rCor B F R q n c g d S V L)) := by
  obtain ⟨A0, m, c0, xs0, F0, Z, hk, h1⟩ := h
  obtain ⟨q, c, g, d, V, hk'⟩ := hk.open_ (i + 3) hi
  exact ⟨q, c, g, d, V, A0, m, c0, xs0, F0, Z, hk', h1⟩
theorem BatH.shut {F : Nat → Prop} {R q n c g d : Nat} {S : List Slo} {V : Nat → Bx} {L : Nat → List UInt8} (h : BatH w0 w B pb P N ws l) (i : Nat) (hi : l[i]? = some (rCor B F R q n c g d S V L)) : BatH w0 w B pb P N ws (l.set i (rRto B F R n S L)) := by
  obtain ⟨A0, m, c0, xs0, F0, Z, hk, h1⟩ := h
  exact ⟨A0, m, c0, xs0, F0, Z, hk.shut (i + 3) hi, h1⟩
end
end Go.Proofs.Ytknlkmencdlpcaa
