/-
The walks of package batch: sent, Flush.
The walks of package batch: Flush, Held, Len, Full.
-/
import Derived.Test.YtknlkmencdlpcaaBt1
namespace Go.Proofs.Ytknlkmencdlpcaa
set_option linter.unusedVariables false
set_option linter.unusedSimpArgs false
open Go Go.RowKit

theorem Hold.vnewE {w0 w : World} {B : Nat} {l : List Rsc} (h : Hold w0 w B l) (cs : Array Value) (t : TypeId) (b : Nat) (hb : w.heap.size = b) : Hold w0 (w.alloc (.cells cs t)) B (rVar b (.cells cs t (0, 0)) :: l) := by
  subst hb; exact h.vnew0 cs t
def sentL (S : List Slo) (L : Nat → List UInt8) (x : Wr) : List UInt8 := if pkB x.k then apP (bytesL S L x.i x.g) x.sq x.tm x.ss x.f else x.z.l
def sentS (S : List Slo) (x : Wr) : List Slo := if pkB x.k then dropS S x.i x.g else S
theorem Sto.small {w : World} {B : Nat} {F : Nat → Prop} {P n : Nat} {S : List Slo} {L : Nat → List UInt8} (h : Sto w B F P n S L) (i g : Int) : (bytesL S L i g).length ≤ 512 := by
  obtain ⟨p, q, c, g', d, V, hC, _, _⟩ := h
  unfold bytesL
  split
  · rename_i hv
    obtain ⟨k, hk, rfl, _, _⟩ := liveS_yes hv
    exact hC.rw.top _ (by have := hC.ar.len; simp; omega)
  · simp
abbrev snA (k p s : Int) (z : Bz) : Value := .agg #[.int .i64 k, .int .i64 p, .int .i64 s, .slice z.A z.n z.c]
/-- What a write has become when it is sent. -/
def SentE (w0 w' : World) (B pb P n : Nat) (N : Int) (A : Option Addr) (m c : Nat) (Z : List Bz) (G : Nat → Prop) (S : List Slo) (L : Nat → List UInt8) (l : List Rsc) (x : Wr) (e : Ending) : Prop :=
  ∃ (y : Bz) (F' : Nat → Prop) (Z' : List Bz), e = .returned (snA x.k x.p x.s y) ∧ y.l = sentL S L x ∧ y ∈ Z' ∧ (∀ z ∈ Z, z ∈ Z') ∧ Hold w0 w' B (rVar pb (btO P N A m c) :: rSto B G P n (sentS S x) L :: rPool F' Z' :: l)
set_option maxRecDepth 20000 in
set_option maxHeartbeats 4000000 in
theorem sent_any {w0 w : World} {B pb P n : Nat} {N : Int} {A : Option Addr} {m c : Nat} {F : Nat → Prop} {Z : List Bz} {G : Nat → Prop} {S : List Slo} {L : Nat → List UInt8} {l : List Rsc} (h : Hold w0 w B (rVar pb (btO P N A m c) :: rSto B G P n S L :: rPool F Z :: l)) (x : Wr) (hz : x.z ∈ Z) (hxp : x.pOk) (hbig : ∀ s ∈ S, s.2 < 9223372036854775807) :
    Calls Try.prog 109 #[.pointer (some ⟨pb, 0, none⟩), wrA x] w fun e w' => SentE w0 w' B pb P n N A m c Z G S L l x e := by
  have hk0 := ((h.vnew0 (wrC x) 92).vnewE #[.int .i64 0, .int .i64 0, .int .i64 0, .slice none 0 0] 97 (w.heap.size + 1) (by simp)).vnewE #[.int .i64 x.k, .int .i64 x.p, .int .i64 x.s, .slice x.z.A x.z.n x.z.c] 97 (w.heap.size + 1 + 1) (by simp)
  have HB := Lib.hid hbig
  obtain ⟨a0, a1, a2, a3, a4, a5, a6, a7, a8, a9⟩ := ten_cells (hk0.get 2 rfl)
  clear hbig
  cases hpk : pkB x.k
  · have HF := Lib.hid (show sentL S L x = x.z.l ∧ sentS S x = S by unfold sentL sentS; rw [hpk]; exact ⟨rfl, rfl⟩)
    have HK := Lib.hid hpk
    clear hpk
    go_enter Try.func109, Try.ntmps109
    go_wp2_with (first
      | (go_at_call 110; (with_reducible refine (packet_any x _).mono ?_); rintro e w1 ⟨rfl, hb1⟩; rw [HK.out]; have hk1 := hk0.below hb1; obtain ⟨s0, s1, s2, s3⟩ := row4_cells (hk1.get 0 rfl))
      | (refine wpList_store_blk rfl 97 (.tmp 4) (.tmp 40) rfl (w.heap.size + 1) _ #[.int .i64 x.k, .int .i64 x.p, .int .i64 x.s, .slice x.z.A x.z.n x.z.c] _ rfl rfl (hk1.get 1 rfl) rfl (by kernel_rfl) (by simp [Value.oneCell']) ?_; intro w7 hi7 hg7; have hk7 := hk1.var 1 rfl hg7 hi7; obtain ⟨u0, u1, u2, u3⟩ := row4_cells hi7))
    exact bodyPost_ret (v := snA x.k x.p x.s x.z) (by simp [results, Try.results109, go_sem, u0, u1, u2, u3]) rfl (by
      refine ⟨x.z, F, Z, rfl, HF.out.1.symm, hz, fun z h => h, ?_⟩
      rw [HF.out.2]
      exact hk7.tail.tail.tail)
  · have HF := Lib.hid (show sentL S L x = apP (bytesL S L x.i x.g) x.sq x.tm x.ss x.f ∧ sentS S x = dropS S x.i x.g by unfold sentL sentS; rw [hpk]; exact ⟨rfl, rfl⟩)
    have HK := Lib.hid hpk
    clear hpk
    go_enter Try.func109, Try.ntmps109
    go_wp2_with (first
      | (go_at_call 110; (with_reducible refine (packet_any x _).mono ?_); rintro e w1 ⟨rfl, hb1⟩; rw [HK.out]; have hk1 := hk0.below hb1; obtain ⟨s0, s1, s2, s3⟩ := row4_cells (hk1.get 0 rfl)))
    refine region_planA (calmB_sound _) (.fork [0, 4] (.leaf [5, 1, 2, 3, 6, 7, 8, 9, 10, 11]) (.leaf [1, 2, 3, 5, 6, 7, 8, 9, 10, 11])) (by kernel_rfl) (by kernel_rfl) (by kernel_rfl) ?_
    have hkd := hk1.drew
    generalize w1.drew = w2 at *
    obtain ⟨a0, a1, a2, a3, a4, a5, a6, a7, a8, a9⟩ := ten_cells (hkd.get 2 rfl)
    obtain ⟨p0, _, _⟩ := row3_cells (hkd.get 3 rfl)
    have HP : Hid (x.sq < 65536 ∧ x.tm < 4294967296 ∧ x.ss < 4294967296 ∧ x.f < 65536) := Lib.hid hxp
    clear s0 s1 s2 s3
    refine wpPlan_fork fun PL0 hPL0 => ?_
    simp only [List.filterMap_cons, List.filterMap_nil, List.getElem?_toArray, List.getElem?_cons_succ, List.getElem?_cons_zero]
    change wpList _ _ _ [_, _] _ _
    go_wp2_with (first | (go_at_call 49; (with_reducible refine (sbytes_any (hkd.get 4 rfl) _ _).mono ?_); rintro e w3 ⟨A6, n6, c6, rfl, ho6, hb6⟩; have hk3 := hkd.rnew ho6 hb6; obtain ⟨s0, s1, s2, s3⟩ := row4_cells (hk3.get 1 rfl); have fz := frozen_row (j := 3) (hk3.get 1 rfl); obtain ⟨a0, a1, a2, a3, a4, a5, a6, a7, a8, a9⟩ := ten_cells (hk3.get 3 rfl); have hk4 : Hold w0 (w3.setCell ⟨w.heap.size + 1 + 1, 3, none⟩ (.slice A6 n6 c6)) B (_ :: rVar (w.heap.size + 1 + 1) (.cells #[.int .i64 x.k, .int .i64 x.p, .int .i64 x.s, .slice A6 n6 c6] 97 (0, 0)) :: _) := hk3.var 1 rfl (grown_setCell w3 ⟨w.heap.size + 1 + 1, 3, none⟩ (.slice A6 n6 c6)) (heap_setCell_same w3 (w.heap.size + 1 + 1) 3 _ _ _ (hk3.get 1 rfl))) | (go_at_call 16; (with_reducible refine (apply_any B A6 n6 c6 (bytesL S L x.i x.g) x.sq x.tm x.ss x.f HP.out.1 HP.out.2.1 HP.out.2.2.1 HP.out.2.2.2 _ (hk4.get 0 rfl)).mono ?_); rintro e w5 ⟨rfl, ho5, hg5⟩; have hk5 := hk4.app 0 rfl ho5 hg5 (.inl rfl)))
    refine hPL0 _ _ ?_ ?_
    · refine wpPlan_leaf fun PL1 hPL1 => ?_
      simp only [List.filterMap_cons, List.filterMap_nil, List.getElem?_toArray, List.getElem?_cons_succ, List.getElem?_cons_zero]
      change wpList _ _ _ [_, _, _, _, _, _, _, _, _, _] _ _
      go_wp2_with (first | (go_at_call 49; (with_reducible refine (sbytes_any (hkd.get 4 rfl) _ _).mono ?_); rintro e w3 ⟨A6, n6, c6, rfl, ho6, hb6⟩; have hk3 := hkd.rnew ho6 hb6; obtain ⟨s0, s1, s2, s3⟩ := row4_cells (hk3.get 1 rfl); have fz := frozen_row (j := 3) (hk3.get 1 rfl); obtain ⟨a0, a1, a2, a3, a4, a5, a6, a7, a8, a9⟩ := ten_cells (hk3.get 3 rfl); have hk4 : Hold w0 (w3.setCell ⟨w.heap.size + 1 + 1, 3, none⟩ (.slice A6 n6 c6)) B (_ :: rVar (w.heap.size + 1 + 1) (.cells #[.int .i64 x.k, .int .i64 x.p, .int .i64 x.s, .slice A6 n6 c6] 97 (0, 0)) :: _) := hk3.var 1 rfl (grown_setCell w3 ⟨w.heap.size + 1 + 1, 3, none⟩ (.slice A6 n6 c6)) (heap_setCell_same w3 (w.heap.size + 1 + 1) 3 _ _ _ (hk3.get 1 rfl))) | (go_at_call 16; (with_reducible refine (apply_any B A6 n6 c6 (bytesL S L x.i x.g) x.sq x.tm x.ss x.f HP.out.1 HP.out.2.1 HP.out.2.2.1 HP.out.2.2.2 _ (hk4.get 0 rfl)).mono ?_); rintro e w5 ⟨rfl, ho5, hg5⟩; have hk5 := hk4.app 0 rfl ho5 hg5 (.inl rfl)))
      have hke := hk5.drew
      obtain ⟨a0, a1, a2, a3, a4, a5, a6, a7, a8, a9⟩ := ten_cells (hke.get 3 rfl)
      obtain ⟨p0, _, _⟩ := row3_cells (hke.get 4 rfl)
      refine still_tail2 6 (by kernel_rfl) (by kernel_rfl) ?_
      simp only [List.take_succ_cons, List.take_zero, List.drop_succ_cons, List.drop_zero]
      repeat still_step
      refine wpStill_nil ?_
      go_wp2_with (first
        | (go_at_call 45; (with_reducible refine (sdrop_any (hke.get 5 rfl) _ _ HB.out).mono ?_); rintro e w6 ⟨rfl, hS6, hW6⟩; have hk6 := hke.sto 5 rfl hS6 (Grw.refl _ _) hW6; obtain ⟨s0, s1, s2, s3⟩ := row4_cells (hk6.get 1 rfl))
        | (refine wpList_store_blk rfl 97 (.tmp 4) (.tmp 40) rfl (w.heap.size + 1) _ #[.int .i64 x.k, .int .i64 x.p, .int .i64 x.s, .slice A6 n6 c6] _ rfl rfl (hk6.get 2 rfl) rfl (by kernel_rfl) (by simp [Value.oneCell']) ?_; intro w7 hi7 hg7; have hk7 := hk6.var 2 rfl hg7 hi7; obtain ⟨u0, u1, u2, u3⟩ := row4_cells hi7))
      exact bodyPost_ret (v := snA x.k x.p x.s ⟨A6, n6, c6, apP (bytesL S L x.i x.g) x.sq x.tm x.ss x.f⟩) (by simp [results, Try.results109, go_sem, u0, u1, u2, u3]) rfl (by
        have hn6 : n6 ≤ 140737488351232 := by
          have h1 := ho6.1
          rw [bys_length] at h1
          have h2 := Sto.small (h.get 1 rfl) x.i x.g
          omega
        have hk8 := (hk7.into 5 rfl hn6).tail.tail.tail
        rw [← HF.out.2] at hk8
        exact ⟨⟨A6, n6, c6, _⟩, _, _, rfl, HF.out.1.symm, List.mem_cons_self .., fun z h => List.mem_cons_of_mem _ h, hk8⟩)
    · refine wpPlan_leaf fun PL1 hPL1 => ?_
      simp only [List.filterMap_cons, List.filterMap_nil, List.getElem?_toArray, List.getElem?_cons_succ, List.getElem?_cons_zero]
      change wpList _ _ _ [_, _, _, _, _, _, _, _, _, _] _ _
      go_wp2_with (first | (go_at_call 49; (with_reducible refine (sbytes_any (hkd.get 4 rfl) _ _).mono ?_); rintro e w3 ⟨A6, n6, c6, rfl, ho6, hb6⟩; have hk3 := hkd.rnew ho6 hb6; obtain ⟨s0, s1, s2, s3⟩ := row4_cells (hk3.get 1 rfl); have fz := frozen_row (j := 3) (hk3.get 1 rfl); obtain ⟨a0, a1, a2, a3, a4, a5, a6, a7, a8, a9⟩ := ten_cells (hk3.get 3 rfl); have hk4 : Hold w0 (w3.setCell ⟨w.heap.size + 1 + 1, 3, none⟩ (.slice A6 n6 c6)) B (_ :: rVar (w.heap.size + 1 + 1) (.cells #[.int .i64 x.k, .int .i64 x.p, .int .i64 x.s, .slice A6 n6 c6] 97 (0, 0)) :: _) := hk3.var 1 rfl (grown_setCell w3 ⟨w.heap.size + 1 + 1, 3, none⟩ (.slice A6 n6 c6)) (heap_setCell_same w3 (w.heap.size + 1 + 1) 3 _ _ _ (hk3.get 1 rfl))) | (go_at_call 16; (with_reducible refine (apply_any B A6 n6 c6 (bytesL S L x.i x.g) x.sq x.tm x.ss x.f HP.out.1 HP.out.2.1 HP.out.2.2.1 HP.out.2.2.2 _ (hk4.get 0 rfl)).mono ?_); rintro e w5 ⟨rfl, ho5, hg5⟩; have hk5 := hk4.app 0 rfl ho5 hg5 (.inl rfl)))
      have hke := hk5.drew
      obtain ⟨a0, a1, a2, a3, a4, a5, a6, a7, a8, a9⟩ := ten_cells (hke.get 3 rfl)
      obtain ⟨p0, _, _⟩ := row3_cells (hke.get 4 rfl)
      refine still_tail2 6 (by kernel_rfl) (by kernel_rfl) ?_
      simp only [List.take_succ_cons, List.take_zero, List.drop_succ_cons, List.drop_zero]
      repeat still_step
      refine wpStill_nil ?_
      go_wp2_with (first
        | (go_at_call 45; (with_reducible refine (sdrop_any (hke.get 5 rfl) _ _ HB.out).mono ?_); rintro e w6 ⟨rfl, hS6, hW6⟩; have hk6 := hke.sto 5 rfl hS6 (Grw.refl _ _) hW6; obtain ⟨s0, s1, s2, s3⟩ := row4_cells (hk6.get 1 rfl))
        | (refine wpList_store_blk rfl 97 (.tmp 4) (.tmp 40) rfl (w.heap.size + 1) _ #[.int .i64 x.k, .int .i64 x.p, .int .i64 x.s, .slice A6 n6 c6] _ rfl rfl (hk6.get 2 rfl) rfl (by kernel_rfl) (by simp [Value.oneCell']) ?_; intro w7 hi7 hg7; have hk7 := hk6.var 2 rfl hg7 hi7; obtain ⟨u0, u1, u2, u3⟩ := row4_cells hi7))
      exact bodyPost_ret (v := snA x.k x.p x.s ⟨A6, n6, c6, apP (bytesL S L x.i x.g) x.sq x.tm x.ss x.f⟩) (by simp [results, Try.results109, go_sem, u0, u1, u2, u3]) rfl (by
        have hn6 : n6 ≤ 140737488351232 := by
          have h1 := ho6.1
          rw [bys_length] at h1
          have h2 := Sto.small (h.get 1 rfl) x.i x.g
          omega
        have hk8 := (hk7.into 5 rfl hn6).tail.tail.tail
        rw [← HF.out.2] at hk8
        exact ⟨⟨A6, n6, c6, _⟩, _, _, rfl, HF.out.1.symm, List.mem_cons_self .., fun z h => List.mem_cons_of_mem _ h, hk8⟩)
end Go.Proofs.Ytknlkmencdlpcaa

namespace Go.Proofs.Ytknlkmencdlpcaa
set_option linter.unusedVariables false
set_option linter.unusedSimpArgs false
open Go Go.RowKit

def Snt.bare (y : Snt) : Snt := ⟨y.k, y.p, y.s, ⟨none, 0, 0, y.z.l⟩⟩
/-- What is sent of writes, and what becomes of the slots. -/
def flS (S : List Slo) (ws : List Wr) : List Slo := ws.foldl sentS S
def flY (L : Nat → List UInt8) : List Slo → List Wr → List Snt
  | _, [] => []
  | S, x :: ws => ⟨x.k, x.p, x.s, ⟨none, 0, 0, sentL S L x⟩⟩ :: flY L (sentS S x) ws
theorem flS_snoc (S : List Slo) (ws : List Wr) (x : Wr) : flS S (ws ++ [x]) = sentS (flS S ws) x := by simp [flS]
theorem flY_snoc (L : Nat → List UInt8) (S : List Slo) (ws : List Wr) (x : Wr) : flY L S (ws ++ [x]) = flY L S ws ++ [⟨x.k, x.p, x.s, ⟨none, 0, 0, sentL (flS S ws) L x⟩⟩] := by
  induction ws generalizing S with
  | nil => rfl
  | cons y ws ih =>
    have e : (y :: ws) ++ [x] = y :: (ws ++ [x]) := rfl
    rw [e, flY, flY, ih]
    rfl
theorem sentL_bare (S : List Slo) (L : Nat → List UInt8) (x : Wr) : sentL S L x.bare = sentL S L x := rfl
theorem sentS_bare (S : List Slo) (x : Wr) : sentS S x.bare = sentS S x := rfl
theorem flS_bare (S : List Slo) (xs : List Wr) : flS S (xs.map Wr.bare) = flS S xs := by
  induction xs generalizing S with
  | nil => rfl
  | cons x xs ih => exact ih (sentS S x)
theorem flY_bare (L : Nat → List UInt8) (S : List Slo) (xs : List Wr) : flY L S (xs.map Wr.bare) = flY L S xs := by
  induction xs generalizing S with
  | nil => rfl
  | cons x xs ih => rw [List.map_cons, flY, flY, sentL_bare, sentS_bare, ih]; rfl
theorem flY_length (L : Nat → List UInt8) (S : List Slo) (xs : List Wr) : (flY L S xs).length = xs.length := by
  induction xs generalizing S with
  | nil => rfl
  | cons x xs ih => rw [flY, List.length_cons, ih, List.length_cons]
theorem dropS_big {S : List Slo} {m : Nat} (h : ∀ s ∈ S, s.2 < m) (i g : Int) : ∀ s ∈ dropS S i g, s.2 < m := by
  intro s hs
  unfold dropS at hs
  split at hs
  · rename_i h1
    obtain ⟨k, hk, rfl, h3, h4⟩ := liveS_yes h1
    have := h _ (List.getElem_mem hk)
    split at hs
    · rcases List.mem_or_eq_of_mem_set hs with hs | rfl
      · exact h s hs
      · show 0 < m; omega
    · rcases List.mem_or_eq_of_mem_set hs with hs | rfl
      · exact h s hs
      · simp [List.getElem?_eq_getElem hk]
        omega
  · exact h s hs
theorem flS_big {S : List Slo} {m : Nat} (h : ∀ s ∈ S, s.2 < m) (ws : List Wr) : ∀ s ∈ flS S ws, s.2 < m := by
  induction ws generalizing S with
  | nil => exact h
  | cons x ws ih =>
    refine ih (S := sentS S x) ?_
    unfold sentS
    split
    · exact dropS_big h _ _
    · exact h
theorem take_snocG {α : Type} (xs : List α) (k : Nat) (h : k < xs.length) : xs.take (k + 1) = xs.take k ++ [xs[k]] := by
  rw [List.take_succ_eq_append_getElem h]
theorem lit_rdS (w : World) (k p s : Int) (z : Bz) : Rd (w.alloc (.cells #[.int .i64 k, .int .i64 p, .int .i64 s, .slice z.A z.n z.c] 97)) (some ⟨w.heap.size, 0, none⟩) (snV ⟨k, p, s, z⟩) :=
  rd_rowN (World.ownsRow_lit (base := 0) (e := 97) (size := 4) w #[.int .i64 k, .int .i64 p, .int .i64 s, .slice z.A z.n z.c] 1 (Nat.zero_le _) (by unfold maxLen; omega) rfl)
/-- In Flush: k of the writes are sent. -/
def FlR (w0 wr : World) (B pb P n : Nat) (N : Int) (A : Option Addr) (m c : Nat) (xs : List Wr) (G : Nat → Prop) (S : List Slo) (L : Nat → List UInt8) (l : List Rsc) (k : Nat) (X : Option Addr) (d : Nat) : Prop :=
  ∃ (ys : List Snt) (F : Nat → Prop) (Z : List Bz), Hold w0 wr B (rVar pb (btO P N A m c) :: rSto B G P n (flS S (xs.take k)) L :: rPool F Z :: rRow B 92 10 A m c (rowG wrV xs) :: rRow B 97 4 X k d (rowG snV ys) :: l) ∧ ys.map Snt.bare = flY L S (xs.take k) ∧ (∀ y ∈ ys, y.z ∈ Z) ∧ ∀ x ∈ xs, x.z ∈ Z
/-- What Flush leaves. -/
def FlE (w0 w' : World) (B pb P n : Nat) (N : Int) (ws : List Wr) (G : Nat → Prop) (S : List Slo) (L : Nat → List UInt8) (l : List Rsc) (e : Ending) : Prop :=
  ∃ (X : Option Addr) (m d : Nat) (ys : List Snt) (F : Nat → Prop) (Z : List Bz), e = .returned (.slice X m d) ∧ ys.map Snt.bare = flY L S ws ∧ (∀ y ∈ ys, y.z ∈ Z) ∧
    Hold w0 w' B (rRow B 97 4 X m d (rowG snV ys) :: rVar pb (btO P N none 0 0) :: rRow B 92 10 none 0 0 (rowG wrV []) :: rPool F Z :: rSto B G P n (flS S ws) L :: l)
set_option maxRecDepth 20000 in
set_option maxHeartbeats 4000000 in
theorem flush_any {w0 w : World} {B pb P n : Nat} {N : Int} {ws : List Wr} {G : Nat → Prop} {S : List Slo} {L : Nat → List UInt8} {l : List Rsc} (h : BatH w0 w B pb P N ws (rSto B G P n S L :: l)) (hbig : ∀ s ∈ S, s.2 < 9223372036854775807) (hws : ws.length ≤ 1000) :
    Calls Try.prog 60 #[.pointer (some ⟨pb, 0, none⟩)] w fun e w' => FlE w0 w' B pb P n N ws G S L l e := by
  obtain ⟨A, m, c, xs, F, Z, hk, hxw, hxz, hp⟩ := h
  subst hxw
  rw [List.length_map] at hws
  have hxm : xs.length = m := rowG_len wrV_length (hk.get 1 rfl) (by omega)
  have hq := fun wx => eql_nil 88 ⟨pb, 0, none⟩ (by kernel_rfl) wx
  have HB := Lib.hid hbig
  have HP := Lib.hid hp
  have hm : m ≤ 1000 := by omega
  have hmc : m ≤ c := own_cap' (hk.get 1 rfl)
  obtain ⟨p0, p1, p2⟩ := row3_cells (hk.get 0 rfl)
  have HM := Lib.hid hxm
  have h0 : FlR w0 w B pb P n N A m c xs G S L l 0 none 0 := ⟨[], F, Z, ((((hk.rnil 97 4).up 2 rfl).up 3 rfl).up 4 rfl).up 4 rfl, rfl, fun y hy => by simp at hy, hxz⟩
  clear hws hbig hp hxm hk hxz
  go_enter Try.func60, Try.ntmps60
  go_wp2
  go_loopw [3, 13] (fun tl i wr => ∃ (k d : Nat) (X : Option Addr), i = .int .i64 k ∧ tl = .slice X k d ∧ k ≤ m ∧ FlR w0 wr B pb P n N A m c xs G S L l k X d) (fun _ i _ => m - (intOf i).toNat)
  case atStart => exact ⟨0, 0, none, rfl, rfl, Nat.zero_le _, h0⟩
  case round =>
    clear h0 p0 p1 p2
    obtain ⟨k, d, X, rfl, rfl, hkm, ys, F', Z', hk, hys, hyz, hxz⟩ := hrel
    have HY := Lib.hid hys
    have HS := Lib.hid (flS_big HB.out (xs.take k))
    clear hys
    by_cases hlt : k < m
    · have hkx : k < xs.length := by have := HM.out; omega
      obtain ⟨g, rfl, _, _, hcs⟩ := rowG_cells wrV_length (hk.get 3 rfl) (by omega) hkx
      have c0 := hcs 0 _ rfl
      have c1 := hcs 1 _ rfl
      have c2 := hcs 2 _ rfl
      have c3 := hcs 3 _ rfl
      have c4 := hcs 4 _ rfl
      have c5 := hcs 5 _ rfl
      have c6 := hcs 6 _ rfl
      have c7 := hcs 7 _ rfl
      have c8 := hcs 8 _ rfl
      have c9 := hcs 9 _ rfl
      simp only [Nat.add_zero] at c0
      have hk1 := ((((hk.vnew0 (wrC xs[k]) 92).up 3 rfl).up 3 rfl).up 3 rfl)
      obtain ⟨b0, b1, b2, b3, b4, b5, b6, b7, b8, b9⟩ := ten_cells (hk1.get 3 rfl)
      clear hcs
      go_wp2_with (first
        | (go_at_call 109; (with_reducible refine (sent_any hk1 xs[k] (hxz _ (List.getElem_mem hkx)) (HP.out _ (List.getElem_mem hkx)) HS.out).mono ?_); rintro e w3 ⟨y, F3, Z3, rfl, hy1, hy2, hy3, hk3⟩)
        | (at_builtin; refine wpList_app slSn rfl _ _ rfl B X k d (rowG snV ys) rfl ((hk3.alloc _).get 5 rfl) (some ⟨w3.heap.size, 0, none⟩) 1 1 (snV ⟨xs[k].k, xs[k].p, xs[k].s, y⟩) rfl rfl (lit_rdS w3 xs[k].k xs[k].p xs[k].s y) (snV_one _) (by omega) (hk3.alloc _).hs ?_; intro A1 c1 w8 ho8 hg8 hA8; rw [← rowG_one snV, ← rowG_append] at ho8; have hk8 := (hk3.alloc _).app 5 rfl ho8 hg8 hA8))
      have HT := Lib.hid (take_snocG xs k hkx)
      have HT2 := Lib.hid (show (⟨xs[k].k, xs[k].p, xs[k].s, y⟩ : Snt).bare = ⟨xs[k].k, xs[k].p, xs[k].s, ⟨none, 0, 0, sentL (flS S (xs.take k)) L xs[k]⟩⟩ by rw [← hy1]; rfl)
      clear hy1
      refine ⟨⟨k + 1, c1, A1, rfl, rfl, by omega, ys ++ [⟨xs[k].k, xs[k].p, xs[k].s, y⟩], F3, Z3, ?_, ?_, ?_, fun x hx => hy3 _ (hxz x hx)⟩, by simp [intOf]; omega⟩
      · rw [HT.out, flS_snoc]; exact hk8.del 3 rfl
      · rw [HT.out, flY_snoc, List.map_append, HY.out, List.map_cons, List.map_nil, HT2.out]
      · intro y' hy'
        rcases List.mem_append.1 hy' with hy' | hy'
        · exact hy3 _ (hyz _ hy')
        · obtain rfl := List.mem_singleton.1 hy'; exact hy2
    · obtain rfl : k = m := by omega
      have hpb := hk.get 0 rfl
      have fp := frozen_row (j := 2) hpb
      obtain ⟨p0, p1, p2⟩ := row3_cells hpb
      clear hlt
      go_wp2
      go_ret
      have hk9 := hk.var 0 rfl (grown_setCell wr ⟨pb, 2, none⟩ (.slice none 0 0)) (heap_setCell_same wr pb 2 _ _ _ hpb)
      have e : xs.take k = xs := List.take_of_length_le (by have := HM.out; omega)
      rw [e] at hk9
      have HY2 := HY.out
      rw [e] at HY2
      refine ⟨X, k, d, ys, F', Z', rfl, by rw [flY_bare]; exact HY2, hyz, ?_⟩
      rw [flS_bare]
      exact ((((((hk9.rnil 92 10).up 2 rfl).up 3 rfl).up 2 rfl).up 3 rfl).up 5 rfl).del 5 rfl
/-- A handle as it lies in memory. -/
def hdV (h : Int × Int) : List Value := [.int .i64 h.1, .int .u32 h.2]
theorem hdV_length (h : Int × Int) : (hdV h).length = 2 := rfl
theorem hdV_one (h : Int × Int) : ∀ u ∈ hdV h, u.oneCell' = true := by
  intro u hu
  simp only [hdV, List.mem_cons, List.not_mem_nil, or_false] at hu
  rcases hu with rfl | rfl <;> rfl
/-- The handles that a batch holds. -/
def heldL (ws : List Wr) : List (Int × Int) := (ws.filter fun x => pkB x.k).map fun x => (x.i, x.g)
theorem heldL_snoc (ws : List Wr) (x : Wr) : heldL (ws ++ [x]) = heldL ws ++ if pkB x.k then [(x.i, x.g)] else [] := by
  unfold heldL
  rw [List.filter_append, List.map_append]
  congr 1
  cases h : pkB x.k <;> simp [h]
theorem heldL_bare (xs : List Wr) : heldL (xs.map Wr.bare) = heldL xs := by
  induction xs with
  | nil => rfl
  | cons x xs ih =>
    unfold heldL at *
    rw [List.map_cons, List.filter_cons, List.filter_cons]
    have e : pkB x.bare.k = pkB x.k := rfl
    rw [e]
    split
    · rw [List.map_cons, ih]; rfl
    · exact ih
theorem heldL_le (ws : List Wr) : (heldL ws).length ≤ ws.length := by
  unfold heldL; rw [List.length_map]; exact List.length_filter_le _ _
theorem lit_rdH (w : World) (i g : Int) : Rd (w.alloc (.cells #[.int .i64 i, .int .u32 g] 69)) (some ⟨w.heap.size, 0, none⟩) (hdV (i, g)) :=
  rd_rowN (World.ownsRow_lit (base := 0) (e := 69) (size := 2) w #[.int .i64 i, .int .u32 g] 1 (Nat.zero_le _) (by unfold maxLen; omega) rfl)
theorem slHd : SliceT Try.prog 67 69 (.agg #[.int .i64 0, .int .u32 0]) 2 16 := sliceT_of Try.underlying67 (by kernel_rfl) rfl (by omega) (by omega)
/-- A batch in memory, looked at only. -/
structure BtAt (w : World) (pb P : Nat) (N : Int) (A : Option Addr) (m c : Nat) (xs : List Wr) : Prop where
  head : w.heap[pb]? = some (btO P N A m c)
  own : w.ownsRow 0 92 10 (.slice A m c) m (rowG wrV xs)
theorem BtAt.below {w w' : World} {pb P : Nat} {N : Int} {A : Option Addr} {m c : Nat} {xs : List Wr} (h : BtAt w pb P N A m c xs) (hb : Below w.heap.size w w') : BtAt w' pb P N A m c xs :=
  ⟨(hb.block pb (block_lt h.head)).trans h.head, h.own.kept (own_below hb) (own_none _)⟩
theorem BatH.at_ {w0 w : World} {B pb P : Nat} {N : Int} {ws : List Wr} {l : List Rsc} (h : BatH w0 w B pb P N ws l) : ∃ A m c xs, BtAt w pb P N A m c xs ∧ xs.map Wr.bare = ws := by
  obtain ⟨A, m, c, xs, F, Z, hk, hx, _⟩ := h
  exact ⟨A, m, c, xs, ⟨hk.get 0 rfl, own_mono (hk.get 1 rfl) (Nat.zero_le _)⟩, hx⟩
def HeldE (w w' : World) (ws : List Wr) (e : Ending) : Prop := ∃ X m d, e = .returned (.slice X m d) ∧ w'.ownsRow w.heap.size 69 2 (.slice X m d) m (rowG hdV (heldL ws)) ∧ Below w.heap.size w w'
set_option maxRecDepth 20000 in
set_option maxHeartbeats 4000000 in
theorem held_any {w : World} {pb P : Nat} {N : Int} {A : Option Addr} {m c : Nat} {xs : List Wr} (h : BtAt w pb P N A m c xs) (hws : xs.length ≤ 1000) :
    Calls Try.prog 65 #[.pointer (some ⟨pb, 0, none⟩)] w fun e w' => HeldE w w' xs e := by
  have hxm : xs.length = m := rowG_len wrV_length h.own (by omega)
  have hq := fun wx => eql_nil 88 ⟨pb, 0, none⟩ (by kernel_rfl) wx
  have hm : m ≤ 1000 := by omega
  have hmc : m ≤ c := own_cap' h.own
  obtain ⟨p0, p1, p2⟩ := row3_cells h.head
  have HM := Lib.hid hxm
  have HH := Lib.hid h
  have hk0 : Hold w w w.heap.size [rRow w.heap.size 69 2 none 0 0 (rowG hdV [])] := (Hold.nil (Below.refl _ _) (Nat.le_refl _) (Nat.le_refl _)).rnil _ _
  clear hws hxm h
  go_enter Try.func65, Try.ntmps65
  go_wp2
  go_loopw [3, 13] (fun tl i wr => ∃ (k j d : Nat) (X : Option Addr), i = .int .i64 k ∧ tl = .slice X j d ∧ k ≤ m ∧ j ≤ k ∧ Hold w wr w.heap.size [rRow w.heap.size 69 2 X j d (rowG hdV (heldL (xs.take k)))]) (fun _ i _ => m - (intOf i).toNat)
  case atStart => exact ⟨0, 0, 0, none, rfl, rfl, Nat.zero_le _, Nat.le_refl _, hk0⟩
  case round =>
    clear hk0 p0 p1 p2
    obtain ⟨k, j, d, X, rfl, rfl, hkm, hjk, hk⟩ := hrel
    by_cases hlt : k < m
    · have hkx : k < xs.length := by have := HM.out; omega
      have HHr := HH.out.below hk.b
      obtain ⟨g, rfl, _, _, hcs⟩ := rowG_cells wrV_length HHr.own (by omega) hkx
      have c0 := hcs 0 _ rfl
      have c1 := hcs 1 _ rfl
      have c2 := hcs 2 _ rfl
      have c3 := hcs 3 _ rfl
      have c4 := hcs 4 _ rfl
      have c5 := hcs 5 _ rfl
      have c6 := hcs 6 _ rfl
      have c7 := hcs 7 _ rfl
      have c8 := hcs 8 _ rfl
      have c9 := hcs 9 _ rfl
      simp only [Nat.add_zero] at c0
      have hk1 := hk.vnew0 (wrC xs[k]) 92
      obtain ⟨b0, b1, b2, b3, b4, b5, b6, b7, b8, b9⟩ := ten_cells (hk1.get 0 rfl)
      have HT := Lib.hid (take_snocG xs k hkx)
      clear hcs HHr
      cases hpk : pkB xs[k].k
      · have HK := Lib.hid hpk
        clear hpk
        go_wp2_with (go_at_call 110; (with_reducible refine (packet_any xs[k] _).mono ?_); rintro e w3 ⟨rfl, hb3⟩; rw [HK.out]; have hk3 := hk1.below hb3)
        refine ⟨⟨k + 1, j, d, X, rfl, rfl, by omega, by omega, ?_⟩, by simp [intOf]; omega⟩
        rw [HT.out, heldL_snoc, if_neg (by rw [HK.out]; decide), List.append_nil]
        exact hk3.tail
      · have HK := Lib.hid hpk
        clear hpk
        go_wp2_with (first
          | (go_at_call 110; (with_reducible refine (packet_any xs[k] _).mono ?_); rintro e w3 ⟨rfl, hb3⟩; rw [HK.out]; have hk3 := hk1.below hb3; obtain ⟨b0, b1, b2, b3, b4, b5, b6, b7, b8, b9⟩ := ten_cells (hk3.get 0 rfl))
          | (at_builtin; refine wpList_app slHd rfl _ _ rfl w.heap.size X j d _ rfl ((hk3.alloc _).get 1 rfl) (some ⟨w3.heap.size, 0, none⟩) 1 1 (hdV (xs[k].i, xs[k].g)) rfl rfl (lit_rdH w3 xs[k].i xs[k].g) (hdV_one _) (by omega) (hk3.alloc _).hs ?_; intro A1 c1 w8 ho8 hg8 hA8; rw [← rowG_one hdV, ← rowG_append] at ho8; have hk8 := (hk3.alloc _).app 1 rfl ho8 hg8 hA8))
        refine ⟨⟨k + 1, j + 1, c1, A1, rfl, rfl, by omega, by omega, ?_⟩, by simp [intOf]; omega⟩
        rw [HT.out, heldL_snoc, if_pos HK.out]
        exact hk8.tail
    · obtain rfl : k = m := by omega
      clear hlt
      go_wp2
      go_ret
      have e : xs.take k = xs := List.take_of_length_le (by have := HM.out; omega)
      rw [e] at hk
      exact ⟨X, j, d, rfl, hk.get 0 rfl, hk.b⟩
theorem blen_any {w : World} {pb P : Nat} {N : Int} {A : Option Addr} {m c : Nat} {xs : List Wr} (h : BtAt w pb P N A m c xs) : Calls Try.prog 62 #[.pointer (some ⟨pb, 0, none⟩)] w fun e w' => e = .returned (.int .i64 m) ∧ w = w' := by
  have hq := fun wx => eql_nil 88 ⟨pb, 0, none⟩ (by kernel_rfl) wx
  have hmc : m ≤ c := own_cap' h.own
  obtain ⟨p0, p1, p2⟩ := row3_cells h.head
  clear h
  go_enter Try.func62, Try.ntmps62
  go_wp2
  go_ret
  exact ⟨rfl, rfl⟩
theorem bfull_any {w : World} {pb P : Nat} {N : Int} {A : Option Addr} {m c : Nat} {xs : List Wr} (h : BtAt w pb P N A m c xs) : Calls Try.prog 63 #[.pointer (some ⟨pb, 0, none⟩)] w fun e w' => e = .returned (.bool (decide (N ≤ m))) ∧ Below w.heap.size w w' := by
  have hq := fun wx => eql_nil 88 ⟨pb, 0, none⟩ (by kernel_rfl) wx
  have hmc : m ≤ c := own_cap' h.own
  obtain ⟨p0, p1, p2⟩ := row3_cells (h.below ((Below.refl _ w).drew)).head
  clear h
  go_enter Try.func63, Try.ntmps63
  go_wp2_with fail
  refine region_planA (calmB_sound _) (.fork [0, 1, 2, 3, 8] (.fork [9, 10] (.leaf [11, 4, 5, 6, 7, 12, 13, 14]) (.leaf [4, 5, 6, 7, 11, 12, 13, 14])) (.fork [4, 5] (.leaf [9, 6, 7, 10, 11, 12, 13, 14]) (.leaf [6, 7, 9, 10, 11, 12, 13, 14]))) (by kernel_rfl) (by kernel_rfl) (by kernel_rfl) ?_
  refine wpPlan_fork fun PL0 hPL0 => ?_
  simp only [List.filterMap_cons, List.filterMap_nil, List.getElem?_toArray, List.getElem?_cons_succ, List.getElem?_cons_zero]
  change wpList _ _ _ [_, _, _, _, _] _ _
  go_wp2_with (fail)
  refine hPL0 _ _ ?_ ?_
  · refine wpPlan_fork fun PL1 hPL1 => ?_
    simp only [List.filterMap_cons, List.filterMap_nil, List.getElem?_toArray, List.getElem?_cons_succ, List.getElem?_cons_zero]
    change wpList _ _ _ [_, _] _ _
    go_wp2_with (fail)
    refine hPL1 _ _ ?_ ?_
    · refine wpPlan_leaf fun PL2 hPL2 => ?_
      simp only [List.filterMap_cons, List.filterMap_nil, List.getElem?_toArray, List.getElem?_cons_succ, List.getElem?_cons_zero]
      change wpList _ _ _ [_, _, _, _, _, _, _, _] _ _
      go_wp2_with (fail)
      go_ret
      exact ⟨rfl, (Below.refl _ w).drew⟩
    · refine wpPlan_leaf fun PL2 hPL2 => ?_
      simp only [List.filterMap_cons, List.filterMap_nil, List.getElem?_toArray, List.getElem?_cons_succ, List.getElem?_cons_zero]
      change wpList _ _ _ [_, _, _, _, _, _, _, _] _ _
      go_wp2_with (fail)
      go_ret
      exact ⟨rfl, (Below.refl _ w).drew⟩
  · refine wpPlan_fork fun PL1 hPL1 => ?_
    simp only [List.filterMap_cons, List.filterMap_nil, List.getElem?_toArray, List.getElem?_cons_succ, List.getElem?_cons_zero]
    change wpList _ _ _ [_, _] _ _
    go_wp2_with (fail)
    refine hPL1 _ _ ?_ ?_
    · refine wpPlan_leaf fun PL2 hPL2 => ?_
      simp only [List.filterMap_cons, List.filterMap_nil, List.getElem?_toArray, List.getElem?_cons_succ, List.getElem?_cons_zero]
      change wpList _ _ _ [_, _, _, _, _, _, _, _] _ _
      go_wp2_with (fail)
      go_ret
      exact ⟨rfl, (Below.refl _ w).drew⟩
    · refine wpPlan_leaf fun PL2 hPL2 => ?_
      simp only [List.filterMap_cons, List.filterMap_nil, List.getElem?_toArray, List.getElem?_cons_succ, List.getElem?_cons_zero]
      change wpList _ _ _ [_, _, _, _, _, _, _, _] _ _
      go_wp2_with (fail)
      go_ret
      exact ⟨rfl, (Below.refl _ w).drew⟩
end Go.Proofs.Ytknlkmencdlpcaa
