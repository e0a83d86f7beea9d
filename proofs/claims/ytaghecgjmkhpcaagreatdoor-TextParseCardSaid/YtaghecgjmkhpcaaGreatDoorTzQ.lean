/-
The reference's Parse (package sluicegateref30).
-/
import Derived.Test.YtaghecgjmkhpcaaGreatDoorTz9
import Derived.Test.YtaghecgjmkhpcaaGreatDoorTxF
namespace Go.Proofs.YtaghecgjmkhpcaaGreatDoor
set_option linter.unusedVariables false
set_option linter.unusedSimpArgs false
open Go Go.RowKit

/-- The state of Parse: the lines, the operations that were read. -/
structure Pq (w0 w : World) (A : Option Addr) (n d : Nat) (ws : List (List UInt8)) (B : Option Addr) (m c : Nat) (xs : List Sp) : Prop where
  own : w.ownsRow w0.heap.size 9 1 (.slice A n d) n (strs ws)
  ops : OpsO w w0.heap.size B m c xs
  b : Below w0.heap.size w0 w
theorem Pq.below {w0 w w' : World} {A B : Option Addr} {n d m c : Nat} {ws : List (List UInt8)} {xs : List Sp} (h : Pq w0 w A n d ws B m c xs) (hb : Below w.heap.size w w') : Pq w0 w' A n d ws B m c xs :=
  ⟨h.own.kept (own_below hb) (own_none _), h.ops.below hb, h.b.trans (hb.mono h.b.size)⟩
theorem Pq.app {w0 w w' : World} {A B B' : Option Addr} {n d m c c' k : Nat} {ws : List (List UInt8)} {xs : List Sp} {x : Sp} (h : Pq w0 w A n d ws B m c xs) (hx : SpO w w0.heap.size x)
    (ho : w'.ownsRow w0.heap.size 27 7 (.slice B' k c') k (rowO xs ++ rowO [x])) (hg : w.grownBy w' (B.map Addr.block)) : Pq w0 w' A n d ws B' k c' (xs ++ [x]) :=
  ⟨own_otherT h.ops.own h.own (show (9 : TypeId) ≠ 27 by decide) hg, h.ops.app (fun y hy => by rw [List.mem_singleton.1 hy]; exact hx) ho hg, h.b.grown hg h.b.size (own_from h.ops.own)⟩
theorem rone_o (s : List UInt8) (w : World) (hl : s.length ≤ 262144) (hv : Lib.validD s = true) (hT : LaidT w) (E : Int) (O : Opx) (hE : oneL s = (E, O)) : Calls Tryz.prog 30 #[.string ⟨s.toArray⟩] w fun e w' =>
    ∃ x : Sp, e = .returned (.tuple #[.agg #[.int .i64 x.o.k, .int .i64 x.o.p, .int .i64 x.o.s, .int .i64 x.o.y, .string ⟨x.o.nm.toArray⟩, .slice x.A x.an x.ac, .slice x.B x.bn x.bc], .int .i64 E]) ∧ Hid (E = 0 → x.o = O) ∧ SpO w' w.heap.size x ∧ Below w.heap.size w w' := by
  refine (rone_any s w (by omega) hv hT).mono ?_
  rintro e w' ⟨x, rfl, h1, h2, h3⟩
  rw [hE] at h1 ⊢
  exact ⟨x, rfl, Lib.hid h1, h2, h3⟩
theorem split_each10 : ∀ (l : List UInt8), ∀ z ∈ splitL 10 l, z.length ≤ l.length
  | [], z, hz => by simp [splitL] at hz; simp [hz]
  | x :: t, z, hz => by
    have ih := split_each10 t
    by_cases hx : x = 10
    · subst hx
      rw [splitL_hit] at hz
      rcases List.mem_cons.1 hz with rfl | hz
      · simp
      · have := ih z hz
        simp
        omega
    · cases e : splitL 10 t with
      | nil => exact absurd e (splitL_ne 10 t)
      | cons v r =>
        rw [splitL_step 10 x t hx _ _ e] at hz
        rw [e] at ih
        rcases List.mem_cons.1 hz with rfl | hz
        · have := ih v (by simp)
          simp
          omega
        · have := ih z (by simp [hz])
          simp
          omega
def Pr (s : List UInt8) (w : World) (O : List Opx) (N E : Int) (e : Ending) (w' : World) : Prop :=
  ∃ (A : Option Addr) (n c : Nat) (xs : List Sp), e = .returned (.tuple #[.slice A n c, .int .i64 N, .int .i64 E]) ∧ OpsO w' w.heap.size A n c xs ∧ opl xs = O ∧ Below w.heap.size w w'
theorem pr_bad {s : List UInt8} {w w' : World} {O : List Opx} {N E n e : Int} (h : (O, N, E) = (([] : List Opx), n, e)) (hb : Below w.heap.size w w') : Pr s w O N E (.returned (.tuple #[.slice none 0 0, .int .i64 n, .int .i64 e])) w' := by
  injection h with h1 h2
  injection h2 with h2 h3
  subst h1 h2 h3
  exact ⟨none, 0, 0, [], rfl, opsO_nil _ _, rfl, hb⟩
set_option maxRecDepth 20000 in
set_option maxHeartbeats 4000000 in
theorem rparse_any (s : List UInt8) (w : World) (hl : s.length ≤ 4611686018427387904) (hT : LaidT w) (O : List Opx) (N E : Int) (h : textL s = (O, N, E)) : Calls Tryz.prog 11 #[.string ⟨s.toArray⟩] w fun e w' => Pr s w O N E e w' := by
  by_cases hbig : 262144 < s.length
  · have hr : (O, N, E) = (([] : List Opx), (0 : Int), (5 : Int)) := by rw [← h, textL, if_pos hbig]
    have HR := Lib.hid hr
    obtain ⟨sb, hsb⟩ : ∃ b : ByteArray, ⟨s.toArray⟩ = b := ⟨_, rfl⟩
    have hsz : sb.size = s.length := by subst hsb; rfl
    have e1 : decide ((262144 : Int) < (sb.size : Int)) = true := decide_eq_true (by omega)
    have e2 : decide (262144 < sb.size) = true := decide_eq_true (by omega)
    rw [hsb]
    clear hr h hT hsb hsz
    go_enter Tryz.func11, Tryz.ntmps11
    go_wp2
    go_ret3
    exact pr_bad HR.out (Below.refl _ _)
  have hP : parseA [] (splitL 10 s) = (O, N, E) := by rw [← h, textL, if_neg hbig]
  obtain ⟨ws, hws⟩ : ∃ ws, splitL 10 s = ws := ⟨_, rfl⟩
  have hsp : ∀ wz, Calls Tryz.prog 28 #[.string ⟨s.toArray⟩, .int .u8 10] wz fun e w' => ∃ (A : Option Addr) (n d : Nat), e = .returned (.slice A n d) ∧ Ws wz w' A n d ws := fun wz => hws ▸ rsplit_any s 10 wz (by omega)
  have hne : ws ≠ [] := by rw [← hws]; exact splitL_ne 10 s
  have hle : ∀ z ∈ ws, z.length ≤ 262144 := fun z hz => by rw [← hws] at hz; have := split_each10 s z hz; omega
  rw [hws] at hP
  obtain ⟨sb, hsb⟩ : ∃ b : ByteArray, ⟨s.toArray⟩ = b := ⟨_, rfl⟩
  have hsz : sb.size = s.length := by subst hsb; rfl
  have e1 : decide ((262144 : Int) < (sb.size : Int)) = false := decide_eq_false (by omega)
  have e2 : decide (262144 < sb.size) = false := decide_eq_false (by omega)
  rw [hsb] at hsp ⊢
  have HSP := Lib.hid hsp
  have HP := Lib.hid hP
  have HNE := Lib.hid hne
  have HLE := Lib.hid hle
  have HT := Lib.hid hT
  clear h hT hsb hsz hP hsp hne hle hws hbig hl
  go_enter Tryz.func11, Tryz.ntmps11
  go_upto_region 6 with (go_at_call 28; (with_reducible refine (HSP.out _).mono ?_); rintro e w1 ⟨A, n, d, rfl, hw1⟩; have HW1 := Lib.hid hw1; clear hw1)
  have hln := HW1.out.len
  have hn1 : 0 < n := by
    rw [← hln]
    exact List.length_pos_iff.2 HNE.out
  have hnc := (own_rowT 16 HW1.out.own).nc
  have hcm := (own_rowT 16 HW1.out.own).cm
  unfold maxLen at hcm
  have HLN := Lib.hid hln
  have HQ0 : Hid (Pq w w1 A n d ws none 0 0 []) := Lib.hid ⟨HW1.out.own, opsO_nil _ _, HW1.out.b⟩
  clear hln e1 e2 HSP
  go_loopw [5, 19] (fun v5 ix wr => ∃ (i c : Nat) (B : Option Addr) (xs : List Sp), ix = .int .i64 i ∧ v5 = .slice B i c ∧ i < n ∧ i ≤ 256 ∧ Hid (Pq w wr A n d ws B i c xs) ∧ Hid (parseA (opl xs) (ws.drop i) = (O, N, E))) (fun _ ix _ => n - (intOf ix).toNat)
  case atStart => exact ⟨0, 0, none, [], rfl, rfl, hn1, by omega, HQ0, Lib.hid (by simpa [opl] using HP.out)⟩
  case round =>
    obtain ⟨i, c, B, xs, rfl, rfl, hin, hi256, HQ, HPA⟩ := hrel
    obtain ⟨ad, hA, hcT⟩ := rd_str (own_rowT 16 HQ.out.own) hin
    subst hA
    have hxl : (opl xs).length = i := by rw [opl_length]; exact HQ.out.ops.len
    have hil : i < ws.length := by rw [HLN.out]; exact hin
    have hdr : ws.drop i = wd ws i :: ws.drop (i + 1) := by rw [List.drop_eq_getElem_cons hil, wd_get ws i hil]
    obtain ⟨T, hTT⟩ : ∃ T, wd ws i = T := ⟨_, rfl⟩
    have hTl : T.length ≤ 262144 := by rw [← hTT, wd_get ws i hil]; exact HLE.out _ (List.getElem_mem hil)
    rw [hTT] at hcT hdr
    have hpa := HPA.out
    rw [hdr] at hpa
    obtain ⟨E0, O0, hE⟩ : ∃ E0 O0, oneL T = (E0, O0) := ⟨_, _, rfl⟩
    have HTq := Lib.hid (HT.out.below HQ.out.b)
    have HXL := Lib.hid hxl
    have HTL := Lib.hid hTl
    have hrl : (ws.drop (i + 1)).length = n - (i + 1) := by rw [List.length_drop, HLN.out]
    clear hTT hdr hxl hil
    by_cases hlast : i + 1 = n
    · have hrest : ws.drop (i + 1) = [] := List.eq_nil_of_length_eq_zero (by omega)
      have la : ((i : Int) == (n : Int) - 1) = true := by simp; omega
      have lb : decide ((i : Int) = (n : Int) - 1) = true := decide_eq_true (by omega)
      have lc : (i : Int) = (n : Int) - 1 := by omega
      have LC := Lib.hid lc
      clear lc
      by_cases hT0 : T = []
      · subst hT0
        have hr : (O, N, E) = (opl xs, (0 : Int), (0 : Int)) := by rw [← hpa, hrest, parseA, if_pos rfl]
        have HR := Lib.hid hr
        clear hr hpa hE
        go_wp2
        go_ret3
        have hh := HR.out
        injection hh with h1 h2
        injection h2 with h2 h3
        subst h1 h2 h3
        exact ⟨B, i, c, xs, rfl, HQ.out.ops, rfl, HQ.out.b⟩
      have hTe : T.isEmpty = false := by cases T with | nil => exact absurd rfl hT0 | cons a b => rfl
      have hTf : (T == []) = false := by simpa using hT0
      by_cases h256 : i = 256
      · have hr : (O, N, E) = (([] : List Opx), (i : Int) + 1, (3 : Int)) := by
          rw [← hpa, hrest, parseA, if_neg hT0, if_pos (by rw [HXL.out]; exact h256), h256]
          rfl
        have HR := Lib.hid hr
        have g1 : decide ((256 : Int) ≤ (i : Int)) = true := decide_eq_true (by omega)
        have g2 : decide (256 ≤ i) = true := decide_eq_true (by omega)
        clear h256 hr hpa hE hrl
        go_wp2
        go_ret3
        exact pr_bad HR.out HQ.out.b
      have g1 : decide ((256 : Int) ≤ (i : Int)) = false := decide_eq_false (by omega)
      have g2 : decide (256 ≤ i) = false := decide_eq_false (by omega)
      have g3 : i < 256 := by omega
      cases hv : Lib.validD T with
      | false =>
        have hE1 := one_bad hv
        have hr : (O, N, E) = (([] : List Opx), (i : Int) + 1, (1 : Int)) := by
          rw [← hpa, hrest, parseA, if_neg hT0, if_neg (by rw [HXL.out]; exact h256), hE1, HXL.out]
          rfl
        have HR := Lib.hid hr
        have HV : Hid (Lib.validD (⟨T.toArray⟩ : ByteArray).data.toList = false) := Lib.hid hv
        clear hr hpa hE hE1 hv h256
        go_wp2_with (go_at_call 29; (refine (Tryz.utf8_ValidString ⟨T.toArray⟩ _ (by show T.length ≤ _; have := HTL.out; omega) HTq.out.utf).mono ?_); rintro e w2 ⟨rfl, hb2⟩; rw [HV.out]; have HQ2 := Lib.hid (HQ.out.below hb2); have HT2 := Lib.hid (HTq.out.below hb2))
        go_ret3
        exact pr_bad HR.out HQ2.out.b
      | true =>
        have HONE := Lib.hid (fun wz hz => rone_o T wz hTl hv hz E0 O0 hE)
        have HV : Hid (Lib.validD (⟨T.toArray⟩ : ByteArray).data.toList = true) := Lib.hid hv
        clear hv
        by_cases h0 : E0 = 0
        · subst h0
          have hr : (O, N, E) = (([] : List Opx), (i : Int) + 1, (2 : Int)) := by
            rw [← hpa, hrest, parseA, if_neg hT0, if_neg (by rw [HXL.out]; exact h256), hE, HXL.out]
            rfl
          have HR := Lib.hid hr
          clear hr hpa hE h256 hTl
          go_wp2_with (first | (go_at_call 29; (refine (Tryz.utf8_ValidString ⟨T.toArray⟩ _ (by show T.length ≤ _; have := HTL.out; omega) HTq.out.utf).mono ?_); rintro e w2 ⟨rfl, hb2⟩; rw [HV.out]; have HQ2 := Lib.hid (HQ.out.below hb2); have HT2 := Lib.hid (HTq.out.below hb2)) | (go_at_call 30; (with_reducible refine (HONE.out _ HT2.out).mono ?_); rintro e w3 ⟨x, rfl, HXO, hso3, hb3⟩; have HQ3 := Lib.hid (HQ2.out.below hb3); have HSO3 := Lib.hid (hso3.mono HQ2.out.b.size); clear hso3))
          go_ret3
          exact pr_bad HR.out (HQ3.out.b.alloc HQ3.out.b.size _)
        · have hr : (O, N, E) = (([] : List Opx), (i : Int) + 1, E0) := by
            rw [← hpa, hrest, parseA, if_neg hT0, if_neg (by rw [HXL.out]; exact h256), hE, HXL.out]
            dsimp only
            rw [if_neg h0]
          have HR := Lib.hid hr
          have h0a : (E0 == 0) = false := by simpa using h0
          have h0b : decide (E0 = 0) = false := decide_eq_false h0
          have h0c : (E0 != 0) = true := by simpa using h0
          clear hr hpa hE h256 hTl
          go_wp2_with (first | (go_at_call 29; (refine (Tryz.utf8_ValidString ⟨T.toArray⟩ _ (by show T.length ≤ _; have := HTL.out; omega) HTq.out.utf).mono ?_); rintro e w2 ⟨rfl, hb2⟩; rw [HV.out]; have HQ2 := Lib.hid (HQ.out.below hb2); have HT2 := Lib.hid (HTq.out.below hb2)) | (go_at_call 30; (with_reducible refine (HONE.out _ HT2.out).mono ?_); rintro e w3 ⟨x, rfl, HXO, hso3, hb3⟩; have HQ3 := Lib.hid (HQ2.out.below hb3); have HSO3 := Lib.hid (hso3.mono HQ2.out.b.size); clear hso3))
          go_ret3
          exact pr_bad HR.out (HQ3.out.b.alloc HQ3.out.b.size _)
    · have hrne : ws.drop (i + 1) ≠ [] := fun h => by rw [h] at hrl; simp at hrl; omega
      obtain ⟨m', r', hrest⟩ : ∃ m' r', ws.drop (i + 1) = m' :: r' := by
        cases hd : ws.drop (i + 1) with
        | nil => exact absurd hd hrne
        | cons a b => exact ⟨a, b, rfl⟩
      have la : ((i : Int) == (n : Int) - 1) = false := by simp; omega
      have lb : decide ((i : Int) = (n : Int) - 1) = false := decide_eq_false (by omega)
      by_cases h256 : i = 256
      · have hr : (O, N, E) = (([] : List Opx), (i : Int) + 1, (3 : Int)) := by
          rw [← hpa, hrest, parseA, if_pos (by rw [HXL.out]; exact h256), h256]
          rfl
        have HR := Lib.hid hr
        have g1 : decide ((256 : Int) ≤ (i : Int)) = true := decide_eq_true (by omega)
        have g2 : decide (256 ≤ i) = true := decide_eq_true (by omega)
        clear h256 hr hpa hE hrl
        go_wp2
        go_ret3
        exact pr_bad HR.out HQ.out.b
      have g1 : decide ((256 : Int) ≤ (i : Int)) = false := decide_eq_false (by omega)
      have g2 : decide (256 ≤ i) = false := decide_eq_false (by omega)
      have g3 : i < 256 := by omega
      cases hv : Lib.validD T with
      | false =>
        have hE1 := one_bad hv
        have hr : (O, N, E) = (([] : List Opx), (i : Int) + 1, (1 : Int)) := by
          rw [← hpa, hrest, parseA, if_neg (by rw [HXL.out]; exact h256), hE1, HXL.out]
          rw [if_neg (by decide)]
        have HR := Lib.hid hr
        have HV : Hid (Lib.validD (⟨T.toArray⟩ : ByteArray).data.toList = false) := Lib.hid hv
        clear hr hpa hE hE1 hv h256
        go_wp2_with (go_at_call 29; (refine (Tryz.utf8_ValidString ⟨T.toArray⟩ _ (by show T.length ≤ _; have := HTL.out; omega) HTq.out.utf).mono ?_); rintro e w2 ⟨rfl, hb2⟩; rw [HV.out]; have HQ2 := Lib.hid (HQ.out.below hb2); have HT2 := Lib.hid (HTq.out.below hb2))
        go_ret3
        exact pr_bad HR.out HQ2.out.b
      | true =>
        have HONE := Lib.hid (fun wz hz => rone_o T wz hTl hv hz E0 O0 hE)
        have HV : Hid (Lib.validD (⟨T.toArray⟩ : ByteArray).data.toList = true) := Lib.hid hv
        clear hv
        by_cases h0 : E0 = 0
        · subst h0
          have hr : parseA (opl xs ++ [O0]) (ws.drop (i + 1)) = (O, N, E) := by
            rw [← hpa, parseA_ok _ _ _ hrne (by rw [HXL.out]; exact h256) (by rw [hE]), hE]
          have HR := Lib.hid hr
          clear hr hpa hE h256 hTl hrest hrne
          go_upto_region 15 with (first | (go_at_call 29; (refine (Tryz.utf8_ValidString ⟨T.toArray⟩ _ (by show T.length ≤ _; have := HTL.out; omega) HTq.out.utf).mono ?_); rintro e w2 ⟨rfl, hb2⟩; rw [HV.out]; have HQ2 := Lib.hid (HQ.out.below hb2); have HT2 := Lib.hid (HTq.out.below hb2)) | (go_at_call 30; (with_reducible refine (HONE.out _ HT2.out).mono ?_); rintro e w3 ⟨x, rfl, HXO, hso3, hb3⟩; have HQ3 := Lib.hid (HQ2.out.below hb3); have HSO3 := Lib.hid (hso3.mono HQ2.out.b.size); clear hso3))
          have hb4 : Below w3.heap.size w3 (w3.alloc (Obj.cells (spA x) 27)) := (Below.refl _ w3).alloc (Nat.le_refl _) _
          have hi4 : (w3.alloc (Obj.cells (spA x) 27)).heap[w3.heap.size]? = some (Obj.cells (spA x) 27 (0, 0)) := heap_alloc_new w3 _
          have HQ4 := Lib.hid (HQ3.out.below hb4)
          have HSO4 := Lib.hid (HSO3.out.below hb4)
          generalize w3.alloc _ = w4 at *
          obtain ⟨y0, y1, y2, y3, y4, y5, y6⟩ := seven_cells hi4
          have hb5 : Below w4.heap.size w4 (w4.alloc (Obj.cells (spA x) 27)) := (Below.refl _ w4).alloc (Nat.le_refl _) _
          have HQ5 := Lib.hid (HQ4.out.below hb5)
          have HSO5 := Lib.hid (HSO4.out.below hb5)
          have hlit := Lib.hid (lit_sp w4 x)
          go_wp2_with (at_builtin; (refine wpList_app slOp rfl _ _ rfl w.heap.size B i c (rowO xs) rfl HQ5.out.ops.own (some ⟨w4.heap.size, 0, none⟩) 1 1 (rowO [x]) rfl rfl hlit.out (rowO_one _) (by omega) HQ5.out.b.size ?_); intro B7 c7 w7 ho7 hg7 hA7; have HQ7 := Lib.hid (HQ5.out.app HSO5.out ho7 hg7); clear ho7 hg7 hA7)
          exact ⟨⟨i + 1, c7, B7, xs ++ [x], rfl, rfl, by omega, by omega, HQ7, Lib.hid (by rw [opl_snoc, (by first | exact HXO.out trivial | exact HXO.out rfl : x.o = O0)]; exact HR.out)⟩, by simp [intOf]; omega⟩
        · have hr : (O, N, E) = (([] : List Opx), (i : Int) + 1, E0) := by
            rw [← hpa, parseA_bad _ _ _ hrne (by rw [HXL.out]; exact h256) (by rw [hE]; exact h0), hE, HXL.out]
          have HR := Lib.hid hr
          have h0a : (E0 == 0) = false := by simpa using h0
          have h0b : decide (E0 = 0) = false := decide_eq_false h0
          have h0c : (E0 != 0) = true := by simpa using h0
          clear hr hpa hE h256 hTl
          go_wp2_with (first | (go_at_call 29; (refine (Tryz.utf8_ValidString ⟨T.toArray⟩ _ (by show T.length ≤ _; have := HTL.out; omega) HTq.out.utf).mono ?_); rintro e w2 ⟨rfl, hb2⟩; rw [HV.out]; have HQ2 := Lib.hid (HQ.out.below hb2); have HT2 := Lib.hid (HTq.out.below hb2)) | (go_at_call 30; (with_reducible refine (HONE.out _ HT2.out).mono ?_); rintro e w3 ⟨x, rfl, HXO, hso3, hb3⟩; have HQ3 := Lib.hid (HQ2.out.below hb3); have HSO3 := Lib.hid (hso3.mono HQ2.out.b.size); clear hso3))
          go_ret3
          exact pr_bad HR.out (HQ3.out.b.alloc HQ3.out.b.size _)
end Go.Proofs.YtaghecgjmkhpcaaGreatDoor
