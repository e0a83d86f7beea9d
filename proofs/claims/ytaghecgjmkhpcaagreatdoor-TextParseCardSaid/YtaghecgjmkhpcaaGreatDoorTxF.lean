/-
Parse of package text.
-/
import Derived.Test.YtaghecgjmkhpcaaGreatDoorTxE
namespace Go.Proofs.YtaghecgjmkhpcaaGreatDoor
set_option linter.unusedVariables false
set_option linter.unusedSimpArgs false
open Go Go.RowKit

/-- Parse on its way: the text, what was read, where the line begins, where the range stands. -/
structure PSt (w0 w : World) (sb : ByteArray) (pos fr : Nat) (A : Option Addr) (n c : Nat) (xs : List Sp) : Prop where
  (bs : w.heap[w0.heap.size]? = some (.cells #[.string sb] 9 (0, 0))) (bo : w.heap[w0.heap.size + 1]? = some (.cells #[.slice A n c] 22 (0, 0))) (bf : w.heap[w0.heap.size + 1 + 1]? = some (.cells #[.int .i64 (fr : Int)] 3 (0, 0)))
  (bi : w.heap[w0.heap.size + 1 + 1 + 1]? = some (.stringIter sb pos)) (ops : OpsO w (w0.heap.size + 4) A n c xs) (b : Below w0.heap.size w0 w) (sz : w0.heap.size + 4 ≤ w.heap.size)
theorem iterAt_grown (w : World) (k : Nat) (s : ByteArray) (pos : Nat) : w.grownBy (w.iterAt k s pos) (some k) :=
  ⟨rfl, rfl, rfl, by rw [Lib.iterAt_size]; exact Nat.le_refl _, fun j hj hne => Lib.iterAt_other w k j s pos (fun e => hne (by rw [e]))⟩
theorem PSt.iter {w0 w : World} {sb : ByteArray} {pos fr n c : Nat} {A : Option Addr} {xs : List Sp} (h : PSt w0 w sb pos fr A n c xs) (p : Nat) : PSt w0 (w.iterAt (w0.heap.size + 1 + 1 + 1) sb p) sb p fr A n c xs :=
  ⟨(Lib.iterAt_other _ _ _ _ _ (by omega)).trans h.bs, (Lib.iterAt_other _ _ _ _ _ (by omega)).trans h.bo, (Lib.iterAt_other _ _ _ _ _ (by omega)).trans h.bf, Lib.iterAt_heap _ _ _ _ _ h.bi, h.ops.low (iterAt_grown _ _ _ _) (by omega),
    Lib.below_iterAt h.b (by omega) _ _, by rw [Lib.iterAt_size]; exact h.sz⟩
theorem PSt.next {w0 w w' : World} {sb : ByteArray} {pos fr n c tt c' : Nat} {A A' : Option Addr} {xs : List Sp} {x : Sp} (h : PSt w0 w sb pos fr A n c xs) (ho : w'.heap[w0.heap.size + 1]? = some (.cells #[.slice A' (n + 1) c'] 22 (0, 0)))
    (hf : w'.heap[w0.heap.size + 1 + 1]? = some (.cells #[.int .i64 ((tt : Int) + 1)] 3 (0, 0))) (hops : OpsO w' (w0.heap.size + 4) A' (n + 1) c' (xs ++ [x])) (hk : KeptBut w w' (w0.heap.size + 4) (w0.heap.size + 1) (w0.heap.size + 1 + 1)) : PSt w0 w' sb pos (tt + 1) A' (n + 1) c' (xs ++ [x]) :=
  ⟨(hk.block _ (by omega) (by omega) (by omega)).trans h.bs, ho, by rw [hf]; simp, (hk.block _ (by omega) (by omega) (by omega)).trans h.bi, hops, hk.below h.b (by omega) (by omega) (by omega), Nat.le_trans h.sz hk.size⟩
theorem PSt.pos {w0 w : World} {sb : ByteArray} {pos fr n c : Nat} {A : Option Addr} {xs : List Sp} (h : PSt w0 w sb pos fr A n c xs) : w.iterPos (w0.heap.size + 1 + 1 + 1) = pos := by
  simp only [World.iterPos, h.bi]
theorem dec_nl (l : List UInt8) (h : l.getD 0 0 = 10) : Lib.decodeL l = (10, 1) := by
  rw [Lib.decodeL_N, h]
  simp [Lib.decodeN]
theorem line_step {s : List UInt8} {fr pos : Nat} (h1 : fr ≤ pos) (h2 : pos < s.length) (h3 : (s.drop pos).getD 0 0 = 10) (h4 : ∀ x ∈ (s.drop fr).take (pos - fr), x ≠ 10) : splitL 10 (s.drop fr) = (s.drop fr).take (pos - fr) :: splitL 10 (s.drop (pos + 1)) := by
  have e : s.drop fr = (s.drop fr).take (pos - fr) ++ 10 :: s.drop (pos + 1) := by
    have h5 : s.drop pos = 10 :: s.drop (pos + 1) := by
      rw [List.drop_eq_getElem_cons h2]
      congr 1
      rw [List.getD_eq_getElem?_getD, List.getElem?_drop, Nat.add_zero, List.getElem?_eq_getElem h2] at h3
      simpa using h3
    rw [← h5]
    have : s.drop pos = (s.drop fr).drop (pos - fr) := by rw [List.drop_drop]; congr 1; omega
    rw [this, List.take_append_drop]
  have h6 := splitL_app 10 _ (s.drop (pos + 1)) h4
  rw [← e] at h6
  exact h6
theorem take_more {s : List UInt8} {fr pos k : Nat} (h1 : fr ≤ pos) (h4 : ∀ x ∈ (s.drop fr).take (pos - fr), x ≠ 10) (h5 : ∀ j, j < k → (s.drop pos).getD j 0 ≠ 10) : ∀ x ∈ (s.drop fr).take (pos + k - fr), x ≠ 10 := by
  intro x hx
  have e : (s.drop fr).take (pos + k - fr) = (s.drop fr).take (pos - fr) ++ (s.drop pos).take k := by
    have : s.drop pos = (s.drop fr).drop (pos - fr) := by rw [List.drop_drop]; congr 1; omega
    rw [this, show pos + k - fr = (pos - fr) + k by omega, List.take_add]
  rw [e] at hx
  rcases List.mem_append.1 hx with hx | hx
  · exact h4 x hx
  · obtain ⟨j, hj, rfl⟩ := List.getElem_of_mem hx
    rw [List.length_take] at hj
    rw [List.getElem_take]
    have := h5 j (by omega)
    rw [List.getD_eq_getElem?_getD, List.getElem?_eq_getElem (by omega)] at this
    exact this
def ParseP (s : List UInt8) (w : World) (e : Ending) (w' : World) : Prop :=
  ∃ (A : Option Addr) (n c : Nat) (xs : List Sp), e = .returned (.tuple #[.slice A n c, .int .i64 (textL s).2.1, .int .i64 (textL s).2.2]) ∧ OpsO w' w.heap.size A n c xs ∧ opl xs = (textL s).1 ∧ Below w.heap.size w w'
theorem opsO_nil (w : World) (base : Nat) : OpsO w base none 0 0 [] := ⟨World.ownsRow_nil _ _ _ _, fun x hx => by cases hx⟩
theorem OpsO.mono {w : World} {base base' n c : Nat} {A : Option Addr} {xs : List Sp} (h : OpsO w base A n c xs) (hb : base' ≤ base) : OpsO w base' A n c xs := ⟨own_mono h.own hb, fun x hx => (h.rows x hx).mono hb⟩
theorem parse_bad {s : List UInt8} {w w' : World} {n e : Int} (h : textL s = ([], n, e)) (hb : Below w.heap.size w w') : ParseP s w (.returned (.tuple #[.slice none 0 0, .int .i64 n, .int .i64 e])) w' :=
  ⟨none, 0, 0, [], by rw [h], opsO_nil _ _, by rw [h]; rfl, hb⟩
theorem opl_snoc (xs : List Sp) (x : Sp) : opl (xs ++ [x]) = opl xs ++ [x.o] := by simp [opl]
set_option maxRecDepth 20000 in
set_option maxHeartbeats 4000000 in
theorem parse_any (s : List UInt8) (w : World) (hl : s.length ≤ 4611686018427387904) (hT : LaidT w) : Calls Tryz.prog 10 #[.string ⟨s.toArray⟩] w fun e w' => ParseP s w e w' := by
  obtain ⟨sb, hsb⟩ : ∃ b : ByteArray, ⟨s.toArray⟩ = b := ⟨_, rfl⟩
  have hsz : sb.size = s.length := by subst hsb; rfl
  by_cases hbig : 262144 < s.length
  · have e1 : decide ((262144 : Int) < (sb.size : Int)) = true := decide_eq_true (by omega)
    have HE := Lib.hid (show textL s = ([], 0, 5) from by unfold textL; rw [if_pos hbig])
    have HZ := Lib.hid hsz
    rw [hsb]
    clear hsb hbig hsz
    go_enter Tryz.func10, Tryz.ntmps10
    go_wp2
    go_ret3
    exact parse_bad HE.out ((Below.refl _ w).alloc (Nat.le_refl _) _)
  · have e1 : decide ((262144 : Int) < (sb.size : Int)) = false := decide_eq_false (by omega)
    have HT := Lib.hid hT
    have HBIG := Lib.hid (show s.length ≤ 262144 by omega)
    have HSB := Lib.hid hsb
    have HZ := Lib.hid hsz
    obtain ⟨R, hR⟩ : ∃ R, textL s = R := ⟨_, rfl⟩
    have hR2 : parseA [] (splitL 10 s) = R := by
      rw [← hR]
      unfold textL
      rw [if_neg hbig]
    have HR := Lib.hid hR
    have HR2 := Lib.hid hR2
    rw [hsb]
    clear hsb hbig hsz hT hR hR2
    go_enter Tryz.func10, Tryz.ntmps10
    go_wp2
    have hst0 : PSt w ((((w.alloc (.cells #[.string sb] 9)).alloc (.cells #[.slice none 0 0] 22)).alloc (.cells #[.int .i64 0] 3)).iter sb 0) sb 0 0 none 0 0 [] := by
      have a1 := alx_new w (.cells #[.string sb] 9) rfl
      have a2 := alx_new (w.alloc (.cells #[.string sb] 9)) (.cells #[.slice none 0 0] 22) (k := w.heap.size + 1) (by simp)
      have a3 := alx_new ((w.alloc (.cells #[.string sb] 9)).alloc (.cells #[.slice none 0 0] 22)) (.cells #[.int .i64 0] 3) (k := w.heap.size + 1 + 1) (by simp)
      have a4 := alx_new (((w.alloc (.cells #[.string sb] 9)).alloc (.cells #[.slice none 0 0] 22)).alloc (.cells #[.int .i64 0] 3)) (.stringIter sb 0) (k := w.heap.size + 1 + 1 + 1) (by simp)
      refine ⟨alx_keep (alx_keep (alx_keep a1 _) _) _, alx_keep (alx_keep a2 _) _, alx_keep a3 _, a4, opsO_nil _ _, ?_, by simp [World.iter]⟩
      exact ((((Below.refl _ w).alloc (Nat.le_refl _) _).alloc (by simp) _).alloc (by simp; omega) _).alloc (by simp; omega) _
    have HST0 := Lib.hid hst0
    clear hst0
    go_loopw [8] (fun v8 wr => ∃ (pos fr : Nat) (A : Option Addr) (n c : Nat) (xs : List Sp), PSt w wr sb pos fr A n c xs ∧ fr ≤ pos ∧ fr ≤ s.length ∧ n ≤ 256 ∧ Hid (parseA (opl xs) (splitL 10 (s.drop fr)) = R) ∧ Hid (∀ x ∈ (s.drop fr).take (pos - fr), x ≠ 10)) (fun _ wr => s.length - wr.iterPos (w.heap.size + 1 + 1 + 1))
    case atStart => exact ⟨0, 0, none, 0, 0, [], HST0.out, Nat.le_refl _, Nat.zero_le _, Nat.zero_le _, Lib.hid (by simpa [opl] using HR2.out), Lib.hid (by simp)⟩
    case round =>
      obtain ⟨pos, fr, A, n, c, xs, hst, hfp, hfs, hn6, HP, HNO⟩ := hrel
      have HST := Lib.hid hst
      have hxl : (opl xs).length = n := by rw [opl_length]; exact hst.ops.len
      have HXL := Lib.hid hxl
      clear hst hxl
      have hzz := HZ.out
      by_cases hp : pos < sb.size
      · have hps : pos < s.length := by omega
        have hnx := fun ty => Lib.run_next_any_at (P := Tryz.prog) wr (w.heap.size + 1 + 1 + 1) sb pos ty HST.out.bi hp
        have hd : Utf8.decode sb pos = Lib.decodeL (s.drop pos) := by rw [← HSB.out]; exact decode_drop s pos
        simp only [hd] at hnx
        have hne : s.drop pos ≠ [] := by
          intro h
          have := congrArg List.length h
          rw [List.length_drop] at this
          simp at this
          omega
        have h10 := dec_ten (s.drop pos) hne
        have hnl := dec_nl (s.drop pos)
        have hwd := Lib.decodeL_width (s.drop pos)
        have hpp : ∀ k, 1 ≤ k → s.length - (pos + k) < s.length - pos := fun k hk => by omega
        obtain ⟨r, hr⟩ : ∃ r, (Lib.decodeL (s.drop pos)).1 = r := ⟨_, rfl⟩
        obtain ⟨k, hk⟩ : ∃ k, (Lib.decodeL (s.drop pos)).2 = k := ⟨_, rfl⟩
        rw [hr, hk] at hnx
        rw [hr, hk] at h10
        rw [hk] at hwd
        have hrk : (s.drop pos).getD 0 0 = 10 → r = 10 ∧ k = 1 := fun h => by
          have := hnl h
          rw [Prod.ext_iff, hr, hk] at this
          exact this
        have HSTI := Lib.hid (HST.out.iter (pos + k))
        generalize wr.iterAt (w.heap.size + 1 + 1 + 1) sb (pos + k) = w1 at *
        have H10 := Lib.hid h10
        have HRK := Lib.hid hrk
        have HPP := Lib.hid hpp
        have HPOS := Lib.hid HST.out.pos
        clear h10 hrk hnl hr hk hd hne hpp hzz
        by_cases c10 : r = 10
        · have h0 : (s.drop pos).getD 0 0 = 10 := H10.out.1.1 c10
          obtain ⟨_, rfl⟩ := HRK.out h0
          have e1 : ((r : Int) == 10) = true := by rw [c10]; rfl
          have hstep := line_step hfp hps h0 HNO.out
          have hpar := HP.out
          rw [hstep] at hpar
          have HPAR := Lib.hid hpar
          have HC10 := Lib.hid c10
          clear h0 hstep hpar c10
          have HBO := Lib.hid HSTI.out.bo
          have cO1 := cell_of_one HSTI.out.bo
          by_cases hn : n = 256
          · subst hn
            have hR := parseA_many (opl xs) ((s.drop fr).take (pos - fr)) _ (splitL_ne 10 (s.drop (pos + 1))) HXL.out
            rw [HPAR.out] at hR
            have HRR := Lib.hid (HR.out.trans hR)
            clear hR
            go_wp2_with (first
              | (go_at_call 25; (with_reducible refine (next_full (w.heap.size + 4) w.heap.size (w.heap.size + 1) (w.heap.size + 1 + 1) s fr A c pos _ HBO.out).mono ?_); rintro e wz ⟨rfl, rfl⟩)
              | (go_at_call 27; (refine (fault_any _ _ _ _ _ (by omega)).mono ?_); rintro e wz ⟨rfl, rfl⟩))
            go_ret3
            exact parse_bad HRR.out HSTI.out.b
          · have HN6 := Lib.hid (show n < 256 by omega)
            have HFT := Lib.hid hfp
            have HTS := Lib.hid (show pos ≤ s.length by omega)
            have HSL := HBIG
            have hbs := HSTI.out.bs
            rw [← HSB.out] at hbs
            have HBS := Lib.hid hbs
            obtain ⟨E, O, hE⟩ : ∃ E O, oneL ((s.drop fr).take (pos - fr)) = (E, O) := ⟨_, _, rfl⟩
            have HE := Lib.hid hE
            clear hE hbs
            have hna : ¬ (opl xs).length = 256 := by rw [HXL.out]; exact hn
            by_cases h0 : E = 0
            · have hR := parseA_ok (opl xs) ((s.drop fr).take (pos - fr)) _ (splitL_ne 10 (s.drop (pos + 1))) hna (by rw [HE.out]; exact h0)
              rw [HPAR.out, HE.out] at hR
              have HRR := Lib.hid hR
              have e2 : (E == 0) = true := by simp [h0]
              have HE0 := Lib.hid h0
              clear hR hna h0
              have STT := HSTI
              go_wp2_with (first
                | (go_at_call 25; (with_reducible refine (next_any (w.heap.size + 4) w.heap.size (w.heap.size + 1) (w.heap.size + 1 + 1) s fr pos A n c xs _ (by omega) (by omega) (by omega) (by omega) STT.out.sz HBS.out STT.out.bo STT.out.bf STT.out.ops HFT.out HTS.out HSL.out HN6.out (HT.out.below STT.out.b) E O HE.out).mono ?_); rintro e w2 ⟨rfl, x, A2, c2, HX, hbo, hbf, hops, hkb⟩; have hst2 := STT.out.next hbo hbf hops hkb; have HST2 := Lib.hid hst2; have cO := cell_of_one hst2.bo; have cF := cell_of_one hst2.bf; have cS := cell_of_one hst2.bs; clear hbo hbf hops hkb hst2))
              refine ⟨⟨pos + 1, pos + 1, A2, n + 1, c2, xs ++ [x], HST2.out, Nat.le_refl _, by omega, by omega, Lib.hid ?_, Lib.hid (by simp)⟩, ?_⟩
              · rw [opl_snoc, HX.out HE0.out]
                exact HRR.out.symm
              · rw [HST2.out.pos, HPOS.out]
                exact HPP.out 1 (by omega)
            · have hR := parseA_bad (opl xs) ((s.drop fr).take (pos - fr)) _ (splitL_ne 10 (s.drop (pos + 1))) hna (by rw [HE.out]; exact h0)
              rw [HPAR.out, HE.out, HXL.out] at hR
              have HRR := Lib.hid (HR.out.trans hR)
              have e2 : (E == 0) = false := by simp [h0]
              have hE3 : ¬ E = 3 := by
                rcases one_cases ((s.drop fr).take (pos - fr)) with h | h | h
                · rw [HE.out] at h
                  have := congrArg Prod.fst h.1
                  exact absurd this h0
                · rw [HE.out] at h
                  have : E = 1 := congrArg Prod.fst h
                  omega
                · rw [HE.out] at h
                  have : E = 4 := congrArg Prod.fst h
                  omega
              clear hR hna h0
              have STT := HSTI
              go_wp2_with (first
                | (go_at_call 25; (with_reducible refine (next_any (w.heap.size + 4) w.heap.size (w.heap.size + 1) (w.heap.size + 1 + 1) s fr pos A n c xs _ (by omega) (by omega) (by omega) (by omega) STT.out.sz HBS.out STT.out.bo STT.out.bf STT.out.ops HFT.out HTS.out HSL.out HN6.out (HT.out.below STT.out.b) E O HE.out).mono ?_); rintro e w2 ⟨rfl, x, A2, c2, HX, hbo, hbf, hops, hkb⟩; have hst2 := STT.out.next hbo hbf hops hkb; have HST2 := Lib.hid hst2; have cO := cell_of_one hst2.bo; have cF := cell_of_one hst2.bf; have cS := cell_of_one hst2.bs; clear hbo hbf hops hkb hst2)
                | (go_at_call 27; (refine (fault_any _ _ _ _ _ (by omega)).mono ?_); rintro e wz ⟨rfl, rfl⟩; rw [if_neg hE3]))
              go_ret3
              have hb := HST2.out.b
              refine parse_bad ?_ hb
              rw [HRR.out]
        · have h0 : ¬ (s.drop pos).getD 0 0 = 10 := fun h => c10 (H10.out.1.2 h)
          have e1 : ((r : Int) == 10) = false := by simp; omega
          have H0 := Lib.hid h0
          clear c10 h0
          go_wp2
          refine ⟨⟨pos + k, fr, A, n, c, xs, HSTI.out, by omega, hfs, hn6, HP, Lib.hid ?_⟩, ?_⟩
          · refine take_more hfp HNO.out fun j hj => ?_
            rcases Nat.eq_zero_or_pos j with rfl | hj1
            · exact H0.out
            · exact H10.out.2 j hj1 hj
          · rw [HSTI.out.pos, HPOS.out]
            exact HPP.out k hwd
      · have hend := fun ty => Lib.run_next_end_at (P := Tryz.prog) wr (w.heap.size + 1 + 1 + 1) sb pos ty HST.out.bi hp
        have cO1 := cell_of_one HST.out.bo
        have cF1 := cell_of_one HST.out.bf
        have cS1 := cell_of_one HST.out.bs
        have hno : ∀ x ∈ s.drop fr, x ≠ 10 := by
          have h := HNO.out
          rwa [List.take_of_length_le (by rw [List.length_drop]; omega)] at h
        have HN2 := Lib.hid hno
        clear hno
        by_cases hlt : fr < sb.size
        · have e1 : decide ((fr : Int) < (sb.size : Int)) = true := decide_eq_true (by omega)
          have hsp := splitL_word 10 (s.drop fr) HN2.out
          have hlne : s.drop fr ≠ [] := by
            intro h
            have := congrArg List.length h
            rw [List.length_drop] at this
            simp at this
            omega
          have hpar := HP.out
          rw [hsp, parseA, if_neg hlne, HXL.out] at hpar
          have HPAR := Lib.hid hpar
          clear hsp hpar hlne
          have HBO := Lib.hid HST.out.bo
          by_cases hn : n = 256
          · subst hn
            have hR := HPAR.out
            rw [if_pos rfl] at hR
            have HRR := Lib.hid (HR.out.trans hR.symm)
            clear hR hzz
            go_wp2_with (first
              | (go_at_call 25; (with_reducible refine (next_full (w.heap.size + 4) w.heap.size (w.heap.size + 1) (w.heap.size + 1 + 1) s fr A c sb.size _ HBO.out).mono ?_); rintro e wz ⟨rfl, rfl⟩)
              | (go_at_call 27; (refine (fault_any _ _ _ _ _ (by omega)).mono ?_); rintro e wz ⟨rfl, rfl⟩))
            go_ret3
            exact parse_bad HRR.out HST.out.b
          · have HN6 := Lib.hid (show n < 256 by omega)
            have HFT := Lib.hid (show fr ≤ sb.size by omega)
            have HTS := Lib.hid (show sb.size ≤ s.length by omega)
            have HSL := HBIG
            have hbs := HST.out.bs
            rw [← HSB.out] at hbs
            have HBS := Lib.hid hbs
            obtain ⟨E, O, hE⟩ : ∃ E O, oneL (s.drop fr) = (E, O) := ⟨_, _, rfl⟩
            have HEE := Lib.hid hE
            have htk : (s.drop fr).take (sb.size - fr) = s.drop fr := List.take_of_length_le (by rw [List.length_drop]; omega)
            have HE := Lib.hid (show oneL ((s.drop fr).take (sb.size - fr)) = (E, O) by rw [htk]; exact hE)
            have hR := HPAR.out
            rw [if_neg hn, hE] at hR
            have HRR := Lib.hid (HR.out.trans hR.symm)
            have hEc : E = 0 ∨ (E ≠ 0 ∧ ¬ E = 3) := by
              rcases one_cases (s.drop fr) with h | h | h
              · rw [hE] at h
                exact .inl (congrArg Prod.fst h.1)
              · rw [hE] at h
                have : E = 1 := congrArg Prod.fst h
                omega
              · rw [hE] at h
                have : E = 4 := congrArg Prod.fst h
                omega
            clear hE hbs htk hR hzz
            have STT := HST
            rcases hEc with h0 | ⟨h0, hE3⟩
            · have e2 : (E == 0) = true := by simp [h0]
              have HE0 := Lib.hid h0
              clear h0
              go_wp2_with (first
                | (go_at_call 25; (with_reducible refine (next_any (w.heap.size + 4) w.heap.size (w.heap.size + 1) (w.heap.size + 1 + 1) s fr sb.size A n c xs _ (by omega) (by omega) (by omega) (by omega) STT.out.sz HBS.out STT.out.bo STT.out.bf STT.out.ops HFT.out HTS.out HSL.out HN6.out (HT.out.below STT.out.b) E O HE.out).mono ?_); rintro e w2 ⟨rfl, x, A2, c2, HX, hbo, hbf, hops, hkb⟩; have hst2 := STT.out.next hbo hbf hops hkb; have HST2 := Lib.hid hst2; have cO := cell_of_one hst2.bo; have cF := cell_of_one hst2.bf; have cS := cell_of_one hst2.bs; clear hbo hbf hops hkb hst2)
                | (go_at_call 27; (refine (fault_any _ _ _ _ _ (by omega)).mono ?_); rintro e wz ⟨rfl, rfl⟩))
              go_ret3
              have hb := HST2.out.b
              refine parse_bad ?_ hb
              rw [HRR.out]
              simp [HE0.out]
            · have e2 : (E == 0) = false := by simp [h0]
              have HE0 := Lib.hid h0
              clear h0
              go_wp2_with (first
                | (go_at_call 25; (with_reducible refine (next_any (w.heap.size + 4) w.heap.size (w.heap.size + 1) (w.heap.size + 1 + 1) s fr sb.size A n c xs _ (by omega) (by omega) (by omega) (by omega) STT.out.sz HBS.out STT.out.bo STT.out.bf STT.out.ops HFT.out HTS.out HSL.out HN6.out (HT.out.below STT.out.b) E O HE.out).mono ?_); rintro e w2 ⟨rfl, x, A2, c2, HX, hbo, hbf, hops, hkb⟩; have hst2 := STT.out.next hbo hbf hops hkb; have HST2 := Lib.hid hst2; have cO := cell_of_one hst2.bo; have cF := cell_of_one hst2.bf; have cS := cell_of_one hst2.bs; clear hbo hbf hops hkb hst2)
                | (go_at_call 27; (refine (fault_any _ _ _ _ _ (by omega)).mono ?_); rintro e wz ⟨rfl, rfl⟩; rw [if_neg hE3]))
              go_ret3
              have hb := HST2.out.b
              refine parse_bad ?_ hb
              rw [HRR.out]
              simp [HE0.out]
        · have e1 : decide ((fr : Int) < (sb.size : Int)) = false := decide_eq_false (by omega)
          have hd0 : s.drop fr = [] := List.drop_eq_nil_of_le (by omega)
          have hpar := HP.out
          rw [hd0, parse_nil] at hpar
          have HRR := Lib.hid (HR.out.trans hpar.symm)
          clear hpar hd0 hzz
          go_wp2
          go_ret3
          exact ⟨A, n, c, xs, by rw [HRR.out]; rfl, HST.out.ops.mono (by omega), by rw [HRR.out], HST.out.b⟩
end Go.Proofs.YtaghecgjmkhpcaaGreatDoor
