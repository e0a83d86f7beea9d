/-
Packets, the plain laws: what is read is put as it was; a beginning; padding. No function of the program is spoken of.
-/
import Derived.Test.YtnkclbaeamcplaaRtpP
namespace Go.Proofs.Ytnkclbaeamcplaa
set_option linter.unusedVariables false
set_option linter.unusedSimpArgs false
open Go Go.RowKit

theorem byte_part (l : List UInt8) (a : Nat) (h : a < l.length) : [UInt8.ofNat (byteN l a)] = part l a 1 := by
  unfold byteN part
  rw [List.drop_eq_getElem_cons h, List.take_succ_cons, List.take_zero, List.getElem?_eq_getElem h, Option.getD_some, UInt8.ofNat_toNat]
theorem csL_part (l : List UInt8) (a m : Nat) (h : a + 4 * m ≤ l.length) : (csG l a m).flatMap (enc 4) = part l a (4 * m) := by
  induction m generalizing a with
  | zero => simp [csG, part]
  | succ m ih =>
    rw [csG_cons, List.flatMap_cons, ih (a + 4) (by omega), enc_part l a 4 a 4 rfl rfl (by omega) (by omega) (by omega), part_join]
    congr 1; omega
theorem zeros_of_all (l : List UInt8) (h : l.all (fun y => y == 0) = true) : l = List.replicate l.length 0 := by
  induction l with
  | nil => rfl
  | cons x l ih =>
    rw [List.all_cons, Bool.and_eq_true] at h
    have hx : x = 0 := by simpa using h.1
    rw [List.length_cons, List.replicate_succ, hx, ← ih h.2]
/-- The end of a packet: its padding. -/
theorem pad_end {b0 : Nat} {r : List UInt8} {k : Nat} (h : padT b0 r = some k) : k ≤ r.length ∧ k ≤ 255 ∧ (b0 / 32 % 2 = 0 ↔ k = 0) ∧ r.drop (r.length - k) = padL k := by
  unfold padT at h
  split at h
  · injection h with h
    subst h
    refine ⟨Nat.zero_le _, by omega, by simp_all, ?_⟩
    simp [padL]
  split at h
  · cases h
  split at h
  · cases h
  split at h
  · injection h with h
    rename_i h1 h2 h3 h4
    subst h
    have h255 : padX r < 256 := UInt8.toNat_lt _
    refine ⟨by omega, by omega, by omega, ?_⟩
    obtain ⟨k, hk⟩ : ∃ k, padX r = k + 1 := ⟨padX r - 1, by omega⟩
    rw [hk] at h4 h3 ⊢
    have hz := zeros_of_all _ h4
    have hl : ((r.drop (r.length - (k + 1))).take k).length = k := by rw [List.length_take, List.length_drop]; omega
    rw [show k + 1 - 1 = k from rfl, hl] at hz
    unfold padL
    rw [if_pos (by omega), Int.toNat_natCast, show k + 1 - 1 = k from rfl, ← hz]
    have hb := byte_part r (r.length - 1) (by omega)
    have hx : byteN r (r.length - 1) = k + 1 := hk
    rw [hx] at hb
    rw [hb]
    unfold part
    have : (r.drop (r.length - 1)) = (r.drop (r.length - (k + 1))).drop k := by rw [List.drop_drop]; congr 1; omega
    rw [this]
    have h1' : ((r.drop (r.length - (k + 1))).drop k).take 1 = (r.drop (r.length - (k + 1))).drop k := List.take_of_length_le (by rw [List.length_drop, List.length_drop]; omega)
    rw [h1', List.take_append_drop]
  · cases h
theorem look_bytes {l : List UInt8} (h : lookE l = 0) : frmA l = headP (getP l) ∧ (getP l).pad = (l.length - lookT l : Nat) := by
  have hg : getP l = ⟨decide (128 ≤ byteN l 1), (byteN l 1 % 128 : Nat), getN l 2 2, getN l 4 4, getN l 8 4, csL l (nCs l), exB l, pfG l, exG l, plG l, (l.length - lookT l : Nat)⟩ := by unfold getP; rw [if_pos h]
  obtain ⟨l5, l12, _, _, hf, _⟩ := look_ok h
  rw [hg]
  refine ⟨?_, rfl⟩
  show _ = 12 + 4 * (csL l (nCs l)).length + (if exB l then 4 + (exG l).length else 0)
  rw [csL_length]
  cases hb : exB l
  · have hx : frmA l = atP l := by unfold frmA; rw [hb]; rfl
    rw [hx]; rfl
  · have hx : frmA l = atP l + 4 + 4 * getN l (atP l + 2 : Nat) 2 := by unfold frmA; rw [hb]; rfl
    have hy : extA l = atP l + 4 := by unfold extA; rw [hb]; rfl
    have hz : (exG l).length = frmA l - extA l := by unfold exG; rw [hb, if_pos rfl, List.length_take, List.length_drop]; omega
    have hq : atP l = 12 + 4 * nCs l := rfl
    rw [if_pos rfl, hz, hy]
    omega
/-- What is read may be, and is put as it was. -/
theorem put_get5 {l : List UInt8} (h : lookE l = 0) : mayP (getP l) = true ∧ pktL (getP l) = l ∧ errP (getP l) = 0 := by
  obtain ⟨hf, hpd⟩ := look_bytes h
  have hg : getP l = ⟨decide (128 ≤ byteN l 1), (byteN l 1 % 128 : Nat), getN l 2 2, getN l 4 4, getN l 8 4, csL l (nCs l), exB l, pfG l, exG l, plG l, (l.length - lookT l : Nat)⟩ := by unfold getP; rw [if_pos h]
  obtain ⟨l5, l12, hv, hfb, hfl, k, hk, hkl, hT⟩ := look_ok h
  obtain ⟨e1, e2, e3, e4⟩ := pad_end hk
  have hb0 := byteN_lt l 0
  have hb1 := byteN_lt l 1
  have hpad : (getP l).pad = (k : Int) := by rw [hpd, hT]; congr 1; omega
  have hcn : (getP l).cs.length = nCs l := by rw [hg]; exact csL_length l _
  have hhx : (getP l).hx = exB l := by rw [hg]
  have hnl := nCs_lt l
  have hsec : secN (getP l) = byteN l 1 := by
    rw [hg]; unfold secN
    simp only [decide_eq_true_eq]
    split <;> omega
  have hm : mayP (getP l) = true := by
    unfold mayP
    rw [hsec, hfb, hcn, hpad]
    simp only [Bool.and_eq_true, decide_eq_true_eq, Bool.not_false, true_and]
    refine ⟨by rw [hg]; simp only; omega, by omega, ?_⟩
    rw [hg]
    show (exG l).length % 4 = 0 ∧ (exB l = true ∨ (exG l = [] ∧ pfG l = 0))
    unfold exG pfG
    cases hb : exB l
    · simp
    · refine ⟨?_, .inl rfl⟩
      have hx : frmA l = atP l + 4 + 4 * getN l (atP l + 2 : Nat) 2 := by unfold frmA; rw [hb]; rfl
      have hy : extA l = atP l + 4 := by unfold extA; rw [hb]; rfl
      rw [if_pos rfl, List.length_take, List.length_drop]
      omega
  have hfirst : firstN (getP l) = byteN l 0 := by
    unfold firstN
    rw [hcn, hhx, hpad]
    have q1 : nCs l = byteN l 0 % 16 := rfl
    have q2 : exB l = decide (byteN l 0 / 16 % 2 = 1) := rfl
    rw [q1, q2]
    simp only [decide_eq_true_eq]
    by_cases h16 : byteN l 0 / 16 % 2 = 1
    · rw [if_pos h16]; split <;> omega
    · rw [if_neg h16]; split <;> omega
  have hL : pktL (getP l) = l := by
    have hhd : hdP (getP l) (decide (0 < (getP l).pad)) = l.take (frmA l) := by
      have hx0 : hd0 (getP l) (decide (0 < (getP l).pad)) = byteN l 0 := by rw [← hfirst]; unfold hd0 firstN; simp only [decide_eq_true_eq]
      unfold hdP
      rw [hx0, hsec]
      have c1 : [UInt8.ofNat (byteN l 0), UInt8.ofNat (byteN l 1)] = l.take 2 := by
        rw [show [UInt8.ofNat (byteN l 0), UInt8.ofNat (byteN l 1)] = [UInt8.ofNat (byteN l 0)] ++ [UInt8.ofNat (byteN l 1)] from rfl, byte_part l 0 (by omega), byte_part l 1 (by omega), part_join]
        simp [part]
      have c2 : enc 2 (getP l).sq = part l 2 2 := by rw [hg]; exact enc_part l 2 2 2 2 rfl rfl (by omega) (by omega) (by omega)
      have c3 : enc 4 (getP l).tm = part l 4 4 := by rw [hg]; exact enc_part l 4 4 4 4 rfl rfl (by omega) (by omega) (by omega)
      have c4 : enc 4 (getP l).ss = part l 8 4 := by rw [hg]; exact enc_part l 8 4 8 4 rfl rfl (by omega) (by omega) (by omega)
      have hat : atP l ≤ frmA l := by have := at_le_ext l; have := ext_le_frm l; omega
      have q3 : atP l = 12 + 4 * nCs l := rfl
      have c5 : (getP l).cs.flatMap (enc 4) = part l 12 (4 * nCs l) := by rw [hg]; exact csL_part l 12 (nCs l) (by omega)
      rw [c1, c2, c3, c4, c5, ← List.append_assoc, take_part, ← List.append_assoc, take_part, ← List.append_assoc, take_part, ← List.append_assoc, take_part]
      rw [show 2 + 2 + 4 + 4 + 4 * nCs l = atP l by omega]
      unfold extL
      rw [hhx]
      cases hb : exB l
      · have hx : frmA l = atP l := by unfold frmA; rw [hb]; rfl
        rw [hx]; simp
      · have hx : frmA l = atP l + 4 + 4 * getN l (atP l + 2 : Nat) 2 := by unfold frmA; rw [hb]; rfl
        have hy : extA l = atP l + 4 := by unfold extA; rw [hb]; rfl
        have d1 : (getP l).pf = getN l (atP l : Nat) 2 := by rw [hg]; show pfG l = _; unfold pfG; rw [hb]; rfl
        have d2 : (getP l).ex = part l (atP l + 4) (frmA l - (atP l + 4)) := by rw [hg]; show exG l = _; unfold exG part; rw [hb, hy]; rfl
        have d3 : (getP l).ex.length / 4 = getN l (atP l + 2 : Nat) 2 := by rw [d2, part_length (by omega)]; omega
        rw [if_pos rfl, d3, d1, d2, enc_part l (atP l) 2 _ 2 rfl rfl (by omega) (by omega) (by omega), enc_part l (atP l + 2) 2 _ 2 rfl rfl (by omega) (by omega) (by omega)]
        rw [← List.append_assoc, take_part, ← List.append_assoc, take_part, show atP l + 2 + 2 = atP l + 4 by omega, take_part]
        congr 1; omega
    rw [pktL_hd, hhd, hpad, ← e4]
    have hpl : (getP l).pl = (l.drop (frmA l)).take ((l.drop (frmA l)).length - k) := by
      rw [hg]; show plG l = _
      unfold plG
      rw [hT, List.length_drop]; congr 1; omega
    rw [hpl, List.take_append_drop, List.take_append_drop]
  refine ⟨hm, hL, ?_⟩
  have hs := sizeP_len hm
  rw [hL] at hs
  unfold errP
  rw [← hs, if_neg (by omega), if_neg (by omega)]
/-- A packet with another payload. -/
theorem pl_ok {p : Pkt} (ok : p.Ok) (x : List UInt8) : ({ p with pl := x } : Pkt).Ok := ⟨ok.ty, ok.sq, ok.tm, ok.ss, ok.cs, ok.pf, ok.pad⟩
theorem pad_ok {p : Pkt} (ok : p.Ok) (k : Int) (hk : -9223372036854775808 ≤ k ∧ k ≤ 9223372036854775807) : ({ p with pad := k } : Pkt).Ok := ⟨ok.ty, ok.sq, ok.tm, ok.ss, ok.cs, ok.pf, hk⟩
theorem errP_of {p : Pkt} (hm : mayP p = true) (h : sizeP p ≤ 512) : errP p = 0 := by
  have : sizeP p ≠ 0 := by unfold sizeP headP; rw [if_pos hm]; omega
  unfold errP; rw [if_neg this, if_neg (by omega)]
/-- A beginning that has the head: less payload. -/
theorem cut_long {p : Pkt} (ok : p.Ok) (h : errP p = 0) (h0 : p.pad = 0) (n : Nat) (hn : headP p ≤ n) : lookE ((pktL p).take n) = 0 ∧ getP ((pktL p).take n) = { p with pl := p.pl.take (n - headP p) } := by
  obtain ⟨hm, h5⟩ := err_may h
  have e : (pktL p).take n = pktL { p with pl := p.pl.take (n - headP p) } := by
    rw [pktL_hd, pktL_hd]
    show _ = hdP p (decide (0 < p.pad)) ++ (p.pl.take (n - headP p) ++ padL p.pad)
    have : padL p.pad = [] := by unfold padL; rw [if_neg (by omega)]
    rw [this, List.append_nil, List.append_nil, List.take_append, hdP_length, List.take_of_length_le (by rw [hdP_length]; exact hn)]
  rw [e]
  have hm' : mayP { p with pl := p.pl.take (n - headP p) } = true := hm
  refine get_put5 (pl_ok ok _) (errP_of hm' ?_)
  have := sizeP_len hm
  have h2 := sizeP_len hm'
  rw [← e, List.length_take] at h2
  omega
theorem byteN_take (l : List UInt8) (n k : Nat) (h : k < n) : byteN (l.take n) k = byteN l k := by
  unfold byteN
  rw [List.getElem?_take, if_pos h]
theorem getN_take (l : List UInt8) (n a s : Nat) (A S : Int) (hA : A = a) (hS : S = s) (h : a + s ≤ n) (hl : n ≤ l.length) (h1 : 1 ≤ s) (h8 : s ≤ 8) : getN (l.take n) A S = getN l A S := by
  subst hA hS
  unfold getN
  rw [if_pos (by rw [withinB_iff, List.length_take]; omega), if_pos (by rw [withinB_iff]; omega)]
  simp only [part, Int.toNat_natCast]
  rw [List.drop_take, List.take_take]
  congr 2
  omega
/-- A beginning without the head is too short. -/
theorem cut_short {p : Pkt} (ok : p.Ok) (h : errP p = 0) (n : Nat) (hn : n < headP p) : lookE ((pktL p).take n) = 2 := by
  obtain ⟨hm, h5⟩ := err_may h
  have hs := sizeP_len hm
  have hle : headP p ≤ (pktL p).length := by rw [hs]; unfold sizeP; rw [if_pos hm]; omega
  obtain ⟨m1, m2, m3, m4, m5, m6⟩ := mayP_parts hm
  obtain ⟨b0, b1, b2, b3, b4⟩ := hd0_bits m3 (decide (0 < p.pad))
  obtain ⟨f0, f1⟩ := hd_bytes hm (decide (0 < p.pad)) (p.pl ++ padL p.pad)
  obtain ⟨a1, a2, a3, a4, a5, a6⟩ := hd_at hm ok (decide (0 < p.pad)) (p.pl ++ padL p.pad) (by omega)
  rw [← pktL_hd] at f0 f1 a1 a2 a3 a4 a5 a6
  have hl : ((pktL p).take n).length = n := by rw [List.length_take]; omega
  unfold lookE
  rw [hl, if_neg (by omega)]
  by_cases h12 : n < 12
  · rw [if_pos h12]
  · have g0 : byteN ((pktL p).take n) 0 = byteN (pktL p) 0 := byteN_take _ _ _ (by omega)
    have g1 : byteN ((pktL p).take n) 1 = byteN (pktL p) 1 := byteN_take _ _ _ (by omega)
    rw [if_neg h12, g0, g1, f0, f1, if_neg (by omega), m2, if_neg (by simp)]
    have hf : n < frmA ((pktL p).take n) := by
      have x1 : nCs ((pktL p).take n) = nCs (pktL p) := by unfold nCs; rw [g0]
      have x2 : exB ((pktL p).take n) = exB (pktL p) := by unfold exB; rw [g0]
      have x3 : atP ((pktL p).take n) = atP (pktL p) := by unfold atP; rw [x1]
      have hnl : n ≤ (pktL p).length := by omega
      rw [← a3] at hn
      unfold frmA at hn ⊢
      rw [x2, x3]
      cases hb : exB (pktL p)
      · rw [hb] at hn; exact hn
      · rw [hb] at hn
        simp only [if_true] at hn ⊢
        by_cases hlt : n < atP (pktL p) + 4
        · omega
        · rw [getN_take (pktL p) n (atP (pktL p) + 2) 2 _ 2 rfl rfl (by omega) (by omega) (by omega) (by omega)]
          exact hn
    rw [if_pos hf]
/-- Padding with a byte that is not nought is refused. -/
theorem pad_bad {p : Pkt} (ok : p.Ok) (h : errP p = 0) (k at_ : Nat) (hk : p.pad = (k : Int)) (hat : at_ + 1 < k) : lookE ((pktL p).set ((pktL p).length - k + at_) 1) = 1 := by
  obtain ⟨hm, h5⟩ := err_may h
  have hs := sizeP_len hm
  obtain ⟨m1, m2, m3, m4, m5, m6⟩ := mayP_parts hm
  obtain ⟨b0, b1, b2, b3, b4⟩ := hd0_bits m3 true
  simp only [if_true] at b4
  obtain ⟨q, rfl⟩ : ∃ q, k = q + 1 := ⟨k - 1, by omega⟩
  have hpd : decide (0 < p.pad) = true := by rw [decide_eq_true_eq]; omega
  have hpL : padL p.pad = List.replicate q 0 ++ [UInt8.ofNat (q + 1)] := by unfold padL; rw [if_pos (by omega), hk]; rfl
  have hpl : (padL p.pad).length = q + 1 := by rw [hpL]; simp
  have hlen : (pktL p).length = headP p + (p.pl.length + (q + 1)) := by rw [pktL_hd, List.length_append, List.length_append, hdP_length, hpl]
  have e : (pktL p).set ((pktL p).length - (q + 1) + at_) 1 = hdP p true ++ (p.pl ++ ((List.replicate q 0).set at_ 1 ++ [UInt8.ofNat (q + 1)])) := by
    rw [hlen, pktL_hd, hpd, hpL, show headP p + (p.pl.length + (q + 1)) - (q + 1) + at_ = (hdP p true).length + (p.pl.length + at_) by rw [hdP_length]; omega]
    rw [List.set_append, if_neg (by omega), Nat.add_sub_cancel_left, List.set_append, if_neg (by omega), Nat.add_sub_cancel_left, List.set_append, if_pos (by simp; omega)]
  have hl2 : (hdP p true ++ (p.pl ++ ((List.replicate q 0).set at_ 1 ++ [UInt8.ofNat (q + 1)]))).length = (pktL p).length := by rw [← e, List.length_set]
  rw [e, hd_look hm ok true _ (by omega)]
  have hrl : (p.pl ++ ((List.replicate q (0 : UInt8)).set at_ 1 ++ [UInt8.ofNat (q + 1)])).length = p.pl.length + (q + 1) := by simp
  have hx : padX (p.pl ++ ((List.replicate q (0 : UInt8)).set at_ 1 ++ [UInt8.ofNat (q + 1)])) = q + 1 := by
    unfold padX byteN
    rw [hrl, ← List.append_assoc, show p.pl.length + (q + 1) - 1 = (p.pl ++ (List.replicate q (0 : UInt8)).set at_ 1).length by simp]
    simp only [List.getElem?_concat_length, Option.getD_some]
    rw [UInt8.toNat_ofNat']
    exact Nat.mod_eq_of_lt (by omega)
  have hpt : padT (hd0 p true) (p.pl ++ ((List.replicate q (0 : UInt8)).set at_ 1 ++ [UInt8.ofNat (q + 1)])) = none := by
    unfold padT
    rw [if_neg (by omega), if_neg (by omega), hx, if_neg (by omega)]
    have hz : (((p.pl ++ ((List.replicate q (0 : UInt8)).set at_ 1 ++ [UInt8.ofNat (q + 1)])).drop ((p.pl ++ ((List.replicate q (0 : UInt8)).set at_ 1 ++ [UInt8.ofNat (q + 1)])).length - (q + 1))).take (q + 1 - 1)).all (fun y => y == 0) = false := by
      rw [hrl, show p.pl.length + (q + 1) - (q + 1) = p.pl.length by omega, List.drop_left, show q + 1 - 1 = ((List.replicate q (0 : UInt8)).set at_ 1).length by simp, List.take_left]
      rw [List.all_eq_false]
      exact ⟨1, List.mem_iff_getElem.2 ⟨at_, by simp; omega, by simp⟩, by decide⟩
    rw [hz]; rfl
  rw [hpt]; rfl
end Go.Proofs.Ytnkclbaeamcplaa
