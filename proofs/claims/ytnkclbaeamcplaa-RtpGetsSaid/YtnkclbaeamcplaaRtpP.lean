/-
Packets, the plain law: what is put is read as it was. No function of the program is spoken of.
-/
import Derived.Test.YtnkclbaeamcplaaRtpG
import Derived.Test.YtnkclbaeamcplaaRtp4
import Derived.Test.YtnkclbaeamcplaaRepQ
namespace Go.Proofs.Ytnkclbaeamcplaa
set_option linter.unusedVariables false
set_option linter.unusedSimpArgs false
open Go Go.RowKit

def extL (p : Pkt) : List UInt8 := if p.hx then enc 2 p.pf ++ (enc 2 (p.ex.length / 4) ++ p.ex) else []
def hd0 (p : Pkt) (pd : Bool) : Nat := 128 + p.cs.length + (if pd then 32 else 0) + (if p.hx then 16 else 0)
/-- A packet's bytes up to its payload. -/
def hdP (p : Pkt) (pd : Bool) : List UInt8 := [UInt8.ofNat (hd0 p pd), UInt8.ofNat (secN p)] ++ (enc 2 p.sq ++ (enc 4 p.tm ++ (enc 4 p.ss ++ (p.cs.flatMap (enc 4) ++ extL p))))
def padL (k : Int) : List UInt8 := if 0 < k then List.replicate (k.toNat - 1) 0 ++ [UInt8.ofNat k.toNat] else []
theorem pktL_hd (p : Pkt) : pktL p = hdP p (decide (0 < p.pad)) ++ (p.pl ++ padL p.pad) := by
  unfold pktL hdP padL firstN hd0 extL
  simp only [decide_eq_true_eq, List.append_assoc]
theorem mayP_parts {p : Pkt} (hm : mayP p = true) : (0 ≤ p.ty ∧ p.ty ≤ 127) ∧ fbB (secN p) = false ∧ p.cs.length ≤ 15 ∧ (0 ≤ p.pad ∧ p.pad ≤ 255) ∧ p.ex.length % 4 = 0 ∧ (p.hx = true ∨ (p.ex = [] ∧ p.pf = 0)) := by
  unfold mayP at hm
  simp only [Bool.and_eq_true, decide_eq_true_eq, Bool.not_eq_true'] at hm
  exact ⟨hm.1, hm.2.1, hm.2.2.1.1, hm.2.2.1.2, hm.2.2.2.1, hm.2.2.2.2⟩
theorem hdP_length (p : Pkt) (pd : Bool) : (hdP p pd).length = headP p := by
  have : (p.cs.flatMap (enc 4)).length = p.cs.length * 4 := fm4_length p.cs
  unfold hdP headP extL
  cases p.hx <;> simp [enc_length, this] <;> omega
def csG (l : List UInt8) (a k : Nat) : List Nat := (List.range k).map fun i => getN l (a + 4 * i : Nat) 4
theorem csG_cons (l : List UInt8) (a m : Nat) : csG l a (m + 1) = getN l a 4 :: csG l (a + 4) m := by
  unfold csG
  rw [List.range_succ_eq_map, List.map_cons, List.map_map]
  congr 1
  refine List.map_congr_left fun j _ => ?_
  simp only [Function.comp]
  congr 1
  omega
theorem csG_mid (cs : List Nat) (h : ∀ x ∈ cs, x < 4294967296) (pre post : List UInt8) (a : Nat) (ha : pre.length = a) : csG (pre ++ (cs.flatMap (enc 4) ++ post)) a cs.length = cs := by
  induction cs generalizing pre a with
  | nil => rfl
  | cons b bl ih =>
    have hb := h b (by simp)
    rw [List.length_cons, csG_cons, List.flatMap_cons, List.append_assoc, getN_enc pre _ a 4 b a 4 rfl rfl ha (by omega) (by omega) hb, app_shift pre]
    rw [ih (fun x hx => h x (by simp [hx])) (pre ++ enc 4 b) (a + 4) (by simp [enc_length, ha])]
theorem secN_bits {p : Pkt} (h : 0 ≤ p.ty ∧ p.ty ≤ 127) : decide (128 ≤ secN p) = p.mr ∧ ((secN p % 128 : Nat) : Int) = p.ty := by
  unfold secN
  cases p.mr
  · simp only [Bool.false_eq_true, if_false, decide_eq_false_iff_not]; omega
  · simp only [if_true, decide_eq_true_eq]; omega
theorem hd0_bits {p : Pkt} (h : p.cs.length ≤ 15) (pd : Bool) : hd0 p pd < 256 ∧ hd0 p pd % 16 = p.cs.length ∧ decide (hd0 p pd / 16 % 2 = 1) = p.hx ∧ hd0 p pd / 64 = 2 ∧ (hd0 p pd / 32 % 2 = if pd then 1 else 0) := by
  unfold hd0
  cases p.hx <;> cases pd <;> simp <;> omega
section
variable {p : Pkt} (hm : mayP p = true) (ok : p.Ok) (pd : Bool) (t : List UInt8)
include hm ok
omit ok in
theorem hd_bytes : byteN (hdP p pd ++ t) 0 = hd0 p pd ∧ byteN (hdP p pd ++ t) 1 = secN p := by
  have hb := (hd0_bits (mayP_parts hm).2.2.1 pd).1
  have hs := secN_lt p
  constructor
  · show (UInt8.ofNat (hd0 p pd)).toNat = _
    rw [UInt8.toNat_ofNat']; exact Nat.mod_eq_of_lt (by omega)
  · show (UInt8.ofNat (secN p)).toNat = _
    rw [UInt8.toNat_ofNat']; exact Nat.mod_eq_of_lt (by omega)
omit hm in
theorem hd_nums : getN (hdP p pd ++ t) 2 2 = p.sq ∧ getN (hdP p pd ++ t) 4 4 = p.tm ∧ getN (hdP p pd ++ t) 8 4 = p.ss ∧ csL (hdP p pd ++ t) p.cs.length = p.cs := by
  have h1 : hdP p pd ++ t = [UInt8.ofNat (hd0 p pd), UInt8.ofNat (secN p)] ++ (enc 2 p.sq ++ (enc 4 p.tm ++ (enc 4 p.ss ++ (p.cs.flatMap (enc 4) ++ (extL p ++ t))))) := by unfold hdP; simp only [List.append_assoc]
  rw [h1]
  refine ⟨getN_enc _ _ 2 2 p.sq 2 2 rfl rfl rfl (by omega) (by omega) ok.sq, ?_, ?_, ?_⟩
  · rw [app_shift]
    exact getN_enc _ _ 4 4 p.tm 4 4 rfl rfl (by simp [enc_length]) (by omega) (by omega) ok.tm
  · rw [app_shift, app_shift (_ ++ _)]
    exact getN_enc _ _ 8 4 p.ss 8 4 rfl rfl (by simp [enc_length]) (by omega) (by omega) ok.ss
  · rw [app_shift, app_shift (_ ++ _), app_shift (_ ++ _ ++ _)]
    exact csG_mid p.cs ok.cs _ _ 12 (by simp [enc_length])
omit hm in
theorem hd_ext (hx : p.hx = true) : getN (hdP p pd ++ t) (12 + 4 * p.cs.length : Nat) 2 = p.pf ∧ getN (hdP p pd ++ t) (12 + 4 * p.cs.length + 2 : Nat) 2 = p.ex.length / 4 % 65536 ∧ ((hdP p pd ++ t).drop (12 + 4 * p.cs.length + 4)).take p.ex.length = p.ex := by
  have h0 : (p.cs.flatMap (enc 4)).length = p.cs.length * 4 := fm4_length p.cs
  have h1 : hdP p pd ++ t = (([UInt8.ofNat (hd0 p pd), UInt8.ofNat (secN p)] ++ enc 2 p.sq ++ enc 4 p.tm ++ enc 4 p.ss) ++ p.cs.flatMap (enc 4)) ++ (enc 2 p.pf ++ (enc 2 (p.ex.length / 4) ++ (p.ex ++ t))) := by unfold hdP extL; rw [hx, if_pos rfl]; simp only [List.append_assoc]
  have hl : (([UInt8.ofNat (hd0 p pd), UInt8.ofNat (secN p)] ++ enc 2 p.sq ++ enc 4 p.tm ++ enc 4 p.ss) ++ p.cs.flatMap (enc 4)).length = 12 + 4 * p.cs.length := by simp [enc_length, h0]; omega
  rw [h1]
  generalize (([UInt8.ofNat (hd0 p pd), UInt8.ofNat (secN p)] ++ enc 2 p.sq ++ enc 4 p.tm ++ enc 4 p.ss) ++ p.cs.flatMap (enc 4)) = f at *
  refine ⟨getN_enc _ _ _ 2 p.pf _ 2 rfl rfl hl (by omega) (by omega) ok.pf, ?_, ?_⟩
  · rw [app_shift]
    refine (getN_mid _ (enc 2 (p.ex.length / 4)) _ (12 + 4 * p.cs.length + 2) 2 (by simp [enc_length, hl]) (enc_length _ _) (by omega) (by omega)).trans ?_
    have e : enc 2 (p.ex.length / 4) = enc 2 (p.ex.length / 4 % 65536) := by
      show [UInt8.ofNat (p.ex.length / 4 / 256), UInt8.ofNat (p.ex.length / 4)] = [UInt8.ofNat (p.ex.length / 4 % 65536 / 256), UInt8.ofNat (p.ex.length / 4 % 65536)]
      have a1 : UInt8.ofNat (p.ex.length / 4 / 256) = UInt8.ofNat (p.ex.length / 4 % 65536 / 256) := by
        apply UInt8.toNat_inj.1; rw [UInt8.toNat_ofNat', UInt8.toNat_ofNat']; omega
      have a2 : UInt8.ofNat (p.ex.length / 4) = UInt8.ofNat (p.ex.length / 4 % 65536) := by
        apply UInt8.toNat_inj.1; rw [UInt8.toNat_ofNat', UInt8.toNat_ofNat']; omega
      rw [a1, a2]
    rw [e, beN_enc 2 _ (by show _ < 65536; omega)]
  · have h2 : f ++ (enc 2 p.pf ++ (enc 2 (p.ex.length / 4) ++ (p.ex ++ t))) = (f ++ enc 2 p.pf ++ enc 2 (p.ex.length / 4)) ++ (p.ex ++ t) := by simp only [List.append_assoc]
    have h3 : (f ++ enc 2 p.pf ++ enc 2 (p.ex.length / 4)).length = 12 + 4 * p.cs.length + 4 := by simp [enc_length, hl]
    rw [h2, ← h3, List.drop_left, List.take_left]
/-- What stands ahead of the payload, read. -/
theorem hd_at (h512 : headP p ≤ 512) : nCs (hdP p pd ++ t) = p.cs.length ∧ exB (hdP p pd ++ t) = p.hx ∧ frmA (hdP p pd ++ t) = headP p ∧ exG (hdP p pd ++ t) = p.ex ∧ pfG (hdP p pd ++ t) = p.pf ∧ (hdP p pd ++ t).drop (headP p) = t := by
  obtain ⟨m1, m2, m3, m4, m5, m6⟩ := mayP_parts hm
  obtain ⟨b0, b1, b2, b3, b4⟩ := hd0_bits m3 pd
  obtain ⟨f0, f1⟩ := hd_bytes hm pd t
  have hn : nCs (hdP p pd ++ t) = p.cs.length := by unfold nCs; rw [f0, b1]
  have hb : exB (hdP p pd ++ t) = p.hx := by unfold exB; rw [f0, b2]
  have ha : atP (hdP p pd ++ t) = 12 + 4 * p.cs.length := by unfold atP; rw [hn]
  have hd : (hdP p pd ++ t).drop (headP p) = t := by rw [← hdP_length p pd, List.drop_left]
  unfold headP at h512
  cases hx : p.hx
  · rw [hx] at hb
    have hp : headP p = 12 + 4 * p.cs.length := by unfold headP; rw [hx]; rfl
    have h6 : p.ex = [] ∧ p.pf = 0 := by rcases m6 with h | h; · rw [hx] at h; cases h
                                         · exact h
    refine ⟨hn, hb, by unfold frmA; rw [hb, ha, hp]; rfl, by unfold exG; rw [hb, h6.1]; rfl, by unfold pfG; rw [hb, h6.2]; rfl, hd⟩
  · rw [hx] at hb h512
    obtain ⟨e1, e2, e3⟩ := hd_ext ok pd t hx
    have hp : headP p = 12 + 4 * p.cs.length + (4 + p.ex.length) := by unfold headP; rw [hx]; rfl
    have hf : frmA (hdP p pd ++ t) = headP p := by
      unfold frmA; rw [hb, if_pos rfl, ha, e2, hp]
      simp only [if_true] at h512
      omega
    have hxa : extA (hdP p pd ++ t) = 12 + 4 * p.cs.length + 4 := by unfold extA; rw [hb, if_pos rfl, ha]
    refine ⟨hn, hb, hf, ?_, by unfold pfG; rw [hb, if_pos rfl, ha, e1], hd⟩
    unfold exG; rw [hb, if_pos rfl, hf, hxa, hp]
    rw [show 12 + 4 * p.cs.length + (4 + p.ex.length) - (12 + 4 * p.cs.length + 4) = p.ex.length by omega, e3]
theorem hd_look (h5 : (hdP p pd ++ t).length ≤ 512) : lookE (hdP p pd ++ t) = if (padT (hd0 p pd) t).isNone then 1 else 0 := by
  have hl : (hdP p pd ++ t).length = headP p + t.length := by rw [List.length_append, hdP_length]
  obtain ⟨m1, m2, m3, m4, m5, m6⟩ := mayP_parts hm
  obtain ⟨b0, b1, b2, b3, b4⟩ := hd0_bits m3 pd
  obtain ⟨f0, f1⟩ := hd_bytes hm pd t
  obtain ⟨a1, a2, a3, a4, a5, a6⟩ := hd_at hm ok pd t (by omega)
  have h12 : 12 ≤ headP p := by unfold headP; omega
  unfold lookE
  rw [if_neg (by omega), if_neg (by omega), f0, if_neg (by omega), f1, m2, if_neg (by simp), a3, if_neg (by omega)]
  have : padN (hdP p pd ++ t) = padT (hd0 p pd) t := by unfold padN; rw [f0, a3, a6]
  rw [this]
theorem hd_get (h5 : (hdP p pd ++ t).length ≤ 512) (k : Nat) (hk : padT (hd0 p pd) t = some k) (hkt : k ≤ t.length) : lookE (hdP p pd ++ t) = 0 ∧ getP (hdP p pd ++ t) = { p with pl := t.take (t.length - k), pad := k } := by
  have hl : (hdP p pd ++ t).length = headP p + t.length := by rw [List.length_append, hdP_length]
  obtain ⟨m1, m2, m3, m4, m5, m6⟩ := mayP_parts hm
  obtain ⟨b0, b1, b2, b3, b4⟩ := hd0_bits m3 pd
  obtain ⟨f0, f1⟩ := hd_bytes hm pd t
  obtain ⟨a1, a2, a3, a4, a5, a6⟩ := hd_at hm ok pd t (by omega)
  obtain ⟨g1, g2, g3, g4⟩ := hd_nums ok pd t
  obtain ⟨s1, s2⟩ := secN_bits m1
  have he : lookE (hdP p pd ++ t) = 0 := by rw [hd_look hm ok pd t h5, hk]; rfl
  have hp : padN (hdP p pd ++ t) = some k := by unfold padN; rw [f0, a3, a6, hk]
  have hT : lookT (hdP p pd ++ t) = headP p + (t.length - k) := by unfold lookT; rw [if_pos he, hp, hl]; simp only [Option.getD_some]; omega
  have hpl : plG (hdP p pd ++ t) = t.take (t.length - k) := by unfold plG; rw [a3, a6, hT, Nat.add_sub_cancel_left]
  refine ⟨he, ?_⟩
  unfold getP
  rw [if_pos he, f1, s1, s2, g1, g2, g3, a1, g4, a2, a5, a4, hpl, hT, hl]
  congr 1
  omega
end
theorem pad_padT {p : Pkt} (hm : mayP p = true) : padT (hd0 p (decide (0 < p.pad))) (p.pl ++ padL p.pad) = some p.pad.toNat ∧ (padL p.pad).length = p.pad.toNat := by
  obtain ⟨m1, m2, m3, m4, m5, m6⟩ := mayP_parts hm
  obtain ⟨b0, b1, b2, b3, b4⟩ := hd0_bits m3 (decide (0 < p.pad))
  by_cases hp : 0 < p.pad
  · rw [decide_eq_true hp] at b4 ⊢
    simp only [if_true] at b4
    obtain ⟨k, hk⟩ : ∃ k, p.pad.toNat = k + 1 := ⟨p.pad.toNat - 1, by omega⟩
    have hpL : padL p.pad = List.replicate k 0 ++ [UInt8.ofNat (k + 1)] := by unfold padL; rw [if_pos hp, hk]; rfl
    have hlen : (padL p.pad).length = k + 1 := by rw [hpL]; simp
    refine ⟨?_, by omega⟩
    have hx : padX (p.pl ++ padL p.pad) = k + 1 := by
      unfold padX byteN
      rw [List.length_append, hlen, hpL, ← List.append_assoc, show p.pl.length + (k + 1) - 1 = (p.pl ++ List.replicate k (0 : UInt8)).length by simp]
      simp only [List.getElem?_concat_length, Option.getD_some]
      rw [UInt8.toNat_ofNat']
      exact Nat.mod_eq_of_lt (by omega)
    unfold padT
    rw [if_neg (by omega), if_neg (by rw [List.length_append, hlen]; omega), hx, if_neg (by rw [List.length_append, hlen]; omega)]
    have hz : (((p.pl ++ padL p.pad).drop ((p.pl ++ padL p.pad).length - (k + 1))).take (k + 1 - 1)).all (fun y => y == 0) = true := by
      rw [List.length_append, hlen, show p.pl.length + (k + 1) - (k + 1) = p.pl.length by omega, List.drop_left, hpL]
      simp
    rw [if_pos hz, hk]
  · rw [decide_eq_false hp] at b4 ⊢
    simp only [Bool.false_eq_true, if_false] at b4
    have : padL p.pad = [] := by unfold padL; rw [if_neg hp]
    unfold padT
    rw [if_pos b4, this]
    exact ⟨by congr 1; omega, by simp; omega⟩
theorem sizeP_len {p : Pkt} (hm : mayP p = true) : (pktL p).length = sizeP p := by
  rw [pktL_hd, List.length_append, List.length_append, hdP_length, (pad_padT hm).2]
  unfold sizeP
  rw [if_pos hm]; omega
theorem err_may {p : Pkt} (h : errP p = 0) : mayP p = true ∧ sizeP p ≤ 512 := by
  unfold errP at h
  split at h
  · cases h
  split at h
  · cases h
  rename_i h1 h2
  refine ⟨?_, by omega⟩
  unfold sizeP at h1
  split at h1
  · assumption
  · exact absurd rfl h1
/-- What is put is read as it was. -/
theorem get_put5 {p : Pkt} (ok : p.Ok) (h : errP p = 0) : lookE (pktL p) = 0 ∧ getP (pktL p) = p := by
  obtain ⟨hm, h5⟩ := err_may h
  obtain ⟨h1, h2⟩ := pad_padT hm
  have hl := sizeP_len hm
  rw [pktL_hd] at hl ⊢
  have := hd_get hm ok (decide (0 < p.pad)) (p.pl ++ padL p.pad) (by omega) p.pad.toNat h1 (by rw [List.length_append]; omega)
  refine ⟨this.1, this.2.trans ?_⟩
  have e1 : (p.pl ++ padL p.pad).take ((p.pl ++ padL p.pad).length - p.pad.toNat) = p.pl := by rw [List.length_append, h2, Nat.add_sub_cancel, List.take_left]
  have e2 : ((p.pad.toNat : Nat) : Int) = p.pad := by have := (mayP_parts hm).2.2.2.1; omega
  rw [e1, e2]
end Go.Proofs.Ytnkclbaeamcplaa
