/-
Packets, the plain law: what is put is read as it was. No function of the program is spoken of.
Packets, the plain laws: what is read is put as it was; a beginning; padding. No function of the program is spoken of.
Padding of bytes, in plain words, byte by byte. No function of the program is spoken of.
-/
import Derived.Test.YtknlkmencdlpcaaRtpG
import Derived.Test.YtknlkmencdlpcaaRtp4
import Derived.Test.YtknlkmencdlpcaaRepP
namespace Go.Proofs.Ytknlkmencdlpcaa
set_option linter.unusedVariables false
set_option linter.unusedSimpArgs false
open Go Go.RowKit

def extL (p : Pkt) : List UInt8 := if p.hx then enc 2 p.pf ++ (enc 2 (p.ex.length / 4) ++ p.ex) else []
def hd0 (p : Pkt) (pd : Bool) : Nat := 128 + p.cs.length + (if pd then 32 else 0) + (if p.hx then 16 else 0)
/-- A packet's bytes up to its payload. -/
def hdP (p : Pkt) (pd : Bool) : List UInt8 := [UInt8.ofNat (hd0 p pd), UInt8.ofNat (secN p)] ++ (enc 2 p.sq ++ (enc 4 p.tm ++ (enc 4 p.ss ++ (p.cs.flatMap (enc 4) ++ extL p))))
def padL (k : Int) : List UInt8 := if 0 < k then List.replicate (k.toNat - 1) 0 ++ [UInt8.ofNat k.toNat] else []
theorem pktL_hd (p : Pkt) : pktL p = hdP p (decide (0 < p.pad)) ++ (p.pl ++ padL p.pad) := by
  unfold pktL hdP padL firstN hd0 extL
  simp only [decide_eq_true_eq, List.append_assoc]
theorem mayP_parts {p : Pkt} (hm : mayP p = true) : (0 ≤ p.ty ∧ p.ty ≤ 127) ∧ fbB (secN p) = false ∧ p.cs.length ≤ 15 ∧ (0 ≤ p.pad ∧ p.pad ≤ 255) ∧ p.ex.length % 4 = 0 ∧ (p.hx = true ∨ (p.ex = [] ∧ p.pf = 0)) := by
  unfold mayP at hm
  simp only [Bool.and_eq_true, decide_eq_true_eq, Bool.not_eq_true'] at hm
  exact ⟨hm.1, hm.2.1, hm.2.2.1.1, hm.2.2.1.2, hm.2.2.2.1, hm.2.2.2.2⟩
theorem hdP_length (p : Pkt) (pd : Bool) : (hdP p pd).length = headP p := by
  have : (p.cs.flatMap (enc 4)).length = p.cs.length * 4 := fm4_length p.cs
  unfold hdP headP extL
  cases p.hx <;> simp [enc_length, this] <;> omega
def csG (l : List UInt8) (a k : Nat) : List Nat := (List.range k).map fun i => getN l (a + 4 * i : Nat) 4
theorem csG_cons (l : List UInt8) (a m : Nat) : csG l a (m + 1) = getN l a 4 :: csG l (a + 4) m := by
  unfold csG
  rw [List.range_succ_eq_map, List.map_cons, List.map_map]
  congr 1
  refine List.map_congr_left fun j _ => ?_
  simp only [Function.comp]
  congr 1
  omega
theorem csG_mid (cs : List Nat) (h : ∀ x ∈ cs, x < 4294967296) (pre post : List UInt8) (a : Nat) (ha : pre.length = a) : csG (pre ++ (cs.flatMap (enc 4) ++ post)) a cs.length = cs := by
  induction cs generalizing pre a with
  | nil => rfl
  | cons b bl ih =>
    have hb := h b (by simp)
    rw [List.length_cons, csG_cons, List.flatMap_cons, List.append_assoc, getN_enc pre _ a 4 b a 4 rfl rfl ha (by omega) (by omega) hb, app_shift pre]
    rw [ih (fun x hx => h x (by simp [hx])) (pre ++ enc 4 b) (a + 4) (by simp [enc_length, ha])]
theorem secN_bits {p : Pkt} (h : 0 ≤ p.ty ∧ p.ty ≤ 127) : decide (128 ≤ secN p) = p.mr ∧ ((secN p % 128 : Nat) : Int) = p.ty := by
  unfold secN
  cases p.mr
  · simp only [Bool.false_eq_true, if_false, decide_eq_false_iff_not]; omega
  · simp only [if_true, decide_eq_true_eq]; omega
theorem hd0_bits {p : Pkt} (h : p.cs.length ≤ 15) (pd : Bool) : hd0 p pd < 256 ∧ hd0 p pd % 16 = p.cs.length ∧ decide (hd0 p pd / 16 % 2 = 1) = p.hx ∧ hd0 p pd / 64 = 2 ∧ (hd0 p pd / 32 % 2 = if pd then 1 else 0) := by
  unfold hd0
  cases p.hx <;> cases pd <;> simp <;> omega
section
variable {p : Pkt} (hm : mayP p = true) (ok : p.Ok) (pd : Bool) (t : List UInt8)
include hm ok
omit ok in
theorem hd_bytes : byteN (hdP p pd ++ t) 0 = hd0 p pd ∧ byteN (hdP p pd ++ t) 1 = secN p := by
  have hb := (hd0_bits (mayP_parts hm).2.2.1 pd).1
  have hs := secN_lt p
  constructor
  · show (UInt8.ofNat (hd0 p pd)).toNat = _
    rw [UInt8.toNat_ofNat']; exact Nat.mod_eq_of_lt (by omega)
  · show (UInt8.ofNat (secN p)).toNat = _
    rw [UInt8.toNat_ofNat']; exact Nat.mod_eq_of_lt (by omega)
omit hm in
theorem hd_nums : getN (hdP p pd ++ t) 2 2 = p.sq ∧ getN (hdP p pd ++ t) 4 4 = p.tm ∧ getN (hdP p pd ++ t) 8 4 = p.ss ∧ csL (hdP p pd ++ t) p.cs.length = p.cs := by
  have h1 : hdP p pd ++ t = [UInt8.ofNat (hd0 p pd), UInt8.ofNat (secN p)] ++ (enc 2 p.sq ++ (enc 4 p.tm ++ (enc 4 p.ss ++ (p.cs.flatMap (enc 4) ++ (extL p ++ t))))) := by unfold hdP; simp only [List.append_assoc]
  rw [h1]
  refine ⟨getN_enc _ _ 2 2 p.sq 2 2 rfl rfl rfl (by omega) (by omega) ok.sq, ?_, ?_, ?_⟩
  · rw [app_shift]
    exact getN_enc _ _ 4 4 p.tm 4 4 rfl rfl (by simp [enc_length]) (by omega) (by omega) ok.tm
  · rw [app_shift, app_shift (_ ++ _)]
    exact getN_enc _ _ 8 4 p.ss 8 4 rfl rfl (by simp [enc_length]) (by omega) (by omega) ok.ss
  · rw [app_shift, app_shift (_ ++ _), app_shift (_ ++ _ ++ _)]
    exact csG_mid p.cs ok.cs _ _ 12 (by simp [enc_length])
omit hm in
theorem hd_ext (hx : p.hx = true) : getN (hdP p pd ++ t) (12 + 4 * p.cs.length : Nat) 2 = p.pf ∧ getN (hdP p pd ++ t) (12 + 4 * p.cs.length + 2 : Nat) 2 = p.ex.length / 4 % 65536 ∧ ((hdP p pd ++ t).drop (12 + 4 * p.cs.length + 4)).take p.ex.length = p.ex := by
  have h0 : (p.cs.flatMap (enc 4)).length = p.cs.length * 4 := fm4_length p.cs
  have h1 : hdP p pd ++ t = (([UInt8.ofNat (hd0 p pd), UInt8.ofNat (secN p)] ++ enc 2 p.sq ++ enc 4 p.tm ++ enc 4 p.ss) ++ p.cs.flatMap (enc 4)) ++ (enc 2 p.pf ++ (enc 2 (p.ex.length / 4) ++ (p.ex ++ t))) := by unfold hdP extL; rw [hx, if_pos rfl]; simp only [List.append_assoc]
  have hl : (([UInt8.ofNat (hd0 p pd), UInt8.ofNat (secN p)] ++ enc 2 p.sq ++ enc 4 p.tm ++ enc 4 p.ss) ++ p.cs.flatMap (enc 4)).length = 12 + 4 * p.cs.length := by simp [enc_length, h0]; omega
  rw [h1]
  generalize (([UInt8.ofNat (hd0 p pd), UInt8.ofNat (secN p)] ++ enc 2 p.sq ++ enc 4 p.tm ++ enc 4 p.ss) ++ p.cs.flatMap (enc 4)) = f at *
  refine ⟨getN_enc _ _ _ 2 p.pf _ 2 rfl rfl hl (by omega) (by omega) ok.pf, ?_, ?_⟩
  · rw [app_shift]
    refine (getN_mid _ (enc 2 (p.ex.length / 4)) _ (12 + 4 * p.cs.length + 2) 2 (by simp [enc_length, hl]) (enc_length _ _) (by omega) (by omega)).trans ?_
    have e : enc 2 (p.ex.length / 4) = enc 2 (p.ex.length / 4 % 65536) := by
      show [UInt8.ofNat (p.ex.length / 4 / 256), UInt8.ofNat (p.ex.length / 4)] = [UInt8.ofNat (p.ex.length / 4 % 65536 / 256), UInt8.ofNat (p.ex.length / 4 % 65536)]
      have a1 : UInt8.ofNat (p.ex.length / 4 / 256) = UInt8.ofNat (p.ex.length / 4 % 65536 / 256) := by
        apply UInt8.toNat_inj.1; rw [UInt8.toNat_ofNat', UInt8.toNat_ofNat']; omega
      have a2 : UInt8.ofNat (p.ex.length / 4) = UInt8.ofNat (p.ex.length / 4 % 65536) := by
        apply UInt8.toNat_inj.1; rw [UInt8.toNat_ofNat', UInt8.toNat_ofNat']; omega
      rw [a1, a2]
    rw [e, beN_enc 2 _ (by show _ < 65536; omega)]
  · have h2 : f ++ (enc 2 p.pf ++ (enc 2 (p.ex.length / 4) ++ (p.ex ++ t))) = (f ++ enc 2 p.pf ++ enc 2 (p.ex.length / 4)) ++ (p.ex ++ t) := by simp only [List.append_assoc]
    have h3 : (f ++ enc 2 p.pf ++ enc 2 (p.ex.length / 4)).length = 12 + 4 * p.cs.length + 4 := by simp [enc_length, hl]
    rw [h2, ← h3, List.drop_left, List.take_left]
/-- What stands ahead of the payload, read. -/
theorem hd_at (h512 : headP p ≤ 512) : nCs (hdP p pd ++ t) = p.cs.length ∧ exB (hdP p pd ++ t) = p.hx ∧ frmA (hdP p pd ++ t) = headP p ∧ exG (hdP p pd ++ t) = p.ex ∧ pfG (hdP p pd ++ t) = p.pf ∧ (hdP p pd ++ t).drop (headP p) = t := by
  obtain ⟨m1, m2, m3, m4, m5, m6⟩ := mayP_parts hm
  obtain ⟨b0, b1, b2, b3, b4⟩ := hd0_bits m3 pd
  obtain ⟨f0, f1⟩ := hd_bytes hm pd t
  have hn : nCs (hdP p pd ++ t) = p.cs.length := by unfold nCs; rw [f0, b1]
  have hb : exB (hdP p pd ++ t) = p.hx := by unfold exB; rw [f0, b2]
  have ha : atP (hdP p pd ++ t) = 12 + 4 * p.cs.length := by unfold atP; rw [hn]
  have hd : (hdP p pd ++ t).drop (headP p) = t := by rw [← hdP_length p pd, List.drop_left]
  unfold headP at h512
  cases hx : p.hx
  · rw [hx] at hb
    have hp : headP p = 12 + 4 * p.cs.length := by unfold headP; rw [hx]; rfl
    have h6 : p.ex = [] ∧ p.pf = 0 := by rcases m6 with h | h; · rw [hx] at h; cases h
                                         · exact h
    refine ⟨hn, hb, by unfold frmA; rw [hb, ha, hp]; rfl, by unfold exG; rw [hb, h6.1]; rfl, by unfold pfG; rw [hb, h6.2]; rfl, hd⟩
  · rw [hx] at hb h512
    obtain ⟨e1, e2, e3⟩ := hd_ext ok pd t hx
    have hp : headP p = 12 + 4 * p.cs.length + (4 + p.ex.length) := by unfold headP; rw [hx]; rfl
    have hf : frmA (hdP p pd ++ t) = headP p := by
      unfold frmA; rw [hb, if_pos rfl, ha, e2, hp]
      simp only [if_true] at h512
      omega
    have hxa : extA (hdP p pd ++ t) = 12 + 4 * p.cs.length + 4 := by unfold extA; rw [hb, if_pos rfl, ha]
    refine ⟨hn, hb, hf, ?_, by unfold pfG; rw [hb, if_pos rfl, ha, e1], hd⟩
    unfold exG; rw [hb, if_pos rfl, hf, hxa, hp]
    rw [show 12 + 4 * p.cs.length + (4 + p.ex.length) - (12 + 4 * p.cs.length + 4) = p.ex.length by omega, e3]
theorem hd_look (h5 : (hdP p pd ++ t).length ≤ 512) : lookE (hdP p pd ++ t) = if (padT (hd0 p pd) t).isNone then 1 else 0 := by
  have hl : (hdP p pd ++ t).length = headP p + t.length := by rw [List.length_append, hdP_length]
  obtain ⟨m1, m2, m3, m4, m5, m6⟩ := mayP_parts hm
  obtain ⟨b0, b1, b2, b3, b4⟩ := hd0_bits m3 pd
  obtain ⟨f0, f1⟩ := hd_bytes hm pd t
  obtain ⟨a1, a2, a3, a4, a5, a6⟩ := hd_at hm ok pd t (by omega)
  have h12 : 12 ≤ headP p := by unfold headP; omega
  unfold lookE
  rw [if_neg (by omega), if_neg (by omega), f0, if_neg (by omega), f1, m2, if_neg (by simp), a3, if_neg (by omega)]
  have : padN (hdP p pd ++ t) = padT (hd0 p pd) t := by unfold padN; rw [f0, a3, a6]
  rw [this]
theorem hd_get (h5 : (hdP p pd ++ t).length ≤ 512) (k : Nat) (hk : padT (hd0 p pd) t = some k) (hkt : k ≤ t.length) : lookE (hdP p pd ++ t) = 0 ∧ getP (hdP p pd ++ t) = { p with pl := t.take (t.length - k), pad := k } := by
  have hl : (hdP p pd ++ t).length = headP p + t.length := by rw [List.length_append, hdP_length]
  obtain ⟨m1, m2, m3, m4, m5, m6⟩ := mayP_parts hm
  obtain ⟨b0, b1, b2, b3, b4⟩ := hd0_bits m3 pd
  obtain ⟨f0, f1⟩ := hd_bytes hm pd t
  obtain ⟨a1, a2, a3, a4, a5, a6⟩ := hd_at hm ok pd t (by omega)
  obtain ⟨g1, g2, g3, g4⟩ := hd_nums ok pd t
  obtain ⟨s1, s2⟩ := secN_bits m1
  have he : lookE (hdP p pd ++ t) = 0 := by rw [hd_look hm ok pd t h5, hk]; rfl
  have hp : padN (hdP p pd ++ t) = some k := by unfold padN; rw [f0, a3, a6, hk]
  have hT : lookT (hdP p pd ++ t) = headP p + (t.length - k) := by unfold lookT; rw [if_pos he, hp, hl]; simp only [Option.getD_some]; omega
  have hpl : plG (hdP p pd ++ t) = t.take (t.length - k) := by unfold plG; rw [a3, a6, hT, Nat.add_sub_cancel_left]
  refine ⟨he, ?_⟩
  unfold getP
  rw [if_pos he, f1, s1, s2, g1, g2, g3, a1, g4, a2, a5, a4, hpl, hT, hl]
  congr 1
  omega
end
theorem pad_padT {p : Pkt} (hm : mayP p = true) : padT (hd0 p (decide (0 < p.pad))) (p.pl ++ padL p.pad) = some p.pad.toNat ∧ (padL p.pad).length = p.pad.toNat := by
  obtain ⟨m1, m2, m3, m4, m5, m6⟩ := mayP_parts hm
  obtain ⟨b0, b1, b2, b3, b4⟩ := hd0_bits m3 (decide (0 < p.pad))
  by_cases hp : 0 < p.pad
  · rw [decide_eq_true hp] at b4 ⊢
    simp only [if_true] at b4
    obtain ⟨k, hk⟩ : ∃ k, p.pad.toNat = k + 1 := ⟨p.pad.toNat - 1, by omega⟩
    have hpL : padL p.pad = List.replicate k 0 ++ [UInt8.ofNat (k + 1)] := by unfold padL; rw [if_pos hp, hk]; rfl
    have hlen : (padL p.pad).length = k + 1 := by rw [hpL]; simp
    refine ⟨?_, by omega⟩
    have hx : padX (p.pl ++ padL p.pad) = k + 1 := by
      unfold padX byteN
      rw [List.length_append, hlen, hpL, ← List.append_assoc, show p.pl.length + (k + 1) - 1 = (p.pl ++ List.replicate k (0 : UInt8)).length by simp]
      simp only [List.getElem?_concat_length, Option.getD_some]
      rw [UInt8.toNat_ofNat']
      exact Nat.mod_eq_of_lt (by omega)
    unfold padT
    rw [if_neg (by omega), if_neg (by rw [List.length_append, hlen]; omega), hx, if_neg (by rw [List.length_append, hlen]; omega)]
    have hz : (((p.pl ++ padL p.pad).drop ((p.pl ++ padL p.pad).length - (k + 1))).take (k + 1 - 1)).all (fun y => y == 0) = true := by
      rw [List.length_append, hlen, show p.pl.length + (k + 1) - (k + 1) = p.pl.length by omega, List.drop_left, hpL]
      simp
    rw [if_pos hz, hk]
  · rw [decide_eq_false hp] at b4 ⊢
    simp only [Bool.false_eq_true, if_false] at b4
    have : padL p.pad = [] := by unfold padL; rw [if_neg hp]
    unfold padT
    rw [if_pos b4, this]
    exact ⟨by congr 1; omega, by simp; omega⟩
theorem sizeP_len {p : Pkt} (hm : mayP p = true) : (pktL p).length = sizeP p := by
  rw [pktL_hd, List.length_append, List.length_append, hdP_length, (pad_padT hm).2]
  unfold sizeP
  rw [if_pos hm]; omega
theorem err_may {p : Pkt} (h : errP p = 0) : mayP p = true ∧ sizeP p ≤ 512 := by
  unfold errP at h
  split at h
  · cases h
  split at h
  · cases h
  rename_i h1 h2
  refine ⟨?_, by omega⟩
  unfold sizeP at h1
  split at h1
  · assumption
  · exact absurd rfl h1
/-- What is put is read as it was. -/
theorem get_put5 {p : Pkt} (ok : p.Ok) (h : errP p = 0) : lookE (pktL p) = 0 ∧ getP (pktL p) = p := by
  obtain ⟨hm, h5⟩ := err_may h
  obtain ⟨h1, h2⟩ := pad_padT hm
  have hl := sizeP_len hm
  rw [pktL_hd] at hl ⊢
  have := hd_get hm ok (decide (0 < p.pad)) (p.pl ++ padL p.pad) (by omega) p.pad.toNat h1 (by rw [List.length_append]; omega)
  refine ⟨this.1, this.2.trans ?_⟩
  have e1 : (p.pl ++ padL p.pad).take ((p.pl ++ padL p.pad).length - p.pad.toNat) = p.pl := by rw [List.length_append, h2, Nat.add_sub_cancel, List.take_left]
  have e2 : ((p.pad.toNat : Nat) : Int) = p.pad := by have := (mayP_parts hm).2.2.2.1; omega
  rw [e1, e2]
end Go.Proofs.Ytknlkmencdlpcaa

namespace Go.Proofs.Ytknlkmencdlpcaa
set_option linter.unusedVariables false
set_option linter.unusedSimpArgs false
open Go Go.RowKit

theorem byte_part (l : List UInt8) (a : Nat) (h : a < l.length) : [UInt8.ofNat (byteN l a)] = part l a 1 := by
  unfold byteN part
  rw [List.drop_eq_getElem_cons h, List.take_succ_cons, List.take_zero, List.getElem?_eq_getElem h, Option.getD_some, UInt8.ofNat_toNat]
theorem csL_part (l : List UInt8) (a m : Nat) (h : a + 4 * m ≤ l.length) : (csG l a m).flatMap (enc 4) = part l a (4 * m) := by
  induction m generalizing a with
  | zero => simp [csG, part]
  | succ m ih =>
    rw [csG_cons, List.flatMap_cons, ih (a + 4) (by omega), enc_part l a 4 a 4 rfl rfl (by omega) (by omega) (by omega), part_join]
    congr 1; omega
theorem zeros_of_all (l : List UInt8) (h : l.all (fun y => y == 0) = true) : l = List.replicate l.length 0 := by
  induction l with
  | nil => rfl
  | cons x l ih =>
    rw [List.all_cons, Bool.and_eq_true] at h
    have hx : x = 0 := by simpa using h.1
    rw [List.length_cons, List.replicate_succ, hx, ← ih h.2]
/-- The end of a packet: its padding. -/
theorem pad_end {b0 : Nat} {r : List UInt8} {k : Nat} (h : padT b0 r = some k) : k ≤ r.length ∧ k ≤ 255 ∧ (b0 / 32 % 2 = 0 ↔ k = 0) ∧ r.drop (r.length - k) = padL k := by
  unfold padT at h
  split at h
  · injection h with h
    subst h
    refine ⟨Nat.zero_le _, by omega, by simp_all, ?_⟩
    simp [padL]
  split at h
  · cases h
  split at h
  · cases h
  split at h
  · injection h with h
    rename_i h1 h2 h3 h4
    subst h
    have h255 : padX r < 256 := UInt8.toNat_lt _
    refine ⟨by omega, by omega, by omega, ?_⟩
    obtain ⟨k, hk⟩ : ∃ k, padX r = k + 1 := ⟨padX r - 1, by omega⟩
    rw [hk] at h4 h3 ⊢
    have hz := zeros_of_all _ h4
    have hl : ((r.drop (r.length - (k + 1))).take k).length = k := by rw [List.length_take, List.length_drop]; omega
    rw [show k + 1 - 1 = k from rfl, hl] at hz
    unfold padL
    rw [if_pos (by omega), Int.toNat_natCast, show k + 1 - 1 = k from rfl, ← hz]
    have hb := byte_part r (r.length - 1) (by omega)
    have hx : byteN r (r.length - 1) = k + 1 := hk
    rw [hx] at hb
    rw [hb]
    unfold part
    have : (r.drop (r.length - 1)) = (r.drop (r.length - (k + 1))).drop k := by rw [List.drop_drop]; congr 1; omega
    rw [this]
    have h1' : ((r.drop (r.length - (k + 1))).drop k).take 1 = (r.drop (r.length - (k + 1))).drop k := List.take_of_length_le (by rw [List.length_drop, List.length_drop]; omega)
    rw [h1', List.take_append_drop]
  · cases h
theorem look_bytes {l : List UInt8} (h : lookE l = 0) : frmA l = headP (getP l) ∧ (getP l).pad = (l.length - lookT l : Nat) := by
  have hg : getP l = ⟨decide (128 ≤ byteN l 1), (byteN l 1 % 128 : Nat), getN l 2 2, getN l 4 4, getN l 8 4, csL l (nCs l), exB l, pfG l, exG l, plG l, (l.length - lookT l : Nat)⟩ := by unfold getP; rw [if_pos h]
  obtain ⟨l5, l12, _, _, hf, _⟩ := look_ok h
  rw [hg]
  refine ⟨?_, rfl⟩
  show _ = 12 + 4 * (csL l (nCs l)).length + (if exB l then 4 + (exG l).length else 0)
  rw [csL_length]
  cases hb : exB l
  · have hx : frmA l = atP l := by unfold frmA; rw [hb]; rfl
    rw [hx]; rfl
  · have hx : frmA l = atP l + 4 + 4 * getN l (atP l + 2 : Nat) 2 := by unfold frmA; rw [hb]; rfl
    have hy : extA l = atP l + 4 := by unfold extA; rw [hb]; rfl
    have hz : (exG l).length = frmA l - extA l := by unfold exG; rw [hb, if_pos rfl, List.length_take, List.length_drop]; omega
    have hq : atP l = 12 + 4 * nCs l := rfl
    rw [if_pos rfl, hz, hy]
    omega
/-- What is read may be, and is put as it was. -/
theorem put_get5 {l : List UInt8} (h : lookE l = 0) : mayP (getP l) = true ∧ pktL (getP l) = l ∧ errP (getP l) = 0 := by
  obtain ⟨hf, hpd⟩ := look_bytes h
  have hg : getP l = ⟨decide (128 ≤ byteN l 1), (byteN l 1 % 128 : Nat), getN l 2 2, getN l 4 4, getN l 8 4, csL l (nCs l), exB l, pfG l, exG l, plG l, (l.length - lookT l : Nat)⟩ := by unfold getP; rw [if_pos h]
  obtain ⟨l5, l12, hv, hfb, hfl, k, hk, hkl, hT⟩ := look_ok h
  obtain ⟨e1, e2, e3, e4⟩ := pad_end hk
  have hb0 := byteN_lt l 0
  have hb1 := byteN_lt l 1
  have hpad : (getP l).pad = (k : Int) := by rw [hpd, hT]; congr 1; omega
  have hcn : (getP l).cs.length = nCs l := by rw [hg]; exact csL_length l _
  have hhx : (getP l).hx = exB l := by rw [hg]
  have hnl := nCs_lt l
  have hsec : secN (getP l) = byteN l 1 := by
    rw [hg]; unfold secN
    simp only [decide_eq_true_eq]
    split <;> omega
  have hm : mayP (getP l) = true := by
    unfold mayP
    rw [hsec, hfb, hcn, hpad]
    simp only [Bool.and_eq_true, decide_eq_true_eq, Bool.not_false, true_and]
    refine ⟨by rw [hg]; simp only; omega, by omega, ?_⟩
    rw [hg]
    show (exG l).length % 4 = 0 ∧ (exB l = true ∨ (exG l = [] ∧ pfG l = 0))
    unfold exG pfG
    cases hb : exB l
    · simp
    · refine ⟨?_, .inl rfl⟩
      have hx : frmA l = atP l + 4 + 4 * getN l (atP l + 2 : Nat) 2 := by unfold frmA; rw [hb]; rfl
      have hy : extA l = atP l + 4 := by unfold extA; rw [hb]; rfl
      rw [if_pos rfl, List.length_take, List.length_drop]
      omega
  have hfirst : firstN (getP l) = byteN l 0 := by
    unfold firstN
    rw [hcn, hhx, hpad]
    have q1 : nCs l = byteN l 0 % 16 := rfl
    have q2 : exB l = decide (byteN l 0 / 16 % 2 = 1) := rfl
    rw [q1, q2]
    simp only [decide_eq_true_eq]
    by_cases h16 : byteN l 0 / 16 % 2 = 1
    · rw [if_pos h16]; split <;> omega
    · rw [if_neg h16]; split <;> omega
  have hL : pktL (getP l) = l := by
    have hhd : hdP (getP l) (decide (0 < (getP l).pad)) = l.take (frmA l) := by
      have hx0 : hd0 (getP l) (decide (0 < (getP l).pad)) = byteN l 0 := by rw [← hfirst]; unfold hd0 firstN; simp only [decide_eq_true_eq]
      unfold hdP
      rw [hx0, hsec]
      have c1 : [UInt8.ofNat (byteN l 0), UInt8.ofNat (byteN l 1)] = l.take 2 := by
        rw [show [UInt8.ofNat (byteN l 0), UInt8.ofNat (byteN l 1)] = [UInt8.ofNat (byteN l 0)] ++ [UInt8.ofNat (byteN l 1)] from rfl, byte_part l 0 (by omega), byte_part l 1 (by omega), part_join]
        simp [part]
      have c2 : enc 2 (getP l).sq = part l 2 2 := by rw [hg]; exact enc_part l 2 2 2 2 rfl rfl (by omega) (by omega) (by omega)
      have c3 : enc 4 (getP l).tm = part l 4 4 := by rw [hg]; exact enc_part l 4 4 4 4 rfl rfl (by omega) (by omega) (by omega)
      have c4 : enc 4 (getP l).ss = part l 8 4 := by rw [hg]; exact enc_part l 8 4 8 4 rfl rfl (by omega) (by omega) (by omega)
      have hat : atP l ≤ frmA l := by have := at_le_ext l; have := ext_le_frm l; omega
      have q3 : atP l = 12 + 4 * nCs l := rfl
      have c5 : (getP l).cs.flatMap (enc 4) = part l 12 (4 * nCs l) := by rw [hg]; exact csL_part l 12 (nCs l) (by omega)
      rw [c1, c2, c3, c4, c5, ← List.append_assoc, take_part, ← List.append_assoc, take_part, ← List.append_assoc, take_part, ← List.append_assoc, take_part]
      rw [show 2 + 2 + 4 + 4 + 4 * nCs l = atP l by omega]
      unfold extL
      rw [hhx]
      cases hb : exB l
      · have hx : frmA l = atP l := by unfold frmA; rw [hb]; rfl
        rw [hx]; simp
      · have hx : frmA l = atP l + 4 + 4 * getN l (atP l + 2 : Nat) 2 := by unfold frmA; rw [hb]; rfl
        have hy : extA l = atP l + 4 := by unfold extA; rw [hb]; rfl
        have d1 : (getP l).pf = getN l (atP l : Nat) 2 := by rw [hg]; show pfG l = _; unfold pfG; rw [hb]; rfl
        have d2 : (getP l).ex = part l (atP l + 4) (frmA l - (atP l + 4)) := by rw [hg]; show exG l = _; unfold exG part; rw [hb, hy]; rfl
        have d3 : (getP l).ex.length / 4 = getN l (atP l + 2 : Nat) 2 := by rw [d2, part_length (by omega)]; omega
        rw [if_pos rfl, d3, d1, d2, enc_part l (atP l) 2 _ 2 rfl rfl (by omega) (by omega) (by omega), enc_part l (atP l + 2) 2 _ 2 rfl rfl (by omega) (by omega) (by omega)]
        rw [← List.append_assoc, take_part, ← List.append_assoc, take_part, show atP l + 2 + 2 = atP l + 4 by omega, take_part]
        congr 1; omega
    rw [pktL_hd, hhd, hpad, ← e4]
    have hpl : (getP l).pl = (l.drop (frmA l)).take ((l.drop (frmA l)).length - k) := by
      rw [hg]; show plG l = _
      unfold plG
      rw [hT, List.length_drop]; congr 1; omega
    rw [hpl, List.take_append_drop, List.take_append_drop]
  refine ⟨hm, hL, ?_⟩
  have hs := sizeP_len hm
  rw [hL] at hs
  unfold errP
  rw [← hs, if_neg (by omega), if_neg (by omega)]
/-- A packet with another payload. -/
theorem pl_ok {p : Pkt} (ok : p.Ok) (x : List UInt8) : ({ p with pl := x } : Pkt).Ok := ⟨ok.ty, ok.sq, ok.tm, ok.ss, ok.cs, ok.pf, ok.pad⟩
theorem pad_ok {p : Pkt} (ok : p.Ok) (k : Int) (hk : -9223372036854775808 ≤ k ∧ k ≤ 9223372036854775807) : ({ p with pad := k } : Pkt).Ok := ⟨ok.ty, ok.sq, ok.tm, ok.ss, ok.cs, ok.pf, hk⟩
theorem errP_of {p : Pkt} (hm : mayP p = true) (h : sizeP p ≤ 512) : errP p = 0 := by
  have : sizeP p ≠ 0 := by unfold sizeP headP; rw [if_pos hm]; omega
  unfold errP; rw [if_neg this, if_neg (by omega)]
/-- A beginning that has the head: less payload. -/
theorem cut_long {p : Pkt} (ok : p.Ok) (h : errP p = 0) (h0 : p.pad = 0) (n : Nat) (hn : headP p ≤ n) : lookE ((pktL p).take n) = 0 ∧ getP ((pktL p).take n) = { p with pl := p.pl.take (n - headP p) } := by
  obtain ⟨hm, h5⟩ := err_may h
  have e : (pktL p).take n = pktL { p with pl := p.pl.take (n - headP p) } := by
    rw [pktL_hd, pktL_hd]
    show _ = hdP p (decide (0 < p.pad)) ++ (p.pl.take (n - headP p) ++ padL p.pad)
    have : padL p.pad = [] := by unfold padL; rw [if_neg (by omega)]
    rw [this, List.append_nil, List.append_nil, List.take_append, hdP_length, List.take_of_length_le (by rw [hdP_length]; exact hn)]
  rw [e]
  have hm' : mayP { p with pl := p.pl.take (n - headP p) } = true := hm
  refine get_put5 (pl_ok ok _) (errP_of hm' ?_)
  have := sizeP_len hm
  have h2 := sizeP_len hm'
  rw [← e, List.length_take] at h2
  omega
theorem byteN_take (l : List UInt8) (n k : Nat) (h : k < n) : byteN (l.take n) k = byteN l k := by
  unfold byteN
  rw [List.getElem?_take, if_pos h]
theorem getN_take (l : List UInt8) (n a s : Nat) (A S : Int) (hA : A = a) (hS : S = s) (h : a + s ≤ n) (hl : n ≤ l.length) (h1 : 1 ≤ s) (h8 : s ≤ 8) : getN (l.take n) A S = getN l A S := by
  subst hA hS
  unfold getN
  rw [if_pos (by rw [withinB_iff, List.length_take]; omega), if_pos (by rw [withinB_iff]; omega)]
  simp only [part, Int.toNat_natCast]
  rw [List.drop_take, List.take_take]
  congr 2
  omega
/-- A beginning without the head is too short. -/
theorem cut_short {p : Pkt} (ok : p.Ok) (h : errP p = 0) (n : Nat) (hn : n < headP p) : lookE ((pktL p).take n) = 2 := by
  obtain ⟨hm, h5⟩ := err_may h
  have hs := sizeP_len hm
  have hle : headP p ≤ (pktL p).length := by rw [hs]; unfold sizeP; rw [if_pos hm]; omega
  obtain ⟨m1, m2, m3, m4, m5, m6⟩ := mayP_parts hm
  obtain ⟨b0, b1, b2, b3, b4⟩ := hd0_bits m3 (decide (0 < p.pad))
  obtain ⟨f0, f1⟩ := hd_bytes hm (decide (0 < p.pad)) (p.pl ++ padL p.pad)
  obtain ⟨a1, a2, a3, a4, a5, a6⟩ := hd_at hm ok (decide (0 < p.pad)) (p.pl ++ padL p.pad) (by omega)
  rw [← pktL_hd] at f0 f1 a1 a2 a3 a4 a5 a6
  have hl : ((pktL p).take n).length = n := by rw [List.length_take]; omega
  unfold lookE
  rw [hl, if_neg (by omega)]
  by_cases h12 : n < 12
  · rw [if_pos h12]
  · have g0 : byteN ((pktL p).take n) 0 = byteN (pktL p) 0 := byteN_take _ _ _ (by omega)
    have g1 : byteN ((pktL p).take n) 1 = byteN (pktL p) 1 := byteN_take _ _ _ (by omega)
    rw [if_neg h12, g0, g1, f0, f1, if_neg (by omega), m2, if_neg (by simp)]
    have hf : n < frmA ((pktL p).take n) := by
      have x1 : nCs ((pktL p).take n) = nCs (pktL p) := by unfold nCs; rw [g0]
      have x2 : exB ((pktL p).take n) = exB (pktL p) := by unfold exB; rw [g0]
      have x3 : atP ((pktL p).take n) = atP (pktL p) := by unfold atP; rw [x1]
      have hnl : n ≤ (pktL p).length := by omega
      rw [← a3] at hn
      unfold frmA at hn ⊢
      rw [x2, x3]
      cases hb : exB (pktL p)
      · rw [hb] at hn; exact hn
      · rw [hb] at hn
        simp only [if_true] at hn ⊢
        by_cases hlt : n < atP (pktL p) + 4
        · omega
        · rw [getN_take (pktL p) n (atP (pktL p) + 2) 2 _ 2 rfl rfl (by omega) (by omega) (by omega) (by omega)]
          exact hn
    rw [if_pos hf]
/-- Padding with a byte that is not nought is refused. -/
theorem pad_bad {p : Pkt} (ok : p.Ok) (h : errP p = 0) (k at_ : Nat) (hk : p.pad = (k : Int)) (hat : at_ + 1 < k) : lookE ((pktL p).set ((pktL p).length - k + at_) 1) = 1 := by
  obtain ⟨hm, h5⟩ := err_may h
  have hs := sizeP_len hm
  obtain ⟨m1, m2, m3, m4, m5, m6⟩ := mayP_parts hm
  obtain ⟨b0, b1, b2, b3, b4⟩ := hd0_bits m3 true
  simp only [if_true] at b4
  obtain ⟨q, rfl⟩ : ∃ q, k = q + 1 := ⟨k - 1, by omega⟩
  have hpd : decide (0 < p.pad) = true := by rw [decide_eq_true_eq]; omega
  have hpL : padL p.pad = List.replicate q 0 ++ [UInt8.ofNat (q + 1)] := by unfold padL; rw [if_pos (by omega), hk]; rfl
  have hpl : (padL p.pad).length = q + 1 := by rw [hpL]; simp
  have hlen : (pktL p).length = headP p + (p.pl.length + (q + 1)) := by rw [pktL_hd, List.length_append, List.length_append, hdP_length, hpl]
  have e : (pktL p).set ((pktL p).length - (q + 1) + at_) 1 = hdP p true ++ (p.pl ++ ((List.replicate q 0).set at_ 1 ++ [UInt8.ofNat (q + 1)])) := by
    rw [hlen, pktL_hd, hpd, hpL, show headP p + (p.pl.length + (q + 1)) - (q + 1) + at_ = (hdP p true).length + (p.pl.length + at_) by rw [hdP_length]; omega]
    rw [List.set_append, if_neg (by omega), Nat.add_sub_cancel_left, List.set_append, if_neg (by omega), Nat.add_sub_cancel_left, List.set_append, if_pos (by simp; omega)]
  have hl2 : (hdP p true ++ (p.pl ++ ((List.replicate q 0).set at_ 1 ++ [UInt8.ofNat (q + 1)]))).length = (pktL p).length := by rw [← e, List.length_set]
  rw [e, hd_look hm ok true _ (by omega)]
  have hrl : (p.pl ++ ((List.replicate q (0 : UInt8)).set at_ 1 ++ [UInt8.ofNat (q + 1)])).length = p.pl.length + (q + 1) := by simp
  have hx : padX (p.pl ++ ((List.replicate q (0 : UInt8)).set at_ 1 ++ [UInt8.ofNat (q + 1)])) = q + 1 := by
    unfold padX byteN
    rw [hrl, ← List.append_assoc, show p.pl.length + (q + 1) - 1 = (p.pl ++ (List.replicate q (0 : UInt8)).set at_ 1).length by simp]
    simp only [List.getElem?_concat_length, Option.getD_some]
    rw [UInt8.toNat_ofNat']
    exact Nat.mod_eq_of_lt (by omega)
  have hpt : padT (hd0 p true) (p.pl ++ ((List.replicate q (0 : UInt8)).set at_ 1 ++ [UInt8.ofNat (q + 1)])) = none := by
    unfold padT
    rw [if_neg (by omega), if_neg (by omega), hx, if_neg (by omega)]
    have hz : (((p.pl ++ ((List.replicate q (0 : UInt8)).set at_ 1 ++ [UInt8.ofNat (q + 1)])).drop ((p.pl ++ ((List.replicate q (0 : UInt8)).set at_ 1 ++ [UInt8.ofNat (q + 1)])).length - (q + 1))).take (q + 1 - 1)).all (fun y => y == 0) = false := by
      rw [hrl, show p.pl.length + (q + 1) - (q + 1) = p.pl.length by omega, List.drop_left, show q + 1 - 1 = ((List.replicate q (0 : UInt8)).set at_ 1).length by simp, List.take_left]
      rw [List.all_eq_false]
      exact ⟨1, List.mem_iff_getElem.2 ⟨at_, by simp; omega, by simp⟩, by decide⟩
    rw [hz]; rfl
  rw [hpt]; rfl
end Go.Proofs.Ytknlkmencdlpcaa

namespace Go.Proofs.Ytknlkmencdlpcaa
set_option linter.unusedVariables false
set_option linter.unusedSimpArgs false
open Go Go.RowKit

theorem look_fin {l : List UInt8} (h5 : l.length ≤ 512) (h12 : 12 ≤ l.length) (hv : byteN l 0 / 64 = 2) (hf : fbB (byteN l 1) = false) (hfn : frmA l ≤ l.length) :
    (padN l = none → lookE l = 1) ∧ (∀ k, padN l = some k → lookE l = 0 ∧ lookT l = l.length - k) := by
  have he : lookE l = if (padN l).isNone then 1 else 0 := by
    unfold lookE
    rw [if_neg (by omega), if_neg (by omega), if_neg (by omega), hf, if_neg (by simp), if_neg (by omega)]
  refine ⟨fun h => by rw [he, h]; rfl, fun k h => ?_⟩
  have h0 : lookE l = 0 := by rw [he, h]; rfl
  exact ⟨h0, by unfold lookT; rw [if_pos h0, h]; rfl⟩
theorem byteN_drop (l : List UInt8) (a k : Nat) : byteN (l.drop a) k = byteN l (a + k) := by unfold byteN; rw [List.getElem?_drop]
theorem pad_at {l : List UInt8} {fr q : Nat} (hfr : fr < l.length) (hq : byteN l (l.length - 1) = q) : padX (l.drop fr) = q := by
  unfold padX
  rw [byteN_drop, List.length_drop, show fr + (l.length - fr - 1) = l.length - 1 by omega, hq]
theorem padN_no {l : List UInt8} (hb : ¬ byteN l 0 / 32 % 2 = 1) : padN l = some 0 := by
  unfold padN padT; rw [if_pos (by omega)]
theorem padN_empty {l : List UInt8} (hb : byteN l 0 / 32 % 2 = 1) (hf : frmA l = l.length) : padN l = none := by
  unfold padN padT; rw [if_neg (by omega), if_pos (by rw [List.length_drop]; omega)]
theorem padN_bad {l : List UInt8} (hb : byteN l 0 / 32 % 2 = 1) (hf : frmA l < l.length) {q : Nat} (hq : byteN l (l.length - 1) = q) (h : q = 0 ∨ l.length - frmA l < q) : padN l = none := by
  unfold padN padT
  rw [if_neg (by omega), if_neg (by rw [List.length_drop]; omega), pad_at hf hq, if_pos (by rw [List.length_drop]; exact h)]
theorem zeros_all {l : List UInt8} {fr q : Nat} (hfr : fr < l.length) (hq : q ≤ l.length - fr) (hq1 : 1 ≤ q) :
    (((l.drop fr).drop ((l.drop fr).length - q)).take (q - 1)).all (fun y => y == 0) = true ↔ ∀ i, i < q - 1 → byteN l (l.length - q + i) = 0 := by
  rw [List.length_drop, List.drop_drop, show fr + (l.length - fr - q) = l.length - q by omega, List.all_eq_true]
  constructor
  · intro h i hi
    have hb : l.length - q + i < l.length := by omega
    have hm : l[l.length - q + i] ∈ (l.drop (l.length - q)).take (q - 1) := by
      refine List.mem_iff_getElem.2 ⟨i, by rw [List.length_take, List.length_drop]; omega, ?_⟩
      rw [List.getElem_take, List.getElem_drop]
    have := h _ hm
    unfold byteN
    rw [List.getElem?_eq_getElem hb, Option.getD_some]
    have h0 : l[l.length - q + i] = 0 := by simpa using this
    rw [h0]; rfl
  · intro h x hx
    obtain ⟨i, hi, rfl⟩ := List.mem_iff_getElem.1 hx
    rw [List.length_take, List.length_drop] at hi
    have := h i (by omega)
    unfold byteN at this
    rw [List.getElem?_eq_getElem (by omega), Option.getD_some] at this
    rw [List.getElem_take, List.getElem_drop]
    have h0 : l[l.length - q + i] = 0 := UInt8.toNat_inj.1 (by rw [this]; rfl)
    rw [h0]; rfl
theorem padN_zeros {l : List UInt8} (hb : byteN l 0 / 32 % 2 = 1) (hf : frmA l < l.length) {q : Nat} (hq : byteN l (l.length - 1) = q) (h1 : 1 ≤ q) (h2 : q ≤ l.length - frmA l) :
    ((∀ i, i < q - 1 → byteN l (l.length - q + i) = 0) → padN l = some q) ∧ ((∃ i, i < q - 1 ∧ byteN l (l.length - q + i) ≠ 0) → padN l = none) := by
  have hz := zeros_all hf h2 h1
  have e : padN l = if (((l.drop (frmA l)).drop ((l.drop (frmA l)).length - q)).take (q - 1)).all (fun y => y == 0) then some q else none := by
    unfold padN padT
    rw [if_neg (by omega), if_neg (by rw [List.length_drop]; omega), pad_at hf hq, if_neg (by rw [List.length_drop]; omega)]
  refine ⟨fun h => by rw [e, if_pos (hz.2 h)], fun ⟨i, hi, hne⟩ => ?_⟩
  rw [e, if_neg (fun ht => hne (hz.1 ht i hi))]
end Go.Proofs.Ytknlkmencdlpcaa
