/-
Bytes of a packet of which some are others: what stays. In plain words; no function of the program is spoken of.
What a packet is when its head's numbers and its descriptor are others. In plain words; no function of the program is spoken of.
-/
import Derived.Test.YtknlkmencdlpcaaRtpP
namespace Go.Proofs.Ytknlkmencdlpcaa
set_option linter.unusedVariables false
set_option linter.unusedSimpArgs false
open Go Go.RowKit

/-- Bytes that are a packet's with a descriptor's room, and bytes that are others only in the numbers of the head and in the descriptor. -/
structure Alike (D : Nat) (l l' : List UInt8) : Prop where
  (ok : lookE l = 0) (room : frmA l + D ≤ lookT l) (len : l'.length = l.length)
  (same : ∀ k, (k < 2 ∨ 12 ≤ k) → (k < frmA l ∨ frmA l + D ≤ k) → byteN l' k = byteN l k)
theorem getN_bytes2 (l : List UInt8) (a : Nat) (h : a + 2 ≤ l.length) : getN l (a : Nat) 2 = byteN l a * 256 + byteN l (a + 1) := by
  have h1 : a < l.length := by omega
  have h2 : a + 1 < l.length := by omega
  unfold getN
  rw [if_pos (by rw [withinB_iff]; omega)]
  have e : part l ((a : Nat) : Int).toNat (2 : Int).toNat = [l[a], l[a + 1]] := by
    show (l.drop a).take 2 = _
    rw [List.drop_eq_getElem_cons h1, List.take_succ_cons, List.drop_eq_getElem_cons h2, List.take_succ_cons, List.take_zero]
  rw [e]
  unfold byteN
  rw [List.getElem?_eq_getElem h1, List.getElem?_eq_getElem h2]
  show (0 * 256 + l[a].toNat) * 256 + l[a + 1].toNat = l[a].toNat * 256 + l[a + 1].toNat
  omega
/-- What padding is, byte by byte. -/
theorem padN_bytes {l : List UInt8} {k : Nat} (hf : frmA l ≤ l.length) (h : padN l = some k) : k ≤ l.length - frmA l ∧ ((¬ byteN l 0 / 32 % 2 = 1 ∧ k = 0) ∨ (byteN l 0 / 32 % 2 = 1 ∧ 1 ≤ k ∧ frmA l < l.length ∧ byteN l (l.length - 1) = k ∧ ∀ i, i < k - 1 → byteN l (l.length - k + i) = 0)) := by
  obtain ⟨h1, h2, h3, h4⟩ := pad_end h
  rw [List.length_drop] at h1
  refine ⟨h1, ?_⟩
  by_cases hb : byteN l 0 / 32 % 2 = 1
  · right
    have hk : 1 ≤ k := by
      rcases Nat.eq_zero_or_pos k with h0 | h0
      · have := h3.2 h0; omega
      · exact h0
    have hfl : frmA l < l.length := by omega
    have hq : byteN l (l.length - 1) = k := by
      have hx : padX (l.drop (frmA l)) = k := by
        have h' := h
        unfold padN padT at h'
        rw [if_neg (by omega), if_neg (by rw [List.length_drop]; omega)] at h'
        split at h'
        · cases h'
        split at h'
        · injection h'
        · cases h'
      unfold padX at hx
      rw [byteN_drop, List.length_drop, show frmA l + (l.length - frmA l - 1) = l.length - 1 by omega] at hx
      exact hx
    refine ⟨hb, hk, hfl, hq, ?_⟩
    obtain ⟨z1, z2⟩ := padN_zeros hb hfl hq hk h1
    intro i hi
    apply Classical.byContradiction
    intro hne
    have := z2 ⟨i, hi, hne⟩
    rw [this] at h; cases h
  · left
    exact ⟨hb, h3.1 (by omega)⟩
theorem Alike.facts {D : Nat} {l l' : List UInt8} (h : Alike D l l') : lookE l' = 0 ∧ frmA l' = frmA l ∧ lookT l' = lookT l ∧ nCs l' = nCs l ∧ exB l' = exB l ∧ atP l' = atP l ∧ extA l' = extA l ∧ 12 ≤ frmA l := by
  obtain ⟨l5, l12, hv, hfb, hfl, k, hk, hkl, hT⟩ := look_ok h.ok
  have hroom := h.room
  have q0 : atP l = 12 + 4 * nCs l := rfl
  have q1 := at_le_ext l
  have q2 := ext_le_frm l
  have b0 : byteN l' 0 = byteN l 0 := h.same 0 (by omega) (by omega)
  have b1 : byteN l' 1 = byteN l 1 := h.same 1 (by omega) (by omega)
  have e1 : nCs l' = nCs l := by unfold nCs; rw [b0]
  have e2 : exB l' = exB l := by unfold exB; rw [b0]
  have e3 : atP l' = atP l := by unfold atP; rw [e1]
  have e4 : frmA l' = frmA l := by
    have hfr : frmA l = if exB l then atP l + 4 + 4 * getN l (atP l + 2 : Nat) 2 else atP l := rfl
    unfold frmA
    rw [e2, e3]
    cases hb : exB l
    · rfl
    · rw [hb, if_pos rfl] at hfr
      rw [if_pos rfl, if_pos rfl, getN_bytes2 l' (atP l + 2) (by rw [h.len]; omega), getN_bytes2 l (atP l + 2) (by omega), h.same (atP l + 2) (by omega) (by omega), h.same (atP l + 2 + 1) (by omega) (by omega)]
  have e5 : extA l' = extA l := by unfold extA; rw [e2, e3]
  have hpad : padN l' = some k := by
    obtain ⟨_, hc⟩ := padN_bytes hfl hk
    rcases hc with ⟨hb, rfl⟩ | ⟨hb, hk1, hfl2, hq, hz⟩
    · exact padN_no (by rw [b0]; exact hb)
    · have hq' : byteN l' (l'.length - 1) = k := by rw [h.len, h.same _ (by omega) (by omega)]; exact hq
      refine (padN_zeros (by rw [b0]; exact hb) (by rw [e4, h.len]; exact hfl2) hq' hk1 (by rw [e4, h.len]; exact hkl)).1 (fun i hi => ?_)
      rw [h.len, h.same _ (by omega) (by omega)]
      exact hz i hi
  have hlf := (look_fin (l := l') (by rw [h.len]; exact l5) (by rw [h.len]; exact l12) (by rw [b0]; exact hv) (by rw [b1]; exact hfb) (by rw [e4, h.len]; exact hfl)).2 k hpad
  exact ⟨hlf.1, e4, by rw [hlf.2, h.len, hT], e1, e2, e3, e5, by omega⟩
theorem byteN_ext {l l' : List UInt8} (hl : l.length = l'.length) (h : ∀ k, k < l.length → byteN l k = byteN l' k) : l = l' := by
  apply List.ext_getElem hl
  intro k h1 h2
  have := h k h1
  unfold byteN at this
  rw [List.getElem?_eq_getElem h1, List.getElem?_eq_getElem h2] at this
  exact UInt8.toNat_inj.1 this
end Go.Proofs.Ytknlkmencdlpcaa

namespace Go.Proofs.Ytknlkmencdlpcaa
set_option linter.unusedVariables false
set_option linter.unusedSimpArgs false
open Go Go.RowKit

theorem part_alike {l l' : List UInt8} (hl : l'.length = l.length) {lo k : Nat} (h : ∀ j, lo ≤ j → j < lo + k → byteN l' j = byteN l j) : (l'.drop lo).take k = (l.drop lo).take k := by
  apply List.ext_getElem?
  intro i
  rw [List.getElem?_take, List.getElem?_take]
  by_cases hi : i < k
  · rw [if_pos hi, if_pos hi, List.getElem?_drop, List.getElem?_drop]
    have := h (lo + i) (by omega) (by omega)
    unfold byteN at this
    by_cases hlt : lo + i < l.length
    · have hlt' : lo + i < l'.length := by omega
      rw [List.getElem?_eq_getElem hlt, List.getElem?_eq_getElem hlt'] at this ⊢
      simp only [Option.getD_some] at this
      rw [UInt8.toNat_inj.1 this]
    · rw [List.getElem?_eq_none (by omega), List.getElem?_eq_none (by omega)]
  · rw [if_neg hi, if_neg hi]
theorem getN_alike {l l' : List UInt8} (hl : l'.length = l.length) (a s : Nat) (A S : Int) (hA : A = a) (hS : S = s) (h : ∀ j, a ≤ j → j < a + s → byteN l' j = byteN l j) : getN l' A S = getN l A S := by
  subst hA hS
  unfold getN
  rw [hl]
  simp only [part, Int.toNat_natCast]
  rw [part_alike hl h]
theorem Alike.get {D : Nat} {l l' : List UInt8} (h : Alike D l l') : getP l' = { getP l with sq := getN l' 2 2, tm := getN l' 4 4, ss := getN l' 8 4, pl := plG l' } ∧ plG l' = (l'.drop (frmA l)).take D ++ (plG l).drop D ∧ (plG l).length = lookT l - frmA l := by
  obtain ⟨f0, f1, f2, f3, f4, f5, f6, f7⟩ := h.facts
  obtain ⟨l5, l12, hv, hfb, hfl, k, hk, hkl, hT⟩ := look_ok h.ok
  have hroom := h.room
  have q0 : atP l = 12 + 4 * nCs l := rfl
  have q1 := at_le_ext l
  have q2 := ext_le_frm l
  have b1 : byteN l' 1 = byteN l 1 := h.same 1 (by omega) (by omega)
  have hcs : csL l' (nCs l) = csL l (nCs l) := by
    unfold csL
    refine List.map_congr_left fun i hi => ?_
    have := List.mem_range.1 hi
    exact getN_alike h.len (12 + 4 * i) 4 _ 4 rfl rfl (fun j h1 h2 => h.same j (by omega) (by omega))
  have hpf : pfG l' = pfG l := by
    unfold pfG
    rw [f4, f5]
    cases hb : exB l
    · rfl
    · have hx : frmA l = atP l + 4 + 4 * getN l (atP l + 2 : Nat) 2 := by unfold frmA; rw [hb]; rfl
      rw [if_pos rfl, if_pos rfl]
      exact getN_alike h.len (atP l) 2 _ 2 rfl rfl (fun j h1 h2 => h.same j (by omega) (by omega))
  have hex : exG l' = exG l := by
    unfold exG
    rw [f4, f6, f1]
    cases hb : exB l
    · rfl
    · have hx : frmA l = atP l + 4 + 4 * getN l (atP l + 2 : Nat) 2 := by unfold frmA; rw [hb]; rfl
      have hy : extA l = atP l + 4 := by unfold extA; rw [hb]; rfl
      rw [if_pos rfl, if_pos rfl]
      exact part_alike h.len (fun j h1 h2 => h.same j (by omega) (by omega))
  have hpl : (plG l).length = lookT l - frmA l := by unfold plG; rw [List.length_take, List.length_drop]; omega
  refine ⟨?_, ?_, hpl⟩
  · unfold getP
    rw [if_pos f0, if_pos h.ok, b1, f3, hcs, f4, hpf, hex, h.len, f2]
  · have e1 : plG l' = (l'.drop (frmA l)).take (lookT l - frmA l) := by unfold plG; rw [f1, f2]
    have e2 : (plG l).drop D = (l.drop (frmA l + D)).take (lookT l - frmA l - D) := by
      unfold plG
      rw [List.drop_take, List.drop_drop]
    have e3 : (l'.drop (frmA l + D)).take (lookT l - frmA l - D) = (l.drop (frmA l + D)).take (lookT l - frmA l - D) := part_alike h.len (fun j h1 h2 => h.same j (by omega) (by omega))
    rw [e1, e2, ← e3]
    have e4 : lookT l - frmA l = D + (lookT l - frmA l - D) := by omega
    rw [e4, List.take_add, List.drop_drop]
    congr 2
    omega
/-- One byte of bytes in which a number was put. -/
theorem byteN_put {l : List UInt8} {a s z j : Nat} (h : a + s ≤ l.length) (h1 : 1 ≤ s) (h8 : s ≤ 8) (hz : z < 256 ^ s) : (putL l a s z).length = l.length ∧ (j < a ∨ a + s ≤ j → byteN (putL l a s z) j = byteN l j) ∧ getN (putL l a s z) a s = z := by
  have hb : putB l a s z = true := by
    unfold putB
    rw [Bool.and_eq_true, withinB_iff, fitsB_iff]
    exact ⟨by omega, by omega, by omega, by rw [Int.toNat_natCast]; exact hz⟩
  have e : putL l a s z = splice' l a (enc s z) := by unfold putL; rw [if_pos hb, Int.toNat_natCast, Int.toNat_natCast]
  have hlen : (splice' l a (enc s z)).length = l.length := splice'_length (by rw [enc_length]; exact h)
  refine ⟨by rw [e]; exact hlen, ?_, ?_⟩
  · intro hj
    rw [e]
    unfold byteN splice'
    rcases hj with hj | hj
    · rw [List.append_assoc, List.getElem?_append_left (by rw [List.length_take]; omega), List.getElem?_take, if_pos hj]
    · rw [List.getElem?_append_right (by rw [List.length_append, List.length_take, enc_length]; omega), List.getElem?_drop, List.length_append, List.length_take, enc_length]
      congr 3
      omega
  · unfold getN
    rw [if_pos (by rw [e, withinB_iff, hlen]; omega)]
    rw [e]
    simp only [Int.toNat_natCast]
    have := part_splice l (enc s z) a (by rw [enc_length]; exact h)
    rw [enc_length] at this
    rw [this, beN_enc s z hz]
theorem byteN_set {l : List UInt8} {a j : Nat} {x : UInt8} (h : j ≠ a) : byteN (l.set a x) j = byteN l j := by
  unfold byteN
  rw [List.getElem?_set_ne (Ne.symm h)]
theorem Alike.refl {D : Nat} {l : List UInt8} (h : lookE l = 0) (hr : frmA l + D ≤ lookT l) : Alike D l l := ⟨h, hr, rfl, fun _ _ _ => rfl⟩
/-- A number of the head, written. -/
theorem Alike.put {D : Nat} {l l' : List UInt8} (h : Alike D l l') {a s z : Nat} (ha : 2 ≤ a) (hs : a + s ≤ 12) (h1 : 1 ≤ s) (h8 : s ≤ 8) (hz : z < 256 ^ s) : Alike D l (putL l' a s z) := by
  obtain ⟨f0, f1, f2, f3, f4, f5, f6, f7⟩ := h.facts
  have hl12 : 12 ≤ l'.length := (look_ok f0).2.1
  refine ⟨h.ok, h.room, by rw [(byteN_put (j := 0) (by omega) h1 h8 hz).1, h.len], fun k hk hk2 => ?_⟩
  rw [(byteN_put (j := k) (by omega) h1 h8 hz).2.1 (by omega), h.same k hk hk2]
/-- The descriptor's layer and frame, written. -/
def frL (l : List UInt8) (k f : Nat) : List UInt8 := putL (l.set (frmA l) (UInt8.ofNat (byteN l (frmA l) / 4 * 4 + k))) (frmA l + 2 : Nat) 2 f
theorem Alike.desc {l : List UInt8} (h : lookE l = 0) (hr : frmA l + 4 ≤ lookT l) (k f : Nat) (hf : f < 65536) : Alike 4 l (frL l k f) := by
  obtain ⟨l5, l12, hv, hfb, hfl, kk, hk, hkl, hT⟩ := look_ok h
  have hl : (l.set (frmA l) (UInt8.ofNat (byteN l (frmA l) / 4 * 4 + k))).length = l.length := List.length_set
  have hp := fun j => byteN_put (l := l.set (frmA l) (UInt8.ofNat (byteN l (frmA l) / 4 * 4 + k))) (a := frmA l + 2) (s := 2) (z := f) (j := j) (by rw [hl]; omega) (by omega) (by omega) hf
  refine ⟨h, hr, by unfold frL; exact (hp 0).1.trans hl, fun j h1 h2 => ?_⟩
  unfold frL
  exact ((hp j).2.1 (by omega)).trans (byteN_set (by omega))
end Go.Proofs.Ytknlkmencdlpcaa
