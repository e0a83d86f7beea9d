/-
Patches, in plain words: one behind the other; which bytes they change; field by field in any order. No function of the program is spoken of.
-/
import Derived.Test.YtknlkmencdlpcaaPat4
namespace Go.Proofs.Ytknlkmencdlpcaa
set_option linter.unusedVariables false
set_option linter.unusedSimpArgs false
open Go Go.RowKit

theorem ap_no {l : List UInt8} (h : okD l = false) (sq tm ss f : Nat) : apP l sq tm ss f = l := by unfold apP; rw [h]; rfl
theorem ap_last {l : List UInt8} (h : okD l = true) {sq tm ss f sq' tm' ss' f' : Nat} (hsq : sq < 65536) (htm : tm < 4294967296) (hss : ss < 4294967296) (hf : f < 65536) (hsq' : sq' < 65536) (htm' : tm' < 4294967296) (hss' : ss' < 4294967296) (hf' : f' < 65536) :
    apP (apP l sq tm ss f) sq' tm' ss' f' = apP l sq' tm' ss' f' := by
  obtain ⟨d1, d2, d3, d4, d5, d6⟩ := ap_desc h hsq htm hss hf
  obtain ⟨g1, g2⟩ := ap_get h hsq htm hss hf
  obtain ⟨p1, p2⟩ := ap_get d1 hsq' htm' hss' hf'
  obtain ⟨q1, q2⟩ := ap_get h hsq' htm' hss' hf'
  refine ext_get p1 q1 ?_
  rw [p2, q2, d3, d4, d6, g2]
theorem ap_of {l : List UInt8} (h : okD l = true) {sq tm ss f : Nat} (hsq : sq < 65536) (htm : tm < 4294967296) (hss : ss < 4294967296) (hf : f < 65536) :
    oS (apP l sq tm ss f) = sq ∧ oT (apP l sq tm ss f) = tm ∧ oR (apP l sq tm ss f) = ss ∧ oF (apP l sq tm ss f) = f := by
  obtain ⟨d1, d2, d3, d4, d5, d6⟩ := ap_desc h hsq htm hss hf
  obtain ⟨g1, g2⟩ := ap_get h hsq htm hss hf
  obtain ⟨e1, e2, e3, e4⟩ := getP_f g1
  unfold oS oT oR oF
  rw [if_pos d1, if_pos d1, if_pos d1, if_pos d1, ← e1, ← e2, ← e3, d5, g2]
  exact ⟨rfl, rfl, rfl, rfl⟩
theorem of_lt (l : List UInt8) : oS l < 65536 ∧ oT l < 4294967296 ∧ oR l < 4294967296 ∧ oF l < 65536 := by
  unfold oS oT oR oF
  refine ⟨?_, ?_, ?_, ?_⟩
  · split
    · exact getN_ltS l 2 2
    · omega
  · split
    · exact getN_ltS l 4 4
    · omega
  · split
    · exact getN_ltS l 8 4
    · omega
  · split
    · unfold dF
      split
      · exact getN_2 _ 2
      · omega
    · omega
theorem of_get {l : List UInt8} (h : okD l = true) : oS l = (getP l).sq ∧ oT l = (getP l).tm ∧ oR l = (getP l).ss ∧ oF l = dF (plG l) := by
  obtain ⟨e1, e2, e3, e4⟩ := getP_f (okD_look h)
  unfold oS oT oR oF
  rw [if_pos h, if_pos h, if_pos h, if_pos h, e1, e2, e3]
  exact ⟨rfl, rfl, rfl, rfl⟩
theorem ap_back {l : List UInt8} (h : okD l = true) {sq tm ss f : Nat} (hsq : sq < 65536) (htm : tm < 4294967296) (hss : ss < 4294967296) (hf : f < 65536) :
    okD (apP (apP l sq tm ss f) (oS l) (oT l) (oR l) (oF l)) = true ∧ (getP (apP (apP l sq tm ss f) (oS l) (oT l) (oR l) (oF l))).sq = (getP l).sq ∧ (getP (apP (apP l sq tm ss f) (oS l) (oT l) (oR l) (oF l))).tm = (getP l).tm ∧
      (getP (apP (apP l sq tm ss f) (oS l) (oT l) (oR l) (oF l))).ss = (getP l).ss ∧ dL (plG (apP (apP l sq tm ss f) (oS l) (oT l) (oR l) (oF l))) = 0 := by
  obtain ⟨b1, b2, b3, b4⟩ := of_lt l
  rw [ap_last h hsq htm hss hf b1 b2 b3 b4]
  obtain ⟨d1, d2, _⟩ := ap_desc h b1 b2 b3 b4
  obtain ⟨g1, g2⟩ := ap_get h b1 b2 b3 b4
  obtain ⟨o1, o2, o3, o4⟩ := of_get h
  rw [g2]
  exact ⟨d1, o1, o2, o3, d2⟩
theorem set_byte {l : List UInt8} (h : lookE l = 0) {a s z j : Nat} (ha : 2 ≤ a) (hs : a + s ≤ 12) (h1 : 1 ≤ s) (h8 : s ≤ 8) (hz : z < 256 ^ s) (hj : j < 2 ∨ 12 ≤ j) : byteN (setL l a s z) j = byteN l j ∧ (setL l a s z).length = l.length := by
  have hl := (look_ok h).2.1
  unfold setL
  rw [if_pos h]
  obtain ⟨p1, p2, p3⟩ := byteN_put (l := l) (a := a) (s := s) (z := z) (j := j) (by omega) h1 h8 hz
  exact ⟨p2 (by omega), p1⟩
theorem ap_byte {l : List UInt8} (h : okD l = true) {sq tm ss f : Nat} (hsq : sq < 65536) (htm : tm < 4294967296) (hss : ss < 4294967296) (hf : f < 65536) {j : Nat} (hj : j < 2 ∨ 12 ≤ j) (h0 : j ≠ frmA l) (h2 : j ≠ frmA l + 2) (h3 : j ≠ frmA l + 3) :
    byteN (apP l sq tm ss f) j = byteN l j := by
  obtain ⟨g1, e1⟩ := fr_get h (k := 0) (by omega) hf
  obtain ⟨g2, e2⟩ := seq_get g1 hsq
  obtain ⟨g3, e3⟩ := tm_get g2 htm
  unfold apP
  rw [if_pos h]
  rw [(set_byte g3 (a := 8) (s := 4) (by omega) (by omega) (by omega) (by omega) hss hj).1, (set_byte g2 (a := 4) (s := 4) (by omega) (by omega) (by omega) (by omega) htm hj).1, (set_byte g1 (a := 2) (s := 2) (by omega) (by omega) (by omega) (by omega) hsq hj).1]
  exact (fr_byte h (by omega) hf j).1 h0 h2 h3
theorem fr_len {l : List UInt8} (h : okD l = true) {k f : Nat} (hf : f < 65536) : (frL l k f).length = l.length := (Alike.desc (okD_look h) (okD_room h).2.1 k f hf).len
theorem ap_len (l : List UInt8) {sq tm ss f : Nat} (hsq : sq < 65536) (htm : tm < 4294967296) (hss : ss < 4294967296) (hf : f < 65536) : (apP l sq tm ss f).length = l.length := by
  cases h : okD l
  · rw [ap_no h]
  · unfold apP
    rw [if_pos h]
    exact (apP_steps h hsq htm hss hf).2.2.2.len
/-- Some of the four fields are written. -/
structure Ord (l m : List UInt8) (sq tm ss f : Nat) (b0 b1 b2 b3 : Bool) : Prop where
  (look : lookE m = 0) (ok : okD m = true) (len : m.length = l.length)
  (get : getP m = { getP l with sq := if b0 then sq else (getP l).sq, tm := if b1 then tm else (getP l).tm, ss := if b2 then ss else (getP l).ss, pl := if b3 then descL 0 (dK (plG l)) (dS (plG l)) f ++ (plG l).drop 4 else (getP l).pl })
section
variable {l m : List UInt8} {sq tm ss f : Nat} {b0 b1 b2 b3 : Bool}
theorem ord_start (h : okD l = true) : Ord l l sq tm ss f false false false false := ⟨okD_look h, h, rfl, rfl⟩
theorem set_len (h : lookE m = 0) {a s z : Nat} (ha : 2 ≤ a) (hs : a + s ≤ 12) (h1 : 1 ≤ s) (h8 : s ≤ 8) (hz : z < 256 ^ s) : (setL m a s z).length = m.length := (set_byte (j := 0) h ha hs h1 h8 hz (by omega)).2
theorem Ord.seq (h : Ord l m sq tm ss f b0 b1 b2 b3) (hz : sq < 65536) : Ord l (setL m 2 2 sq) sq tm ss f true b1 b2 b3 := by
  obtain ⟨g1, g2⟩ := seq_get h.look hz
  exact ⟨g1, (okD_iff h.look g1 (by rw [g2])).trans h.ok, (set_len h.look (by omega) (by omega) (by omega) (by omega) hz).trans h.len, by rw [g2, h.get]; simp⟩
theorem Ord.time (h : Ord l m sq tm ss f b0 b1 b2 b3) (hz : tm < 4294967296) : Ord l (setL m 4 4 tm) sq tm ss f b0 true b2 b3 := by
  obtain ⟨g1, g2⟩ := tm_get h.look hz
  exact ⟨g1, (okD_iff h.look g1 (by rw [g2])).trans h.ok, (set_len h.look (by omega) (by omega) (by omega) (by omega) hz).trans h.len, by rw [g2, h.get]; simp⟩
theorem Ord.ssrc (h : Ord l m sq tm ss f b0 b1 b2 b3) (hz : ss < 4294967296) : Ord l (setL m 8 4 ss) sq tm ss f b0 b1 true b3 := by
  obtain ⟨g1, g2⟩ := ss_get h.look hz
  exact ⟨g1, (okD_iff h.look g1 (by rw [g2])).trans h.ok, (set_len h.look (by omega) (by omega) (by omega) (by omega) hz).trans h.len, by rw [g2, h.get]; simp⟩
theorem Ord.frame (h : Ord l m sq tm ss f b0 b1 b2 false) (hl : lookE l = 0) (hz : f < 65536) : Ord l (frL m 0 f) sq tm ss f b0 b1 b2 true := by
  obtain ⟨g1, g2⟩ := fr_get h.ok (k := 0) (by omega) hz
  have hp : plG m = plG l := by rw [← (getP_f h.look).2.2.2, h.get, ← (getP_f hl).2.2.2]; simp
  refine ⟨g1, (fr_desc h.ok (k := 0) (by omega) hz).1, (fr_len h.ok hz).trans h.len, ?_⟩
  rw [g2, hp, h.get]
  simp
theorem Ord.all (h : Ord l m sq tm ss f true true true true) (ok : okD l = true) (hsq : sq < 65536) (htm : tm < 4294967296) (hss : ss < 4294967296) (hf : f < 65536) : m = apP l sq tm ss f := by
  obtain ⟨g1, g2⟩ := ap_get ok hsq htm hss hf
  refine ext_get h.look g1 ?_
  rw [h.get, g2]
  simp
end
theorem own_cellv {w : World} {base : Nat} {B : Option Addr} {n c : Nat} {l : List UInt8} (h : w.ownsRow base 5 1 (.slice B n c) n (bys l)) (hn : 0 < n) : ∃ g, B = some ⟨g, 0, none⟩ ∧ base ≤ g ∧ ∀ i, i < n → w.cell? ⟨g, i, none⟩ = some (.int .u8 (byteN l i)) := by
  obtain ⟨g, hB, hg, _⟩ := own_byteV h 0 hn 0 0 rfl
  refine ⟨g, hB, hg, fun i hi => ?_⟩
  obtain ⟨g', hB', _, hc, _⟩ := own_byteV h i hi 0 0 rfl
  rw [hB] at hB'
  injection hB' with e
  injection e with e
  subst e
  exact hc
end Go.Proofs.Ytknlkmencdlpcaa
