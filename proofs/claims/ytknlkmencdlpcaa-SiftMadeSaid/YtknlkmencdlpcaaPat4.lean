/-
What Apply of package patch does to bytes of the call's own.
Bytes whose fields were set: the packet that they are. In plain words; no function of the program is spoken of.
What Of of package patch tells.
-/
import Derived.Test.YtknlkmencdlpcaaPat1
import Derived.Test.YtknlkmencdlpcaaDesc
namespace Go.Proofs.Ytknlkmencdlpcaa
set_option linter.unusedVariables false
set_option linter.unusedSimpArgs false
open Go Go.RowKit

/-- Bytes to which a patch was applied. -/
def apP (l : List UInt8) (sq tm ss f : Nat) : List UInt8 := if okD l then setL (setL (setL (frL l 0 f) 2 2 sq) 4 4 tm) 8 4 ss else l
theorem setL_alike {D : Nat} {l l' : List UInt8} (h : Alike D l l') {a s z : Nat} (ha : 2 ≤ a) (hs : a + s ≤ 12) (h1 : 1 ≤ s) (h8 : s ≤ 8) (hz : z < 256 ^ s) : Alike D l (setL l' a s z) := by
  unfold setL
  rw [if_pos h.facts.1]
  exact h.put ha hs h1 h8 hz
theorem apP_steps {l : List UInt8} (hok : okD l = true) {sq tm ss f : Nat} (hsq : sq < 65536) (htm : tm < 4294967296) (hss : ss < 4294967296) (hf : f < 65536) :
    Alike 4 l (frL l 0 f) ∧ Alike 4 l (setL (frL l 0 f) 2 2 sq) ∧ Alike 4 l (setL (setL (frL l 0 f) 2 2 sq) 4 4 tm) ∧ Alike 4 l (setL (setL (setL (frL l 0 f) 2 2 sq) 4 4 tm) 8 4 ss) := by
  obtain ⟨he, hr, _, _⟩ := okD_room hok
  have a1 := Alike.desc he hr 0 f hf
  have a2 := setL_alike a1 (a := 2) (s := 2) (z := sq) (by omega) (by omega) (by omega) (by omega) (by omega)
  have a3 := setL_alike a2 (a := 4) (s := 4) (z := tm) (by omega) (by omega) (by omega) (by omega) (by omega)
  exact ⟨a1, a2, a3, setL_alike a3 (a := 8) (s := 4) (z := ss) (by omega) (by omega) (by omega) (by omega) (by omega)⟩
theorem frameP_v (base : Nat) (A : Option Addr) (n c : Nat) (l l' : List UInt8) (k : Int) (f : Nat) (b : Bool) (hf : f < 65536) (hb : (okD l && decide (0 ≤ k ∧ k ≤ 2)) = b) (hl : frP l k f = l') (w : World) (ho : w.ownsRow base 5 1 (.slice A n c) n (bys l)) :
    Calls Try.prog 17 #[.slice A n c, .int .i64 k, .int .u16 f] w fun e w' => e = .returned (.bool b) ∧
      w'.ownsRow base 5 1 (.slice A n c) n (bys l') ∧ w.grownBy w' (A.map Addr.block) := by
  subst hb hl
  exact frameP_any base A n c l k f hf w ho
theorem seqP_t (base : Nat) (A : Option Addr) (n c : Nat) (l : List UInt8) (z : Nat) (hz : z < 65536) (he : lookE l = 0) (w : World) (ho : w.ownsRow base 5 1 (.slice A n c) n (bys l)) :
    Calls Try.prog 23 #[.slice A n c, .int .u16 z] w fun e w' => e = .returned (.bool true) ∧
      w'.ownsRow base 5 1 (.slice A n c) n (bys (setL l 2 2 z)) ∧ w.grownBy w' (A.map Addr.block) :=
  (seqP_any base A n c l z hz w ho).mono fun _ _ h => ⟨by rw [h.1, decide_eq_true he], h.2⟩
theorem timeP_t (base : Nat) (A : Option Addr) (n c : Nat) (l : List UInt8) (z : Nat) (hz : z < 4294967296) (he : lookE l = 0) (w : World) (ho : w.ownsRow base 5 1 (.slice A n c) n (bys l)) :
    Calls Try.prog 24 #[.slice A n c, .int .u32 z] w fun e w' => e = .returned (.bool true) ∧
      w'.ownsRow base 5 1 (.slice A n c) n (bys (setL l 4 4 z)) ∧ w.grownBy w' (A.map Addr.block) :=
  (timeP_any base A n c l z hz w ho).mono fun _ _ h => ⟨by rw [h.1, decide_eq_true he], h.2⟩
theorem ssrcP_t (base : Nat) (A : Option Addr) (n c : Nat) (l : List UInt8) (z : Nat) (hz : z < 4294967296) (he : lookE l = 0) (w : World) (ho : w.ownsRow base 5 1 (.slice A n c) n (bys l)) :
    Calls Try.prog 25 #[.slice A n c, .int .u32 z] w fun e w' => e = .returned (.bool true) ∧
      w'.ownsRow base 5 1 (.slice A n c) n (bys (setL l 8 4 z)) ∧ w.grownBy w' (A.map Addr.block) :=
  (ssrcP_any base A n c l z hz w ho).mono fun _ _ h => ⟨by rw [h.1, decide_eq_true he], h.2⟩
/-- A block of another kind, behind a call that changed a row of bytes. -/
theorem blk_over {w w' : World} {base p n c : Nat} {e t : TypeId} {size : Nat} {A : Option Addr} {xs : List Value} {cs : Array Value} (ho : w.ownsRow base e size (.slice A n c) n xs) (hp : w.heap[p]? = some (.cells cs t (0, 0))) (hne : e ≠ t) (hg : w.grownBy w' (A.map Addr.block)) :
    w'.heap[p]? = some (.cells cs t (0, 0)) := by
  have hlt : p < w.heap.size := by
    apply Classical.byContradiction
    intro h
    rw [Array.getElem?_eq_none (by omega)] at hp
    cases hp
  rw [hg.block p hlt ?_]
  · exact hp
  · rcases own_off ho hp hne with h | h
    · intro e1; cases A <;> simp_all [Value.ownBlock]
    · intro e1; cases A <;> simp_all [Value.ownBlock]
theorem grown_alloc {w w' : World} {o : Obj} {r : Option Nat} (h : (w.alloc o).grownBy w' r) (hr : ∀ k, r = some k → k ≠ w.heap.size) : w.grownBy w' r :=
  (below_grownP ((Below.refl w.heap.size w).alloc (Nat.le_refl _) o) r).trans h
set_option maxRecDepth 20000 in
set_option maxHeartbeats 4000000 in
theorem apply_any (base : Nat) (A : Option Addr) (n c : Nat) (l : List UInt8) (sq tm ss f : Nat) (hsq : sq < 65536) (htm : tm < 4294967296) (hss : ss < 4294967296) (hf : f < 65536) (w : World) (ho : w.ownsRow base 5 1 (.slice A n c) n (bys l)) :
    Calls Try.prog 16 #[.slice A n c, .agg #[.int .u16 sq, .int .u32 tm, .int .u32 ss, .int .u16 f]] w fun e w' => e = .returned (.bool (okD l)) ∧
      w'.ownsRow base 5 1 (.slice A n c) n (bys (apP l sq tm ss f)) ∧ w.grownBy w' (A.map Addr.block) := by
  have HO := Lib.hid (ho.alloc (.cells #[.int .u16 sq, .int .u32 tm, .int .u32 ss, .int .u16 f] 26))
  have hg0 := below_grownP ((Below.refl w.heap.size w).alloc (Nat.le_refl _) (.cells #[.int .u16 sq, .int .u32 tm, .int .u32 ss, .int .u16 f] 26)) (A.map Addr.block)
  have hB := blk_alloc w (.cells #[.int .u16 sq, .int .u32 tm, .int .u32 ss, .int .u16 f] 26)
  clear ho
  cases hok : okD l
  · have HK : Hid ((okD l && decide (0 ≤ (0 : Int) ∧ (0 : Int) ≤ 2)) = false) := by show _ = _; rw [hok]; rfl
    have HR : Hid (apP l sq tm ss f = l) := by show _ = _; unfold apP; rw [hok]; rfl
    have HR2 : Hid (frP l 0 f = l) := by show _ = _; unfold frP; rw [hok]; rfl
    clear hok
    go_enter Try.func16, Try.ntmps16
    go_wp2_with (go_at_call 17; (with_reducible refine (frameP_v base A n c l l _ _ false hf HK.out HR2.out _ HO.out).mono ?_); rintro e w1 ⟨rfl, ho1, hg1⟩)
    go_ret
    exact ⟨rfl, by rw [HR.out]; exact ho1, hg0.trans hg1⟩
  · obtain ⟨a1, a2, a3, a4⟩ := apP_steps hok hsq htm hss hf
    have HK : Hid ((okD l && decide (0 ≤ (0 : Int) ∧ (0 : Int) ≤ 2)) = true) := by show _ = _; rw [hok]; rfl
    have HR : Hid (apP l sq tm ss f = setL (setL (setL (frL l 0 f) 2 2 sq) 4 4 tm) 8 4 ss) := by show _ = _; unfold apP; rw [hok]; rfl
    have HR2 : Hid (frP l 0 f = frL l 0 f) := by show _ = _; unfold frP; rw [hok]; rfl
    have E1 := Lib.hid a1.facts.1
    have E2 := Lib.hid a2.facts.1
    have E3 := Lib.hid a3.facts.1
    clear hok a1 a2 a3 a4
    go_enter Try.func16, Try.ntmps16
    go_wp2_with (first
      | (go_at_call 17; (with_reducible refine (frameP_v base A n c l _ _ _ true hf HK.out HR2.out _ HO.out).mono ?_); rintro e w1 ⟨rfl, ho1, hg1⟩; have HO1 := Lib.hid ho1; have hB1 := blk_over HO.out hB (by decide) hg1; obtain ⟨x0, x1, x2, x3⟩ := four_set hB1)
      | (go_at_call 23; (with_reducible refine (seqP_t base A n c _ _ hsq E1.out _ HO1.out).mono ?_); rintro e w2 ⟨rfl, ho2, hg2⟩; have HO2 := Lib.hid ho2; have hB2 := blk_over HO1.out hB1 (by decide) hg2; obtain ⟨y0, y1, y2, y3⟩ := four_set hB2)
      | (go_at_call 24; (with_reducible refine (timeP_t base A n c _ _ htm E2.out _ HO2.out).mono ?_); rintro e w3 ⟨rfl, ho3, hg3⟩; have HO3 := Lib.hid ho3; have hB3 := blk_over HO2.out hB2 (by decide) hg3; obtain ⟨z0, z1, z2, z3⟩ := four_set hB3)
      | (go_at_call 25; (with_reducible refine (ssrcP_t base A n c _ _ hss E3.out _ HO3.out).mono ?_); rintro e w4 ⟨rfl, ho4, hg4⟩; have HO4 := Lib.hid ho4))
    go_ret
    exact ⟨rfl, by rw [HR.out]; exact ho4, (((hg0.trans hg1).trans hg2).trans hg3).trans hg4⟩
end Go.Proofs.Ytknlkmencdlpcaa

namespace Go.Proofs.Ytknlkmencdlpcaa
set_option linter.unusedVariables false
set_option linter.unusedSimpArgs false
open Go Go.RowKit

theorem out_get {l : List UInt8} (h : lookE l = 0) : errP (getP l) = 0 ∧ outP (getP l) = l := by
  obtain ⟨_, h2, h3⟩ := put_get5 h
  exact ⟨h3, by unfold outP; rw [if_pos h3, h2]⟩
theorem ext_get {l l' : List UInt8} (h : lookE l = 0) (h' : lookE l' = 0) (e : getP l = getP l') : l = l' := by
  rw [← (out_get h).2, ← (out_get h').2, e]
theorem getP_f {l : List UInt8} (h : lookE l = 0) : (getP l).sq = getN l 2 2 ∧ (getP l).tm = getN l 4 4 ∧ (getP l).ss = getN l 8 4 ∧ (getP l).pl = plG l := by
  unfold getP
  rw [if_pos h]
  exact ⟨rfl, rfl, rfl, rfl⟩
theorem okD_look {l : List UInt8} (h : okD l = true) : lookE l = 0 := (okD_room h).1
theorem room0 {l : List UInt8} (h : lookE l = 0) : frmA l ≤ lookT l := by
  obtain ⟨l5, l12, hv, hfb, hfl, k, hk, hkl, hT⟩ := look_ok h
  omega
theorem num_get {l : List UInt8} (h : lookE l = 0) {a s z : Nat} (ha : 2 ≤ a) (hs : a + s ≤ 12) (h1 : 1 ≤ s) (h8 : s ≤ 8) (hz : z < 256 ^ s) :
    lookE (putL l a s z) = 0 ∧ getP (putL l a s z) = { getP l with sq := getN (putL l a s z) 2 2, tm := getN (putL l a s z) 4 4, ss := getN (putL l a s z) 8 4 } := by
  have hA := (Alike.refl (D := 0) h (room0 h)).put ha hs h1 h8 hz
  obtain ⟨g1, g2, g3⟩ := hA.get
  refine ⟨hA.facts.1, ?_⟩
  rw [g1, g2, ← (getP_f h).2.2.2]
  simp
theorem num_out {l : List UInt8} (h : lookE l = 0) {a s z b t : Nat} (ha : 2 ≤ a) (hs : a + s ≤ 12) (h1 : 1 ≤ s) (h8 : s ≤ 8) (hz : z < 256 ^ s) (B T : Int) (hB : B = b) (hT : T = t) (hd : b + t ≤ a ∨ a + s ≤ b) :
    getN (putL l a s z) B T = getN l B T := by
  have hl := (look_ok h).2.1
  exact getN_alike (byteN_put (j := 0) (by omega) h1 h8 hz).1 b t B T hB hT fun j j1 j2 => (byteN_put (j := j) (by omega) h1 h8 hz).2.1 (by omega)
theorem seq_get {l : List UInt8} (h : lookE l = 0) {z : Nat} (hz : z < 65536) : lookE (setL l 2 2 z) = 0 ∧ getP (setL l 2 2 z) = { getP l with sq := z } := by
  have e : setL l 2 2 z = putL l (2 : Nat) (2 : Nat) z := by unfold setL; rw [if_pos h]
  rw [e]
  have hl := (look_ok h).2.1
  have hz' : z < 256 ^ 2 := hz
  obtain ⟨g1, g2⟩ := num_get h (a := 2) (s := 2) (by omega) (by omega) (by omega) (by omega) hz'
  refine ⟨g1, ?_⟩
  rw [g2, num_out h (a := 2) (s := 2) (z := z) (b := 4) (t := 4) (by omega) (by omega) (by omega) (by omega) hz' 4 4 rfl rfl (by omega), num_out h (a := 2) (s := 2) (z := z) (b := 8) (t := 4) (by omega) (by omega) (by omega) (by omega) hz' 8 4 rfl rfl (by omega), ← (getP_f h).2.1, ← (getP_f h).2.2.1]
  have e2 : getN (putL l (2 : Nat) (2 : Nat) z) 2 2 = z := (byteN_put (j := 0) (by omega) (by omega) (by omega) hz').2.2
  rw [e2]
theorem tm_get {l : List UInt8} (h : lookE l = 0) {z : Nat} (hz : z < 4294967296) : lookE (setL l 4 4 z) = 0 ∧ getP (setL l 4 4 z) = { getP l with tm := z } := by
  have e : setL l 4 4 z = putL l (4 : Nat) (4 : Nat) z := by unfold setL; rw [if_pos h]
  rw [e]
  have hl := (look_ok h).2.1
  have hz' : z < 256 ^ 4 := hz
  obtain ⟨g1, g2⟩ := num_get h (a := 4) (s := 4) (by omega) (by omega) (by omega) (by omega) hz'
  refine ⟨g1, ?_⟩
  rw [g2, num_out h (a := 4) (s := 4) (z := z) (b := 2) (t := 2) (by omega) (by omega) (by omega) (by omega) hz' 2 2 rfl rfl (by omega), num_out h (a := 4) (s := 4) (z := z) (b := 8) (t := 4) (by omega) (by omega) (by omega) (by omega) hz' 8 4 rfl rfl (by omega), ← (getP_f h).1, ← (getP_f h).2.2.1]
  have e2 : getN (putL l (4 : Nat) (4 : Nat) z) 4 4 = z := (byteN_put (j := 0) (by omega) (by omega) (by omega) hz').2.2
  rw [e2]
theorem ss_get {l : List UInt8} (h : lookE l = 0) {z : Nat} (hz : z < 4294967296) : lookE (setL l 8 4 z) = 0 ∧ getP (setL l 8 4 z) = { getP l with ss := z } := by
  have e : setL l 8 4 z = putL l (8 : Nat) (4 : Nat) z := by unfold setL; rw [if_pos h]
  rw [e]
  have hl := (look_ok h).2.1
  have hz' : z < 256 ^ 4 := hz
  obtain ⟨g1, g2⟩ := num_get h (a := 8) (s := 4) (by omega) (by omega) (by omega) (by omega) hz'
  refine ⟨g1, ?_⟩
  rw [g2, num_out h (a := 8) (s := 4) (z := z) (b := 2) (t := 2) (by omega) (by omega) (by omega) (by omega) hz' 2 2 rfl rfl (by omega), num_out h (a := 8) (s := 4) (z := z) (b := 4) (t := 4) (by omega) (by omega) (by omega) (by omega) hz' 4 4 rfl rfl (by omega), ← (getP_f h).1, ← (getP_f h).2.1]
  have e2 : getN (putL l (8 : Nat) (4 : Nat) z) 8 4 = z := (byteN_put (j := 0) (by omega) (by omega) (by omega) hz').2.2
  rw [e2]
/-- The descriptor that stands in a packet's bytes. -/
theorem ok_desc {l : List UInt8} (h : okD l = true) : byteN l (frmA l) / 4 % 16 = 0 ∧ byteN l (frmA l) < 256 ∧ byteN l (frmA l + 1) = 90 ∧ dK (plG l) = decide (128 ≤ byteN l (frmA l)) ∧ dS (plG l) = decide (byteN l (frmA l) / 64 % 2 = 1) ∧ dF (plG l) = getN l (frmA l + 2 : Nat) 2 := by
  obtain ⟨he, hr, ht, hd⟩ := okD_room h
  have p0 : ((plG l)[0]?.getD 0).toNat = byteN l (frmA l) := by
    unfold plG byteN
    rw [List.getElem?_take, if_pos (by omega), List.getElem?_drop, Nat.add_zero]
  have p1 : ((plG l)[1]?.getD 0).toNat = byteN l (frmA l + 1) := by
    unfold plG byteN
    rw [List.getElem?_take, if_pos (by omega), List.getElem?_drop]
  have hlen : (plG l).length = lookT l - frmA l := by unfold plG; rw [List.length_take, List.length_drop]; omega
  have hE : dE (plG l) = 0 := by simpa [dOk] using hd
  unfold dE at hE
  rw [if_neg (by omega), p0, p1] at hE
  split at hE
  · cases hE
  rename_i hn
  refine ⟨by omega, ?_, by omega, ?_, ?_, ?_⟩
  · unfold byteN; exact UInt8.toNat_lt _
  · unfold dK; rw [hd, Bool.true_and, p0]
  · unfold dS; rw [hd, Bool.true_and, p0]
  · unfold dF
    rw [if_pos hd]
    unfold getN
    rw [if_pos (by rw [withinB_iff]; omega), if_pos (by rw [withinB_iff]; omega)]
    show beN (((plG l).drop 2).take 2) = beN ((l.drop (frmA l + 2)).take 2)
    congr 1
    unfold plG
    rw [List.drop_take, List.take_take, List.drop_drop, Nat.min_eq_left (by omega)]
theorem fr_byte {l : List UInt8} (h : okD l = true) {k f : Nat} (hk : k ≤ 2) (hf : f < 65536) (j : Nat) : (j ≠ frmA l → j ≠ frmA l + 2 → j ≠ frmA l + 3 → byteN (frL l k f) j = byteN l j) ∧ byteN (frL l k f) (frmA l) = byteN l (frmA l) / 4 * 4 + k ∧ getN (frL l k f) (frmA l + 2 : Nat) 2 = f := by
  obtain ⟨he, hr, ht, hd⟩ := okD_room h
  obtain ⟨d1, d2, d3, d4⟩ := ok_desc h
  have hl : (l.set (frmA l) (UInt8.ofNat (byteN l (frmA l) / 4 * 4 + k))).length = l.length := List.length_set
  have hp := fun j => byteN_put (l := l.set (frmA l) (UInt8.ofNat (byteN l (frmA l) / 4 * 4 + k))) (a := frmA l + 2) (s := 2) (z := f) (j := j) (by rw [hl]; omega) (by omega) (by omega) hf
  refine ⟨fun j1 j2 j3 => ?_, ?_, ?_⟩
  · unfold frL
    exact ((hp j).2.1 (by omega)).trans (byteN_set (by omega))
  · unfold frL
    refine ((hp (frmA l)).2.1 (by omega)).trans ?_
    unfold byteN
    rw [List.getElem?_set_self (by omega)]
    show (UInt8.ofNat (byteN l (frmA l) / 4 * 4 + k)).toNat = _
    rw [UInt8.toNat_ofNat']
    show _ = byteN l (frmA l) / 4 * 4 + k
    omega
  · unfold frL
    exact (hp 0).2.2
theorem fr_get {l : List UInt8} (h : okD l = true) {k f : Nat} (hk : k ≤ 2) (hf : f < 65536) : lookE (frL l k f) = 0 ∧ getP (frL l k f) = { getP l with pl := descL k (dK (plG l)) (dS (plG l)) f ++ (plG l).drop 4 } := by
  obtain ⟨he, hr, ht, hd⟩ := okD_room h
  obtain ⟨d1, d2, d3, d4, d5, d6⟩ := ok_desc h
  obtain ⟨l5, l12, hv, hfb, hfl, kk, hkk, hkl, hT⟩ := look_ok he
  have hb := fun j => fr_byte h hk hf j
  have hA := Alike.desc he hr k f hf
  obtain ⟨g1, g2, g3⟩ := hA.get
  have q12 : 12 ≤ frmA l := hA.facts.2.2.2.2.2.2.2
  refine ⟨hA.facts.1, ?_⟩
  have n1 : getN (frL l k f) 2 2 = (getP l).sq := by rw [(getP_f he).1]; exact getN_alike hA.len 2 2 2 2 rfl rfl fun j j1 j2 => (hb j).1 (by omega) (by omega) (by omega)
  have n2 : getN (frL l k f) 4 4 = (getP l).tm := by rw [(getP_f he).2.1]; exact getN_alike hA.len 4 4 4 4 rfl rfl fun j j1 j2 => (hb j).1 (by omega) (by omega) (by omega)
  have n3 : getN (frL l k f) 8 4 = (getP l).ss := by rw [(getP_f he).2.2.1]; exact getN_alike hA.len 8 4 8 4 rfl rfl fun j j1 j2 => (hb j).1 (by omega) (by omega) (by omega)
  have hpl : ((frL l k f).drop (frmA l)).take 4 = descL k (dK (plG l)) (dS (plG l)) f := by
    have e1 : [UInt8.ofNat (byteN (frL l k f) (frmA l))] = part (frL l k f) (frmA l) 1 := byte_part _ _ (by rw [hA.len]; omega)
    have e2 : [UInt8.ofNat (byteN (frL l k f) (frmA l + 1))] = part (frL l k f) (frmA l + 1) 1 := byte_part _ _ (by rw [hA.len]; omega)
    have e3 : enc 2 f = part (frL l k f) (frmA l + 2) 2 := by
      have := enc_part (frL l k f) (frmA l + 2) 2 (frmA l + 2 : Nat) 2 rfl rfl (by rw [hA.len]; omega) (by omega) (by omega)
      rw [(hb 0).2.2] at this
      exact this
    have e4 : part (frL l k f) (frmA l) 4 = [UInt8.ofNat (byteN (frL l k f) (frmA l))] ++ ([UInt8.ofNat (byteN (frL l k f) (frmA l + 1))] ++ enc 2 f) := by
      rw [e1, e2, e3]
      have j1 : part (frL l k f) (frmA l + 1) 1 ++ part (frL l k f) (frmA l + 2) 2 = part (frL l k f) (frmA l + 1) 3 := part_join _ _ _ _
      rw [j1]
      exact (part_join (frL l k f) (frmA l) 1 3).symm
    show part (frL l k f) (frmA l) 4 = _
    rw [e4, (hb 0).2.1, (hb (frmA l + 1)).1 (by omega) (by omega) (by omega), d3, d4, d5]
    unfold descL desc0
    have : k + (if decide (128 ≤ byteN l (frmA l)) = true then 128 else 0) + (if decide (byteN l (frmA l) / 64 % 2 = 1) = true then 64 else 0) = byteN l (frmA l) / 4 * 4 + k := by
      simp only [decide_eq_true_eq]
      split <;> split <;> omega
    rw [this]
    rfl
  rw [g1, g2, n1, n2, n3, hpl]
/-- What the descriptor says then. -/
theorem fr_desc {l : List UInt8} (h : okD l = true) {k f : Nat} (hk : k ≤ 2) (hf : f < 65536) : okD (frL l k f) = true ∧ dL (plG (frL l k f)) = k ∧ dK (plG (frL l k f)) = dK (plG l) ∧ dS (plG (frL l k f)) = dS (plG l) ∧ dF (plG (frL l k f)) = f ∧ (plG (frL l k f)).drop 4 = (plG l).drop 4 := by
  obtain ⟨g1, g2⟩ := fr_get h hk hf
  have hp : plG (frL l k f) = descL k (dK (plG l)) (dS (plG l)) f ++ (plG l).drop 4 := by rw [← (getP_f g1).2.2.2, g2]
  obtain ⟨t1, t2, t3, t4, t5⟩ := desc_trn k hk (dK (plG l)) (dS (plG l)) f (by omega) ((plG l).drop 4)
  rw [← hp] at t1 t2 t3 t4 t5
  refine ⟨?_, t2, t3, t4, t5, ?_⟩
  · unfold okD dOk
    rw [g1, t1]
    rfl
  · rw [hp]
    exact List.drop_left' (descL_len _ _ _ _)
theorem okD_iff {l l' : List UInt8} (h : lookE l = 0) (h' : lookE l' = 0) (e : (getP l').pl = (getP l).pl) : okD l' = okD l := by
  rw [(getP_f h).2.2.2, (getP_f h').2.2.2] at e
  unfold okD
  rw [h, h', e]
theorem ap_get {l : List UInt8} (h : okD l = true) {sq tm ss f : Nat} (hsq : sq < 65536) (htm : tm < 4294967296) (hss : ss < 4294967296) (hf : f < 65536) :
    lookE (apP l sq tm ss f) = 0 ∧ getP (apP l sq tm ss f) = { getP l with sq := sq, tm := tm, ss := ss, pl := descL 0 (dK (plG l)) (dS (plG l)) f ++ (plG l).drop 4 } := by
  unfold apP
  rw [if_pos h]
  obtain ⟨g1, e1⟩ := fr_get h (k := 0) (by omega) hf
  obtain ⟨g2, e2⟩ := seq_get g1 hsq
  obtain ⟨g3, e3⟩ := tm_get g2 htm
  obtain ⟨g4, e4⟩ := ss_get g3 hss
  refine ⟨g4, ?_⟩
  rw [e4, e3, e2, e1]
theorem ap_desc {l : List UInt8} (h : okD l = true) {sq tm ss f : Nat} (hsq : sq < 65536) (htm : tm < 4294967296) (hss : ss < 4294967296) (hf : f < 65536) :
    okD (apP l sq tm ss f) = true ∧ dL (plG (apP l sq tm ss f)) = 0 ∧ dK (plG (apP l sq tm ss f)) = dK (plG l) ∧ dS (plG (apP l sq tm ss f)) = dS (plG l) ∧ dF (plG (apP l sq tm ss f)) = f ∧ (plG (apP l sq tm ss f)).drop 4 = (plG l).drop 4 := by
  obtain ⟨g1, g2⟩ := ap_get h hsq htm hss hf
  obtain ⟨f1, f2⟩ := fr_get h (k := 0) (f := f) (by omega) hf
  have hp : plG (apP l sq tm ss f) = plG (frL l 0 f) := by rw [← (getP_f g1).2.2.2, ← (getP_f f1).2.2.2, g2, f2]
  rw [hp]
  obtain ⟨t1, t2⟩ := fr_desc h (k := 0) (f := f) (by omega) hf
  refine ⟨?_, t2⟩
  rw [← t1]
  exact okD_iff f1 g1 (by rw [(getP_f f1).2.2.2, (getP_f g1).2.2.2, hp])
end Go.Proofs.Ytknlkmencdlpcaa

namespace Go.Proofs.Ytknlkmencdlpcaa
set_option linter.unusedVariables false
set_option linter.unusedSimpArgs false
open Go Go.RowKit

theorem numberP_w (A : Option Addr) (n c : Nat) (l : List UInt8) (Z S : Int) (a s : Nat) (hZ : Z = a) (hS : S = s) (w : World) (h : Bts w A n c l) (h1 : a ≤ 9223372036854775807) (h2 : s ≤ 9223372036854775807) :
    Calls Try.prog 82 #[.slice A n c, .int .i64 Z, .int .i64 S] w fun e w' => e = .returned (.int .u64 (getN l a s : Nat)) ∧ w' = w := by
  subst hZ hS
  have HB := Lib.hid h
  clear h
  go_enter Try.func82, Try.ntmps82
  go_wp2_with (go_at_call 120; (with_reducible refine (get_any A n c l _ _ _ HB.out.len HB.out.nc HB.out.cm HB.out.rd (by omega) (by omega)).mono ?_); rintro e w1 ⟨rfl, rfl⟩)
  go_ret
  exact ⟨rfl, rfl⟩
theorem numberP_v (A : Option Addr) (n c : Nat) (l : List UInt8) (Z S : Int) (a s N : Nat) (hZ : Z = a) (hS : S = s) (hN : getN l Z S = N) (w : World) (h : Bts w A n c l) (h1 : a ≤ 9223372036854775807) (h2 : s ≤ 9223372036854775807) :
    Calls Try.prog 82 #[.slice A n c, .int .i64 Z, .int .i64 S] w fun e w' => e = .returned (.int .u64 N) ∧ w' = w := by
  subst hN hZ hS
  exact numberP_w A n c l _ _ a s rfl rfl w h h1 h2
def oS (l : List UInt8) : Nat := if okD l then getN l 2 2 else 0
def oT (l : List UInt8) : Nat := if okD l then getN l 4 4 else 0
def oR (l : List UInt8) : Nat := if okD l then getN l 8 4 else 0
def oF (l : List UInt8) : Nat := if okD l then dF (plG l) else 0
set_option maxRecDepth 20000 in
set_option maxHeartbeats 4000000 in
theorem ofP_any (A : Option Addr) (n c : Nat) (l : List UInt8) (w : World) (h : Bts w A n c l) :
    Calls Try.prog 20 #[.slice A n c] w fun e w' => e = .returned (.tuple #[.agg #[.int .u16 (oS l), .int .u32 (oT l), .int .u32 (oR l), .int .u16 (oF l)], .bool (okD l)]) ∧ Below w.heap.size w w' := by
  have HB := Lib.hid h
  clear h
  cases hok : okD l
  · have HK := Lib.hid hok
    have HO : Hid (oS l = 0 ∧ oT l = 0 ∧ oR l = 0 ∧ oF l = 0) := by refine ⟨?_, ?_, ?_, ?_⟩ <;> simp [oS, oT, oR, oF, hok]
    clear hok
    go_enter Try.func20, Try.ntmps20
    go_wp2_with (first
      | (go_at_call 78; (with_reducible refine (described_v l _ false rfl HK.out A n c _ (HB.out.below ((Below.refl _ _).alloc (Nat.le_refl _) _))).mono ?_); rintro e w1 ⟨rfl, hb1⟩; have hb2 := ((Below.refl w.heap.size w).alloc (Nat.le_refl _) _).trans (hb1.mono (by simp)); have hit := blk_below (blk_alloc _ _) hb1; have hit' := blk_below hit ((Below.refl w1.heap.size w1).alloc (Nat.le_refl _) (.cells #[.int .i64 (dL (plD l)), .bool (dK (plD l)), .bool (dS (plD l)), .int .u16 (dF (plD l))] 109)); have hb3 := hb2.alloc hb2.size (.cells #[.int .i64 (dL (plD l)), .bool (dK (plD l)), .bool (dS (plD l)), .int .u16 (dF (plD l))] 109))
      | (refine wpList_store_blk rfl 26 (.tmp 2) (.tmp 15) rfl w.heap.size _ #[.int .u16 0, .int .u32 0, .int .u32 0, .int .u16 0] _ rfl rfl hit' rfl (by kernel_rfl) (by simp [Value.oneCell']) ?_; intro w5 hi5 hg5; obtain ⟨r0, r1, r2, r3⟩ := four_set hi5))
    exact bodyPost_ret (v := .tuple #[.agg #[.int .u16 0, .int .u32 0, .int .u32 0, .int .u16 0], .bool false]) (by simp [results, Try.results20, go_sem, r0, r1, r2, r3]) rfl ⟨by rw [HO.out.1, HO.out.2.1, HO.out.2.2.1, HO.out.2.2.2]; rfl, hb3.grown hg5 hb3.size (fun q hq => by injection hq with hq; omega)⟩
  · have HK := Lib.hid hok
    obtain ⟨he, hr, hT, hd⟩ := okD_room hok
    have HO : Hid (oS l = getN l 2 2 ∧ oT l = getN l 4 4 ∧ oR l = getN l 8 4 ∧ oF l = dF (plD l)) := by refine ⟨?_, ?_, ?_, ?_⟩ <;> simp [oS, oT, oR, oF, hok, plD, he]
    obtain ⟨N2, hN2⟩ : ∃ N, getN l 2 2 = N := ⟨_, rfl⟩
    have hL2 : N2 < 65536 := by rw [← hN2]; exact (getN_ltS l 2 2 : getN l 2 2 < 256 ^ 2)
    have HM2 := Lib.hid hN2
    obtain ⟨N4, hN4⟩ : ∃ N, getN l 4 4 = N := ⟨_, rfl⟩
    have hL4 : N4 < 4294967296 := by rw [← hN4]; exact (getN_ltS l 4 4 : getN l 4 4 < 256 ^ 4)
    have HM4 := Lib.hid hN4
    obtain ⟨N8, hN8⟩ : ∃ N, getN l 8 4 = N := ⟨_, rfl⟩
    have hL8 : N8 < 4294967296 := by rw [← hN8]; exact (getN_ltS l 8 4 : getN l 8 4 < 256 ^ 4)
    have HM8 := Lib.hid hN8
    clear hN2 hN4 hN8
    clear hok he hr hT hd
    go_enter Try.func20, Try.ntmps20
    go_wp2_with (first
      | (go_at_call 78; (with_reducible refine (described_v l _ true rfl HK.out A n c _ (HB.out.below ((Below.refl _ _).alloc (Nat.le_refl _) _))).mono ?_); rintro e w1 ⟨rfl, hb1⟩; have hb2 := ((Below.refl w.heap.size w).alloc (Nat.le_refl _) _).trans (hb1.mono (by simp)); have hit := blk_below (blk_alloc _ _) hb1; have hit' := blk_below hit ((Below.refl w1.heap.size w1).alloc (Nat.le_refl _) (.cells #[.int .i64 (dL (plD l)), .bool (dK (plD l)), .bool (dS (plD l)), .int .u16 (dF (plD l))] 109)); have hb3 := hb2.alloc hb2.size (.cells #[.int .i64 (dL (plD l)), .bool (dK (plD l)), .bool (dS (plD l)), .int .u16 (dF (plD l))] 109))
      | fail)
    refine region_planA (calmB_sound _) (.fork [0, 3, 6, 9] (.check [10, 1] 2 (.check [2, 4] 5 (.leaf [5, 7, 8, 11, 12, 13]))) (.check [1] 2 (.fork [2] (.check [10, 4] 5 (.leaf [5, 7, 8, 11, 12, 13])) (.check [4] 5 (.fork [5] (.leaf [10, 7, 8, 11, 12, 13]) (.check [7] 8 (.leaf [8, 10, 11, 12, 13]))))))) (by kernel_rfl) (by kernel_rfl) (by kernel_rfl) ?_
    have hnew := heap_alloc_new w1 (.cells #[.int .i64 (dL (plD l)), .bool (dK (plD l)), .bool (dS (plD l)), .int .u16 (dF (plD l))] 109)
    have hnew' : ((w1.alloc (.cells #[.int .i64 (dL (plD l)), .bool (dK (plD l)), .bool (dS (plD l)), .int .u16 (dF (plD l))] 109)).drew).heap[w1.heap.size]? = some (.cells #[.int .i64 (dL (plD l)), .bool (dK (plD l)), .bool (dS (plD l)), .int .u16 (dF (plD l))] 109 (0, 0)) := hnew
    have HIT : Hid (((w1.alloc (.cells #[.int .i64 (dL (plD l)), .bool (dK (plD l)), .bool (dS (plD l)), .int .u16 (dF (plD l))] 109)).drew).heap[w.heap.size]? = some (.cells #[.int .u16 0, .int .u32 0, .int .u32 0, .int .u16 0] 26 (0, 0))) := hit'
    have HB5 := Lib.hid hb3.drew
    have HBW := Lib.hid (HB.out.below HB5.out)
    generalize (w1.alloc (.cells #[.int .i64 (dL (plD l)), .bool (dK (plD l)), .bool (dS (plD l)), .int .u16 (dF (plD l))] 109)).drew = w4 at *
    obtain ⟨x0, x1, x2, x3⟩ := four_set hnew'
    refine wpPlan_fork fun P1 hP1 => ?_
    simp only [List.filterMap_cons, List.filterMap_nil, List.getElem?_toArray, List.getElem?_cons_succ, List.getElem?_cons_zero]
    change wpList _ _ _ [_, _, _, _] _ _
    go_wp2
    refine hP1 _ _ ?_ ?_
    · refine wpPlan_check fun P2 hP2 => ?_
      simp only [List.filterMap_cons, List.filterMap_nil, List.getElem?_toArray, List.getElem?_cons_succ, List.getElem?_cons_zero]
      change wpList _ _ _ [_, _] _ _
      go_wp2_with (first | (go_at_call 82; (with_reducible refine (numberP_v A n c l 2 2 2 2 N2 rfl rfl HM2.out _ HBW.out (by omega) (by omega)).mono ?_); rintro e w5 ⟨rfl, rfl⟩) | (go_at_call 82; (with_reducible refine (numberP_v A n c l 4 4 4 4 N4 rfl rfl HM4.out _ HBW.out (by omega) (by omega)).mono ?_); rintro e w5 ⟨rfl, rfl⟩) | (go_at_call 82; (with_reducible refine (numberP_v A n c l 8 4 8 4 N8 rfl rfl HM8.out _ HBW.out (by omega) (by omega)).mono ?_); rintro e w5 ⟨rfl, rfl⟩) | (refine wpList_store_blk rfl 26 (.tmp 2) (.tmp 27) rfl w.heap.size _ #[.int .u16 (N2 : Nat), .int .u32 (N4 : Nat), .int .u32 (N8 : Nat), .int .u16 (dF (plD l) : Nat)] _ rfl rfl HIT.out rfl (by kernel_rfl) (by simp [Value.oneCell']) ?_; intro w6 hi6 hg6; obtain ⟨r0, r1, r2, r3⟩ := four_set hi6))
      refine hP2 _ _ (by first | exact fun _ => .inl ⟨_, _, _, _, rfl, rfl⟩ | exact fun _ => ⟨_, _, rfl⟩) ?_
      refine wpPlan_check fun P3 hP3 => ?_
      simp only [List.filterMap_cons, List.filterMap_nil, List.getElem?_toArray, List.getElem?_cons_succ, List.getElem?_cons_zero]
      change wpList _ _ _ [_, _] _ _
      go_wp2_with (first | (go_at_call 82; (with_reducible refine (numberP_v A n c l 2 2 2 2 N2 rfl rfl HM2.out _ HBW.out (by omega) (by omega)).mono ?_); rintro e w5 ⟨rfl, rfl⟩) | (go_at_call 82; (with_reducible refine (numberP_v A n c l 4 4 4 4 N4 rfl rfl HM4.out _ HBW.out (by omega) (by omega)).mono ?_); rintro e w5 ⟨rfl, rfl⟩) | (go_at_call 82; (with_reducible refine (numberP_v A n c l 8 4 8 4 N8 rfl rfl HM8.out _ HBW.out (by omega) (by omega)).mono ?_); rintro e w5 ⟨rfl, rfl⟩) | (refine wpList_store_blk rfl 26 (.tmp 2) (.tmp 27) rfl w.heap.size _ #[.int .u16 (N2 : Nat), .int .u32 (N4 : Nat), .int .u32 (N8 : Nat), .int .u16 (dF (plD l) : Nat)] _ rfl rfl HIT.out rfl (by kernel_rfl) (by simp [Value.oneCell']) ?_; intro w6 hi6 hg6; obtain ⟨r0, r1, r2, r3⟩ := four_set hi6))
      refine hP3 _ _ (by first | exact fun _ => .inl ⟨_, _, _, _, rfl, rfl⟩ | exact fun _ => ⟨_, _, rfl⟩) ?_
      refine wpPlan_leaf fun P4 hP4 => ?_
      simp only [List.filterMap_cons, List.filterMap_nil, List.getElem?_toArray, List.getElem?_cons_succ, List.getElem?_cons_zero]
      change wpList _ _ _ [_, _, _, _, _, _] _ _
      go_wp2_with (first | (go_at_call 82; (with_reducible refine (numberP_v A n c l 2 2 2 2 N2 rfl rfl HM2.out _ HBW.out (by omega) (by omega)).mono ?_); rintro e w5 ⟨rfl, rfl⟩) | (go_at_call 82; (with_reducible refine (numberP_v A n c l 4 4 4 4 N4 rfl rfl HM4.out _ HBW.out (by omega) (by omega)).mono ?_); rintro e w5 ⟨rfl, rfl⟩) | (go_at_call 82; (with_reducible refine (numberP_v A n c l 8 4 8 4 N8 rfl rfl HM8.out _ HBW.out (by omega) (by omega)).mono ?_); rintro e w5 ⟨rfl, rfl⟩) | (refine wpList_store_blk rfl 26 (.tmp 2) (.tmp 27) rfl w.heap.size _ #[.int .u16 (N2 : Nat), .int .u32 (N4 : Nat), .int .u32 (N8 : Nat), .int .u16 (dF (plD l) : Nat)] _ rfl rfl HIT.out rfl (by kernel_rfl) (by simp [Value.oneCell']) ?_; intro w6 hi6 hg6; obtain ⟨r0, r1, r2, r3⟩ := four_set hi6))
      exact bodyPost_ret (v := .tuple #[.agg #[.int .u16 (N2 : Nat), .int .u32 (N4 : Nat), .int .u32 (N8 : Nat), .int .u16 (dF (plD l) : Nat)], .bool true]) (by simp [results, Try.results20, go_sem, r0, r1, r2, r3]) rfl ⟨by rw [HO.out.1, HO.out.2.1, HO.out.2.2.1, HO.out.2.2.2, HM2.out, HM4.out, HM8.out], HB5.out.grown hg6 HB5.out.size (fun q hq => by injection hq with hq; omega)⟩
    · refine wpPlan_check fun P5 hP5 => ?_
      simp only [List.filterMap_cons, List.filterMap_nil, List.getElem?_toArray, List.getElem?_cons_succ, List.getElem?_cons_zero]
      change wpList _ _ _ [_] _ _
      go_wp2_with (first | (go_at_call 82; (with_reducible refine (numberP_v A n c l 2 2 2 2 N2 rfl rfl HM2.out _ HBW.out (by omega) (by omega)).mono ?_); rintro e w5 ⟨rfl, rfl⟩) | (go_at_call 82; (with_reducible refine (numberP_v A n c l 4 4 4 4 N4 rfl rfl HM4.out _ HBW.out (by omega) (by omega)).mono ?_); rintro e w5 ⟨rfl, rfl⟩) | (go_at_call 82; (with_reducible refine (numberP_v A n c l 8 4 8 4 N8 rfl rfl HM8.out _ HBW.out (by omega) (by omega)).mono ?_); rintro e w5 ⟨rfl, rfl⟩) | (refine wpList_store_blk rfl 26 (.tmp 2) (.tmp 27) rfl w.heap.size _ #[.int .u16 (N2 : Nat), .int .u32 (N4 : Nat), .int .u32 (N8 : Nat), .int .u16 (dF (plD l) : Nat)] _ rfl rfl HIT.out rfl (by kernel_rfl) (by simp [Value.oneCell']) ?_; intro w6 hi6 hg6; obtain ⟨r0, r1, r2, r3⟩ := four_set hi6))
      refine hP5 _ _ (by first | exact fun _ => .inl ⟨_, _, _, _, rfl, rfl⟩ | exact fun _ => ⟨_, _, rfl⟩) ?_
      refine wpPlan_fork fun P6 hP6 => ?_
      simp only [List.filterMap_cons, List.filterMap_nil, List.getElem?_toArray, List.getElem?_cons_succ, List.getElem?_cons_zero]
      change wpList _ _ _ [_] _ _
      go_wp2
      refine hP6 _ _ ?_ ?_
      · refine wpPlan_check fun P7 hP7 => ?_
        simp only [List.filterMap_cons, List.filterMap_nil, List.getElem?_toArray, List.getElem?_cons_succ, List.getElem?_cons_zero]
        change wpList _ _ _ [_, _] _ _
        go_wp2_with (first | (go_at_call 82; (with_reducible refine (numberP_v A n c l 2 2 2 2 N2 rfl rfl HM2.out _ HBW.out (by omega) (by omega)).mono ?_); rintro e w5 ⟨rfl, rfl⟩) | (go_at_call 82; (with_reducible refine (numberP_v A n c l 4 4 4 4 N4 rfl rfl HM4.out _ HBW.out (by omega) (by omega)).mono ?_); rintro e w5 ⟨rfl, rfl⟩) | (go_at_call 82; (with_reducible refine (numberP_v A n c l 8 4 8 4 N8 rfl rfl HM8.out _ HBW.out (by omega) (by omega)).mono ?_); rintro e w5 ⟨rfl, rfl⟩) | (refine wpList_store_blk rfl 26 (.tmp 2) (.tmp 27) rfl w.heap.size _ #[.int .u16 (N2 : Nat), .int .u32 (N4 : Nat), .int .u32 (N8 : Nat), .int .u16 (dF (plD l) : Nat)] _ rfl rfl HIT.out rfl (by kernel_rfl) (by simp [Value.oneCell']) ?_; intro w6 hi6 hg6; obtain ⟨r0, r1, r2, r3⟩ := four_set hi6))
        refine hP7 _ _ (by first | exact fun _ => .inl ⟨_, _, _, _, rfl, rfl⟩ | exact fun _ => ⟨_, _, rfl⟩) ?_
        refine wpPlan_leaf fun P8 hP8 => ?_
        simp only [List.filterMap_cons, List.filterMap_nil, List.getElem?_toArray, List.getElem?_cons_succ, List.getElem?_cons_zero]
        change wpList _ _ _ [_, _, _, _, _, _] _ _
        go_wp2_with (first | (go_at_call 82; (with_reducible refine (numberP_v A n c l 2 2 2 2 N2 rfl rfl HM2.out _ HBW.out (by omega) (by omega)).mono ?_); rintro e w5 ⟨rfl, rfl⟩) | (go_at_call 82; (with_reducible refine (numberP_v A n c l 4 4 4 4 N4 rfl rfl HM4.out _ HBW.out (by omega) (by omega)).mono ?_); rintro e w5 ⟨rfl, rfl⟩) | (go_at_call 82; (with_reducible refine (numberP_v A n c l 8 4 8 4 N8 rfl rfl HM8.out _ HBW.out (by omega) (by omega)).mono ?_); rintro e w5 ⟨rfl, rfl⟩) | (refine wpList_store_blk rfl 26 (.tmp 2) (.tmp 27) rfl w.heap.size _ #[.int .u16 (N2 : Nat), .int .u32 (N4 : Nat), .int .u32 (N8 : Nat), .int .u16 (dF (plD l) : Nat)] _ rfl rfl HIT.out rfl (by kernel_rfl) (by simp [Value.oneCell']) ?_; intro w6 hi6 hg6; obtain ⟨r0, r1, r2, r3⟩ := four_set hi6))
        exact bodyPost_ret (v := .tuple #[.agg #[.int .u16 (N2 : Nat), .int .u32 (N4 : Nat), .int .u32 (N8 : Nat), .int .u16 (dF (plD l) : Nat)], .bool true]) (by simp [results, Try.results20, go_sem, r0, r1, r2, r3]) rfl ⟨by rw [HO.out.1, HO.out.2.1, HO.out.2.2.1, HO.out.2.2.2, HM2.out, HM4.out, HM8.out], HB5.out.grown hg6 HB5.out.size (fun q hq => by injection hq with hq; omega)⟩
      · refine wpPlan_check fun P9 hP9 => ?_
        simp only [List.filterMap_cons, List.filterMap_nil, List.getElem?_toArray, List.getElem?_cons_succ, List.getElem?_cons_zero]
        change wpList _ _ _ [_] _ _
        go_wp2_with (first | (go_at_call 82; (with_reducible refine (numberP_v A n c l 2 2 2 2 N2 rfl rfl HM2.out _ HBW.out (by omega) (by omega)).mono ?_); rintro e w5 ⟨rfl, rfl⟩) | (go_at_call 82; (with_reducible refine (numberP_v A n c l 4 4 4 4 N4 rfl rfl HM4.out _ HBW.out (by omega) (by omega)).mono ?_); rintro e w5 ⟨rfl, rfl⟩) | (go_at_call 82; (with_reducible refine (numberP_v A n c l 8 4 8 4 N8 rfl rfl HM8.out _ HBW.out (by omega) (by omega)).mono ?_); rintro e w5 ⟨rfl, rfl⟩) | (refine wpList_store_blk rfl 26 (.tmp 2) (.tmp 27) rfl w.heap.size _ #[.int .u16 (N2 : Nat), .int .u32 (N4 : Nat), .int .u32 (N8 : Nat), .int .u16 (dF (plD l) : Nat)] _ rfl rfl HIT.out rfl (by kernel_rfl) (by simp [Value.oneCell']) ?_; intro w6 hi6 hg6; obtain ⟨r0, r1, r2, r3⟩ := four_set hi6))
        refine hP9 _ _ (by first | exact fun _ => .inl ⟨_, _, _, _, rfl, rfl⟩ | exact fun _ => ⟨_, _, rfl⟩) ?_
        refine wpPlan_fork fun P10 hP10 => ?_
        simp only [List.filterMap_cons, List.filterMap_nil, List.getElem?_toArray, List.getElem?_cons_succ, List.getElem?_cons_zero]
        change wpList _ _ _ [_] _ _
        go_wp2
        refine hP10 _ _ ?_ ?_
        · refine wpPlan_leaf fun P11 hP11 => ?_
          simp only [List.filterMap_cons, List.filterMap_nil, List.getElem?_toArray, List.getElem?_cons_succ, List.getElem?_cons_zero]
          change wpList _ _ _ [_, _, _, _, _, _] _ _
          go_wp2_with (first | (go_at_call 82; (with_reducible refine (numberP_v A n c l 2 2 2 2 N2 rfl rfl HM2.out _ HBW.out (by omega) (by omega)).mono ?_); rintro e w5 ⟨rfl, rfl⟩) | (go_at_call 82; (with_reducible refine (numberP_v A n c l 4 4 4 4 N4 rfl rfl HM4.out _ HBW.out (by omega) (by omega)).mono ?_); rintro e w5 ⟨rfl, rfl⟩) | (go_at_call 82; (with_reducible refine (numberP_v A n c l 8 4 8 4 N8 rfl rfl HM8.out _ HBW.out (by omega) (by omega)).mono ?_); rintro e w5 ⟨rfl, rfl⟩) | (refine wpList_store_blk rfl 26 (.tmp 2) (.tmp 27) rfl w.heap.size _ #[.int .u16 (N2 : Nat), .int .u32 (N4 : Nat), .int .u32 (N8 : Nat), .int .u16 (dF (plD l) : Nat)] _ rfl rfl HIT.out rfl (by kernel_rfl) (by simp [Value.oneCell']) ?_; intro w6 hi6 hg6; obtain ⟨r0, r1, r2, r3⟩ := four_set hi6))
          exact bodyPost_ret (v := .tuple #[.agg #[.int .u16 (N2 : Nat), .int .u32 (N4 : Nat), .int .u32 (N8 : Nat), .int .u16 (dF (plD l) : Nat)], .bool true]) (by simp [results, Try.results20, go_sem, r0, r1, r2, r3]) rfl ⟨by rw [HO.out.1, HO.out.2.1, HO.out.2.2.1, HO.out.2.2.2, HM2.out, HM4.out, HM8.out], HB5.out.grown hg6 HB5.out.size (fun q hq => by injection hq with hq; omega)⟩
        · refine wpPlan_check fun P12 hP12 => ?_
          simp only [List.filterMap_cons, List.filterMap_nil, List.getElem?_toArray, List.getElem?_cons_succ, List.getElem?_cons_zero]
          change wpList _ _ _ [_] _ _
          go_wp2_with (first | (go_at_call 82; (with_reducible refine (numberP_v A n c l 2 2 2 2 N2 rfl rfl HM2.out _ HBW.out (by omega) (by omega)).mono ?_); rintro e w5 ⟨rfl, rfl⟩) | (go_at_call 82; (with_reducible refine (numberP_v A n c l 4 4 4 4 N4 rfl rfl HM4.out _ HBW.out (by omega) (by omega)).mono ?_); rintro e w5 ⟨rfl, rfl⟩) | (go_at_call 82; (with_reducible refine (numberP_v A n c l 8 4 8 4 N8 rfl rfl HM8.out _ HBW.out (by omega) (by omega)).mono ?_); rintro e w5 ⟨rfl, rfl⟩) | (refine wpList_store_blk rfl 26 (.tmp 2) (.tmp 27) rfl w.heap.size _ #[.int .u16 (N2 : Nat), .int .u32 (N4 : Nat), .int .u32 (N8 : Nat), .int .u16 (dF (plD l) : Nat)] _ rfl rfl HIT.out rfl (by kernel_rfl) (by simp [Value.oneCell']) ?_; intro w6 hi6 hg6; obtain ⟨r0, r1, r2, r3⟩ := four_set hi6))
          refine hP12 _ _ (by first | exact fun _ => .inl ⟨_, _, _, _, rfl, rfl⟩ | exact fun _ => ⟨_, _, rfl⟩) ?_
          refine wpPlan_leaf fun P13 hP13 => ?_
          simp only [List.filterMap_cons, List.filterMap_nil, List.getElem?_toArray, List.getElem?_cons_succ, List.getElem?_cons_zero]
          change wpList _ _ _ [_, _, _, _, _] _ _
          go_wp2_with (first | (go_at_call 82; (with_reducible refine (numberP_v A n c l 2 2 2 2 N2 rfl rfl HM2.out _ HBW.out (by omega) (by omega)).mono ?_); rintro e w5 ⟨rfl, rfl⟩) | (go_at_call 82; (with_reducible refine (numberP_v A n c l 4 4 4 4 N4 rfl rfl HM4.out _ HBW.out (by omega) (by omega)).mono ?_); rintro e w5 ⟨rfl, rfl⟩) | (go_at_call 82; (with_reducible refine (numberP_v A n c l 8 4 8 4 N8 rfl rfl HM8.out _ HBW.out (by omega) (by omega)).mono ?_); rintro e w5 ⟨rfl, rfl⟩) | (refine wpList_store_blk rfl 26 (.tmp 2) (.tmp 27) rfl w.heap.size _ #[.int .u16 (N2 : Nat), .int .u32 (N4 : Nat), .int .u32 (N8 : Nat), .int .u16 (dF (plD l) : Nat)] _ rfl rfl HIT.out rfl (by kernel_rfl) (by simp [Value.oneCell']) ?_; intro w6 hi6 hg6; obtain ⟨r0, r1, r2, r3⟩ := four_set hi6))
          exact bodyPost_ret (v := .tuple #[.agg #[.int .u16 (N2 : Nat), .int .u32 (N4 : Nat), .int .u32 (N8 : Nat), .int .u16 (dF (plD l) : Nat)], .bool true]) (by simp [results, Try.results20, go_sem, r0, r1, r2, r3]) rfl ⟨by rw [HO.out.1, HO.out.2.1, HO.out.2.2.1, HO.out.2.2.2, HM2.out, HM4.out, HM8.out], HB5.out.grown hg6 HB5.out.size (fun q hq => by injection hq with hq; omega)⟩
end Go.Proofs.Ytknlkmencdlpcaa
