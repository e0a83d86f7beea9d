/-
BatchFree: up to 100 writes of one packet hold one reference each, until Flush sends the packet once for each with its own number; then the slot is free. For every number and all numbers of packets.
-/
import Derived.Test.YtnkgkiiagifnmaaBt5
import Derived.Test.YtnkgkiiagifnmaaRows
namespace Go.Proofs.Ytnkgkiiagifnmaa
set_option linter.unusedVariables false
set_option linter.unusedSimpArgs false
open Go Go.RowKit

theorem i64_and_mask (n : Int) (j : Nat) (M : Int) (h127 : (BitVec.ofInt 64 M).toNat = 2 ^ j - 1) (hj : j ≤ 16) : bits .and .i64 n M = n % (2 ^ j : Nat) := by
  have key : (BitVec.ofInt 64 n &&& BitVec.ofInt 64 M).toNat = (n % ((2 ^ 64 : Nat) : Int)).toNat % 2 ^ j := by
    rw [BitVec.toNat_and, BitVec.toNat_ofInt, h127, Nat.and_two_pow_sub_one_eq_mod]
  show IntKind.i64.wrap ((BitVec.ofInt 64 n &&& BitVec.ofInt 64 M).toNat : Nat) = _
  rw [key, IntKind.wrap_i64]
  have : j = 0 ∨ j = 1 ∨ j = 2 ∨ j = 3 ∨ j = 4 ∨ j = 5 ∨ j = 6 ∨ j = 7 ∨ j = 8 ∨ j = 9 ∨ j = 10 ∨ j = 11 ∨ j = 12 ∨ j = 13 ∨ j = 14 ∨ j = 15 ∨ j = 16 := by omega
  rcases this with rfl | rfl | rfl | rfl | rfl | rfl | rfl | rfl | rfl | rfl | rfl | rfl | rfl | rfl | rfl | rfl | rfl <;> simp only [Nat.reducePow, Int.reducePow] <;> omega
theorem i64_and_1 (n : Int) : bits .and .i64 n 1 = n % 2 := by
  have := i64_and_mask n 1 1 (by decide) (by omega)
  simpa using this
/-- Four slots, of which the first one is held k times, or was. -/
def F4 (k : Nat) : List Slo := (if k = 0 then (2, 0) else (1, k)) :: [(1, 0), (1, 0), (1, 0)]
theorem f4_zero : F4 0 = [(2, 0), (1, 0), (1, 0), (1, 0)] := rfl
theorem f4_succ (k : Nat) : F4 (k + 1) = [(1, k + 1), (1, 0), (1, 0), (1, 0)] := by unfold F4; rw [if_neg (by omega)]
theorem f4_live (k : Nat) : liveS (F4 (k + 1)) 0 1 = true := by rw [f4_succ]; simp [liveS]
theorem f4_dead : liveS (F4 0) 0 1 = false := by decide
theorem f4_keep (k : Nat) : keepS (F4 (k + 1)) 0 1 = F4 (k + 2) := by unfold keepS; rw [if_pos (f4_live k), f4_succ, f4_succ]; rfl
theorem f4_drop (k : Nat) : dropS (F4 (k + 1)) 0 1 = F4 k := by
  unfold dropS
  rw [if_pos (f4_live k), f4_succ]
  cases k with
  | zero => rfl
  | succ k => rw [f4_succ]; simp
theorem f4_refs (k : Nat) : refsS (F4 k) 0 1 = k := by
  cases k with
  | zero => rfl
  | succ k => unfold refsS; rw [if_pos (f4_live k), f4_succ]; rfl
theorem f4_stale (k : Nat) : staleS (F4 (k + 1)) 0 1 = 0 := staleS_yes (f4_live k)
theorem f4_big (k : Nat) (hk : k ≤ 200) : ∀ s ∈ F4 k, s.2 < 9223372036854775807 := by
  intro s hs
  unfold F4 at hs
  split at hs
  · simp at hs; rcases hs with rfl | rfl <;> decide
  · simp at hs; rcases hs with rfl | rfl
    · show k < _; omega
    · decide
theorem f4_bytes (k : Nat) (L : Nat → List UInt8) : bytesL (F4 (k + 1)) L 0 1 = L 0 := by unfold bytesL; rw [if_pos (f4_live k)]; rfl
/-- The writes of the packet, with these numbers. -/
def FrW (l : List Int) (ws : List Wr) : Prop := ∀ (j : Nat) (h : j < ws.length), pkB ws[j].k = true ∧ ws[j].i = 0 ∧ ws[j].g = 1 ∧ l[j]? = some (ws[j].sq : Int) ∧ ws[j].sq < 65536 ∧ ws[j].tm = 0 ∧ ws[j].ss = 0 ∧ ws[j].f = 0
theorem frw_S (ws : List Wr) (h : ∀ x ∈ ws, pkB x.k = true ∧ x.i = 0 ∧ x.g = 1) (m : Nat) : flS (F4 (ws.length + m)) ws = F4 m := by
  induction ws with
  | nil => rw [List.length_nil, Nat.zero_add]; rfl
  | cons x ws ih =>
    obtain ⟨h1, h2, h3⟩ := h x (List.mem_cons_self ..)
    have e : sentS (F4 ((x :: ws).length + m)) x = F4 (ws.length + m) := by
      unfold sentS
      rw [if_pos h1, h2, h3, List.length_cons, show ws.length + 1 + m = ws.length + m + 1 by omega, f4_drop]
    show flS (sentS _ x) ws = _
    rw [e]
    exact ih fun y hy => h y (List.mem_cons_of_mem _ hy)
theorem frw_Y (L : Nat → List UInt8) (ws : List Wr) (h : ∀ x ∈ ws, pkB x.k = true ∧ x.i = 0 ∧ x.g = 1) (m : Nat) : (flY L (F4 (ws.length + m)) ws).map (fun y => y.z.l) = ws.map fun x => apP (L 0) x.sq x.tm x.ss x.f := by
  induction ws with
  | nil => rfl
  | cons x ws ih =>
    obtain ⟨h1, h2, h3⟩ := h x (List.mem_cons_self ..)
    have e : sentS (F4 ((x :: ws).length + m)) x = F4 (ws.length + m) := by
      unfold sentS
      rw [if_pos h1, h2, h3, List.length_cons, show ws.length + 1 + m = ws.length + m + 1 by omega, f4_drop]
    have e2 : sentL (F4 ((x :: ws).length + m)) L x = apP (L 0) x.sq x.tm x.ss x.f := by
      unfold sentL
      rw [if_pos h1, h2, h3, List.length_cons, show ws.length + 1 + m = ws.length + m + 1 by omega, f4_bytes]
    rw [flY, List.map_cons, List.map_cons, e, e2, ih fun y hy => h y (List.mem_cons_of_mem _ hy)]
theorem sam7_ap (s : Nat) (hs : s < 65536) : (apP (samN 7) s 0 0 0).length = 17 ∧ byteN (apP (samN 7) s 0 0 0) 2 = s / 256 ∧ byteN (apP (samN 7) s 0 0 0) 3 = s % 256 := by
  have hok : okD (samN 7) = true := by decide +kernel
  have hl : (apP (samN 7) s 0 0 0).length = 17 := ap_len (samN 7) hs (by omega) (by omega) (by omega)
  have h1 := (ap_of hok hs (tm := 0) (ss := 0) (f := 0) (by omega) (by omega) (by omega)).1
  have h2 := (ap_desc hok hs (tm := 0) (ss := 0) (f := 0) (by omega) (by omega) (by omega)).1
  unfold oS at h1
  rw [if_pos h2, getN_22 _ (by omega)] at h1
  have b2 : byteN (apP (samN 7) s 0 0 0) 2 = (apP (samN 7) s 0 0 0)[2].toNat := by unfold byteN; rw [List.getElem?_eq_getElem (by omega)]; rfl
  have b3 : byteN (apP (samN 7) s 0 0 0) 3 = (apP (samN 7) s 0 0 0)[3].toNat := by unfold byteN; rw [List.getElem?_eq_getElem (by omega)]; rfl
  have l2 := (apP (samN 7) s 0 0 0)[2].toNat_lt
  have l3 := (apP (samN 7) s 0 0 0)[3].toNat_lt
  refine ⟨hl, ?_, ?_⟩ <;> omega
section
variable {w0 w : World} {B pb P : Nat} {F G : Nat → Prop} {l : List Rsc} {N : Int} {L : Nat → List UInt8} {ws : List Wr}
theorem s4_new (w : World) : Calls Try.prog 39 #[.int .i64 4] w fun e w' => ∃ P, e = .returned (.pointer (some ⟨P, 0, none⟩)) ∧
      Sto w' w.heap.size (fun k => w.heap.size ≤ k ∧ k < w'.heap.size) P 4 [(1, 0), (1, 0), (1, 0), (1, 0)] noL ∧ Below w.heap.size w w' := snew_any 4 w (by omega)
theorem s4_put (h : Sto w B F P 4 [(1, 0), (1, 0), (1, 0), (1, 0)] noL) (A : Option Addr) (c : Nat) (hb : Bts w A 17 c (samN 7)) (hnil : A = none → 17 = 0 ∧ c = 0) (hout : 0 < 17 → ∀ b, A.map Addr.block = some b → ¬ F b) :
    Calls Try.prog 40 #[.pointer (some ⟨P, 0, none⟩), .slice A 17 c] w fun e w' => e = .returned (.tuple #[.agg #[.int .i64 0, .int .u32 1], .int .i64 0]) ∧
      (∃ F', Sto w' B F' P 4 (F4 1) (upd noL 0 (samN 7)) ∧ Grw F F' w.heap.size) ∧ Wen w w' F := sput_any h A 17 c (samN 7) hb hnil hout
theorem s4_add (k : Nat) (h : BatH w0 w B pb P N ws (rSto B G P 4 (F4 (k + 1)) L :: l)) (hws : ws.length = k) (hk : k ≤ 100) (K : Int) (hK : pkB K = true) (s : Nat) (hs : s < 65536) :
    Calls Try.prog 60 #[.pointer (some ⟨pb, 0, none⟩), .agg #[.int .i64 K, .int .i64 0, .int .i64 0, .int .i64 0, .int .u32 1, .int .u16 s, .int .u32 0, .int .u32 0, .int .u16 0, .slice none 0 0]] w fun e w' =>
      e = .returned (.int .i64 0) ∧ BatH w0 w' B pb P N (ws ++ [⟨K, 0, 0, 0, 1, s, 0, 0, 0, ⟨none, 0, 0, []⟩⟩]) (rSto B G P 4 (F4 (k + 2)) L :: l) := by
  have h1 := add_any h ⟨K, 0, 0, 0, 1, s, 0, 0, 0, ⟨none, 0, 0, []⟩⟩ (okNil w) (fun h => absurd h (by simp)) ⟨hs, by simp, by simp, by simp⟩ (f4_big _ (by omega)) (by omega)
  have hKr : ¬ (K < 1 ∨ 5 < K) := by unfold pkB at hK; simp at hK; omega
  have e1 : addE (F4 (k + 1)) ⟨K, 0, 0, 0, 1, s, 0, 0, 0, ⟨none, 0, 0, []⟩⟩ = 0 := by unfold addE; rw [if_neg hKr]; simp only; rw [hK, if_pos rfl]; exact f4_stale k
  have e2 : addS (F4 (k + 1)) ⟨K, 0, 0, 0, 1, s, 0, 0, 0, ⟨none, 0, 0, []⟩⟩ = F4 (k + 2) := by unfold addS; rw [if_neg hKr]; simp only; rw [hK, if_pos rfl]; exact f4_keep k
  have e3 : addW (F4 (k + 1)) ws ⟨K, 0, 0, 0, 1, s, 0, 0, 0, ⟨none, 0, 0, []⟩⟩ = ws ++ [⟨K, 0, 0, 0, 1, s, 0, 0, 0, ⟨none, 0, 0, []⟩⟩] := by unfold addW; rw [if_pos e1]; rfl
  rw [e1, e2, e3] at h1
  exact h1
theorem s4_stale (h : BatH w0 w B pb P N [] (rSto B G P 4 (F4 0) L :: l)) :
    Calls Try.prog 60 #[.pointer (some ⟨pb, 0, none⟩), .agg #[.int .i64 1, .int .i64 0, .int .i64 0, .int .i64 0, .int .u32 1, .int .u16 0, .int .u32 0, .int .u32 0, .int .u16 0, .slice none 0 0]] w fun e w' =>
      e = .returned (.int .i64 7) ∧ BatH w0 w' B pb P N [] (rSto B G P 4 (F4 0) L :: l) :=
  add_any h ⟨1, 0, 0, 0, 1, 0, 0, 0, 0, ⟨none, 0, 0, []⟩⟩ (okNil w) (fun h => absurd h (by simp)) ⟨by simp, by simp, by simp, by simp⟩ (f4_big _ (by omega)) (by simp)
theorem s4_drop (k : Nat) (hk : k ≤ 100) (h : Sto w B F P 4 (F4 (k + 1)) L) :
    Calls Try.prog 45 #[.pointer (some ⟨P, 0, none⟩), .agg #[.int .i64 0, .int .u32 1]] w fun e w' => e = .returned (.int .i64 0) ∧ Sto w' B F P 4 (F4 k) L ∧ Wen w w' F := by
  have h1 := sdrop_any h 0 1 (f4_big _ (by omega))
  rw [f4_stale, f4_drop] at h1
  exact h1
theorem s4_refs (k : Nat) (h : Sto w B F P 4 (F4 k) L) :
    Calls Try.prog 46 #[.pointer (some ⟨P, 0, none⟩), .agg #[.int .i64 0, .int .u32 1]] w fun e w' => e = .returned (.int .i64 k) ∧ Below w.heap.size w w' := by
  have h1 := srefs_any h 0 1
  rw [f4_refs] at h1
  exact h1
theorem s4_free (h : Sto w B F P 4 (F4 0) L) : Calls Try.prog 41 #[.pointer (some ⟨P, 0, none⟩)] w fun e w' => e = .returned (.int .i64 4) ∧ Below w.heap.size w w' := sfree_any h
theorem heldL_all (ws : List Wr) (h : ∀ x ∈ ws, pkB x.k = true) : (heldL ws).length = ws.length := by
  unfold heldL
  rw [List.length_map, List.filter_eq_self.2 h]
theorem s4_held (k : Nat) (hk : k ≤ 100) (h : BatH w0 w B pb P N ws l) (hws : ws.length = k) (hp : ∀ x ∈ ws, pkB x.k = true) : Calls Try.prog 64 #[.pointer (some ⟨pb, 0, none⟩)] w fun e w' => ∃ X d, e = .returned (.slice X k d) ∧ Below w.heap.size w w' := by
  refine (h.held (by omega)).mono ?_
  rintro e w' ⟨X, m, d, rfl, ho, hb⟩
  have := rowG_len hdV_length ho (by omega)
  rw [heldL_all ws hp] at this
  obtain rfl : m = k := by omega
  exact ⟨X, d, rfl, hb⟩
/-- What is sent: the packet, each time with its number. -/
def FrY (l : List Int) (Z : List Bz) (ys : List Snt) : Prop := ∀ (j : Nat) (h : j < ys.length), ys[j].z ∈ Z ∧ ys[j].z.n = 17 ∧ ∃ s : Nat, l[j]? = some (s : Int) ∧ s < 65536 ∧ byteN ys[j].z.l 2 = s / 256 ∧ byteN ys[j].z.l 3 = s % 256
def FrE (w0 w' : World) (B pb P : Nat) (N : Int) (G : Nat → Prop) (L : Nat → List UInt8) (l : List Rsc) (k : Nat) (sq : List Int) (e : Ending) : Prop :=
  ∃ (X : Option Addr) (d : Nat) (ys : List Snt) (F : Nat → Prop) (Z : List Bz), e = .returned (.slice X k d) ∧ ys.length = k ∧ FrY sq Z ys ∧
    Hold w0 w' B (rRow B 97 4 X k d (rowG snV ys) :: rVar pb (btO P N none 0 0) :: rRow B 93 10 none 0 0 (rowG wrV []) :: rPool F Z :: rSto B G P 4 (F4 0) L :: l)
theorem s4_flush (k : Nat) (hk : k ≤ 100) (sq : List Int) (hL : L 0 = samN 7) (h : BatH w0 w B pb P N ws (rSto B G P 4 (F4 k) L :: l)) (hws : ws.length = k) (hp : FrW sq ws) :
    Calls Try.prog 61 #[.pointer (some ⟨pb, 0, none⟩)] w fun e w' => FrE w0 w' B pb P N G L l k sq e := by
  subst hws
  have hpm : ∀ x ∈ ws, pkB x.k = true ∧ x.i = 0 ∧ x.g = 1 := fun x hx => by
    obtain ⟨j, hj, rfl⟩ := List.getElem_of_mem hx
    obtain ⟨h1, h2, h3, _⟩ := hp j hj
    exact ⟨h1, h2, h3⟩
  refine (flush_any h (f4_big _ (by omega)) (by omega)).mono ?_
  rintro e w' ⟨X, m, d, ys, F, Z, rfl, hys, hyz, hk'⟩
  have hl : ys.length = ws.length := by have := congrArg List.length hys; rwa [List.length_map, flY_length] at this
  have hm := rowG_len snV_length (hk'.get 0 rfl) (by omega)
  obtain rfl : m = ws.length := by omega
  have hS := frw_S ws hpm 0
  rw [Nat.add_zero] at hS
  rw [hS] at hk'
  have hY := frw_Y L ws hpm 0
  rw [Nat.add_zero, ← hys, List.map_map, hL] at hY
  refine ⟨X, d, ys, F, Z, rfl, hl, fun j hj => ?_, hk'⟩
  have hjw : j < ws.length := by omega
  obtain ⟨_, _, _, h4, h5, h6, h7, h8⟩ := hp j hjw
  have e1 : ys[j].z.l = apP (samN 7) ws[j].sq 0 0 0 := by
    have := congrArg (fun t => t[j]?) hY
    simp only [List.getElem?_map, List.getElem?_eq_getElem hj, List.getElem?_eq_getElem hjw, Option.map_some, Option.some.injEq] at this
    rw [h6, h7, h8] at this
    exact this
  obtain ⟨a1, a2, a3⟩ := sam7_ap ws[j].sq h5
  have hz := hk'.pool 3 rfl (hyz _ (List.getElem_mem hj))
  exact ⟨hyz _ (List.getElem_mem hj), by rw [← hz.bt.len, e1, a1], ws[j].sq, h4, h5, by rw [e1, a2], by rw [e1, a3]⟩
end
theorem frw_snoc {l : List Int} {ws : List Wr} (h : FrW l ws) (K : Int) (hK : pkB K = true) (s : Nat) (hs : s < 65536) (hl : l[ws.length]? = some (s : Int)) : FrW l (ws ++ [⟨K, 0, 0, 0, 1, s, 0, 0, 0, ⟨none, 0, 0, []⟩⟩]) := by
  intro j hj
  by_cases e : j < ws.length
  · rw [List.getElem_append_left e]; exact h j e
  · obtain rfl : j = ws.length := by simp at hj; omega
    rw [List.getElem_append_right (by omega)]
    simp only [Nat.sub_self, List.getElem_cons_zero]
    simp only [hK, hl, hs, and_self]
theorem frw_pk {l : List Int} {ws : List Wr} (h : FrW l ws) : ∀ x ∈ ws, pkB x.k = true := fun x hx => by
  obtain ⟨j, hj, rfl⟩ := List.getElem_of_mem hx
  exact (h j hj).1
theorem seq_at {w : World} {A : Option Addr} {l : List Int} (h : Rd w A (ivs .u16 l)) (hw : ∀ x ∈ l, (Lit.int .u16 x).wf = true) {k : Nat} (hk : k < l.length) : ∃ (ad : Addr) (s : Nat), A = some ad ∧ w.cell? (ad.add k) = some (.int .u16 s) ∧ l[k]? = some (s : Int) ∧ s < 65536 := by
  obtain ⟨ad, rfl, hc⟩ := h k (.int .u16 l[k]) (by simp [ivs, List.getElem?_eq_getElem hk])
  have hb := bounds_u16 (hw _ (List.getElem_mem hk))
  exact ⟨ad, l[k].toNat, rfl, by rw [hc]; congr 2; omega, by rw [List.getElem?_eq_getElem hk]; congr 1; omega, by omega⟩
theorem two_bytes {w : World} {A : Option Addr} {c : Nat} {l : List UInt8} (h : Bts w A 17 c l) (a b : Nat) (ha : byteN l 2 = a) (hb : byteN l 3 = b) : ∃ ad, A = some ad ∧ w.cell? ⟨ad.block, ad.off + 2, none⟩ = some (.int .u8 a) ∧ w.cell? ⟨ad.block, ad.off + 3, none⟩ = some (.int .u8 b) := by
  have hl := h.len
  obtain ⟨ad, rfl, h2⟩ := RdB.at_ h.rd (k := 2) (by omega)
  obtain ⟨ad', e, h3⟩ := RdB.at_ h.rd (k := 3) (by omega)
  injection e with e
  subst e
  have e2 : byteN l 2 = l[2].toNat := by unfold byteN; rw [List.getElem?_eq_getElem (by omega)]; rfl
  have e3 : byteN l 3 = l[3].toNat := by unfold byteN; rw [List.getElem?_eq_getElem (by omega)]; rfl
  refine ⟨ad, rfl, ?_, ?_⟩
  · rw [← ha, e2]; exact h2
  · rw [← hb, e3]; exact h3
set_option maxRecDepth 20000 in
set_option maxHeartbeats 4000000 in
theorem batchFree_walk (N : Int) (A : Option Addr) (n c : Nat) (l : List Int) (w : World) (h0 : -9223372036854775808 ≤ N ∧ N ≤ 9223372036854775807) (hn : l.length = n) (hnc : n ≤ c) (hcm : c ≤ maxLen) (hb0 : n * 2 ≤ 140737488351232) (hA : A = none → n = 0 ∧ c = 0) (hr : Rd w A (ivs .u16 l)) (hwf : ∀ x ∈ l, (Lit.int .u16 x).wf = true) :
    Calls Try.prog 14 #[.int .i64 N, .slice A n c] w fun e w' => e = .returned (.bool true) ∧ Below w.heap.size w w' := by
  have HR := Lib.hid hr
  have HW := Lib.hid hwf
  have HN := Lib.hid hn
  clear hr hwf hn hA hcm
  go_enter Try.func14, Try.ntmps14
  go_wp2_with (first
    | (go_at_call 58; (with_reducible refine (shown24_any _).mono ?_); rintro e w1 ⟨rfl, hb1⟩)
    | (go_at_call 39; (with_reducible refine (s4_new _).mono ?_); rintro e w2 ⟨P, rfl, hS2, hb2⟩; have hk2 : Hold w w2 w1.heap.size [_] := (Hold.nil hb1 hb1.size (Nat.le_refl _)).snew hS2 hb2)
    | (go_at_call 67; (with_reducible refine (sample24_any 7 sam7 7 rfl _).mono ?_); rintro e w3 ⟨Bq, c3, rfl, ho3, hb3⟩; have hk3 := hk2.rnew ho3 hb3)
    | (go_at_call 40; (with_reducible refine (s4_put (hk3.get 1 rfl) Bq c3 (own_bts (hk3.get 0 rfl)) (fun e => by have := (own_nil' ho3 e).1; omega) (fun _ b hb => hk3.dis 0 1 _ _ rfl rfl (by omega) b hb)).mono ?_); rintro e w4 ⟨rfl, ⟨F4', hS4, hG4⟩, hW4⟩; have hk4 := (hk3.sto 1 rfl hS4 hG4 hW4).tail)
    | (refine wpList_store_blk rfl 65 (.tmp 6) (.tmp 20) rfl w4.heap.size _ #[.int .i64 0, .int .u32 1] _ rfl rfl (hdl_new w4 0 0) rfl (by kernel_rfl) (by simp [Value.oneCell']) ?_; intro w5 hi5 hg5; have hk5 := (hk4.vnew hg5 hi5).up 1 rfl)
    | (go_at_call 59; (with_reducible refine (bnew_any P N _).mono ?_); rintro e w6 ⟨rfl, hw6⟩; have hB6 := BatH.new hk5 P (bN N); rw [← hw6] at hB6; clear hw6))
  go_loopw [9, 10] (fun x i wr => ∃ (k : Nat) (ws : List Wr), x = .int .i64 k ∧ i = .int .i64 k ∧ k ≤ n ∧ k ≤ 100 ∧ BatH w wr w1.heap.size w5.heap.size P (bN N) ws (rSto w1.heap.size F4' P 4 (F4 (k + 1)) (upd noL 0 (samN 7)) :: rVar w4.heap.size (.cells #[.int .i64 0, .int .u32 1] 65 (0, 0)) :: []) ∧ Hid (ws.length = k ∧ FrW l ws)) (fun _ i _ => n - (intOf i).toNat)
  case atStart => exact ⟨0, [], rfl, rfl, Nat.zero_le _, Nat.zero_le _, hB6, rfl, fun j hj => by simp at hj⟩
  case round =>
    obtain ⟨k, ws, rfl, rfl, hkn, hk100, hB, HF⟩ := hrel
    clear hk2 hk3 hk4 hk5 hB6 ho3
    by_cases hlt : k < n ∧ k < 100
    · obtain ⟨hl1, hl2⟩ := hlt
      obtain ⟨ad, s, rfl, cs, hls, hs⟩ := seq_at (HR.out.below hB.b) HW.out (k := k) (by have := HN.out; omega)
      obtain ⟨a0, a1⟩ := row2_cells (hB.get 1 rfl)
      obtain ⟨bt, hbt⟩ : ∃ bt : Nat, (bt : Int) = bits .and .i64 (k : Int) 1 := ⟨k % 2, by rw [i64_and_1]; omega⟩
      have hb2 : bt < 2 := by rw [i64_and_1] at hbt; omega
      have HBT := hbt.symm
      have HL := Lib.hid hls
      have hcsd : wr.drew.cell? (ad.add k) = some (.int .u16 s) := cs
      have hB7 := hB.below ((Below.refl _ wr).drew)
      obtain ⟨b0, b1⟩ := row2_cells (hB7.get 1 rfl)
      clear hls hbt
      go_wp2_with fail
      refine still_tail2 11 (by kernel_rfl) (by kernel_rfl) ?_
      simp only [List.take_succ_cons, List.take_zero, List.drop_succ_cons, List.drop_zero]
      repeat still_step
      refine wpStill_nil ?_
      go_wp2_with (first
        | (go_at_call 60; (with_reducible refine (s4_add k hB7 HF.out.1 (by omega) _ (by unfold pkB; simp; omega) s hs).mono ?_); rintro e w8 ⟨rfl, hB8⟩))
      exact ⟨⟨k + 1, _, rfl, rfl, by omega, by omega, hB8, by rw [List.length_append, HF.out.1]; rfl, frw_snoc HF.out.2 _ (by unfold pkB; simp; omega) s hs (by rw [HF.out.1]; exact HL.out)⟩, by simp [intOf]; omega⟩
    · have hcond : (k < n) = False ∨ ((k < n) = True ∧ (k < 100) = False) := by simp; omega
      have hx : ¬ k < n ∨ (k < n ∧ ¬ k < 100) := by omega
      clear hlt hcond
      obtain ⟨a0, a1⟩ := row2_cells (hB.get 1 rfl)
      rcases hx with hx | ⟨hx, hx2⟩
      all_goals
        go_wp2_with (first
          | (go_at_call 45; (with_reducible refine (s4_drop k hk100 (hB.get 0 rfl)).mono ?_); rintro e w8 ⟨rfl, hS8, hW8⟩; obtain ⟨X8, m8, d8, ys8, F8, Z8, hk8, hr8⟩ := hB; have hB8 : BatH w w8 w1.heap.size w5.heap.size P (bN N) ws (rSto w1.heap.size F4' P 4 (F4 k) (upd noL 0 (samN 7)) :: rVar w4.heap.size (.cells #[.int .i64 0, .int .u32 1] 65 (0, 0)) :: []) := ⟨X8, m8, d8, ys8, F8, Z8, hk8.sto 3 rfl hS8 (Grw.refl _ _) hW8, hr8⟩; clear hk8 hr8; obtain ⟨a0, a1⟩ := row2_cells (hB8.get 1 rfl))
          | (go_at_call 46; (with_reducible refine (s4_refs k (hB8.get 0 rfl)).mono ?_); rintro e w9 ⟨rfl, hb9⟩; have hB9 := hB8.below hb9)
          | (go_at_call 64; (with_reducible refine (s4_held k hk100 hB9 HF.out.1 (frw_pk HF.out.2)).mono ?_); rintro e w10 ⟨X10, d10, rfl, hb10⟩; have hB10 := hB9.below hb10)
          | (go_at_call 61; (with_reducible refine (s4_flush k hk100 l (upd_same _ _ _) hB10 HF.out.1 HF.out.2).mono ?_); rintro e w11 ⟨X, d, ys, F11, Z11, rfl, hyl, hyp, hk11⟩; have HY := Lib.hid (And.intro hyl hyp); clear hyl hyp))
        clear hB8 hB9 hB10 hb9 hb10 a0 a1
        go_loopw [72] (fun i wr => ∃ j : Nat, i = .int .i64 j ∧ j ≤ k ∧ Hold w wr w1.heap.size (rRow w1.heap.size 97 4 X k d (rowG snV ys) :: rVar w5.heap.size (btO P (bN N) none 0 0) :: rRow w1.heap.size 93 10 none 0 0 (rowG wrV []) :: rPool F11 Z11 :: rSto w1.heap.size F4' P 4 (F4 0) (upd noL 0 (samN 7)) :: rVar w4.heap.size (.cells #[.int .i64 0, .int .u32 1] 65 (0, 0)) :: [])) (fun i _ => k - (intOf i).toNat)
        case atStart => exact ⟨0, rfl, Nat.zero_le _, hk11⟩
        case round =>
          obtain ⟨j, rfl, hjk, hk⟩ := hrel
          clear hk11
          by_cases hlj : j < k
          · go_wp2_with fail
            refine region_plan (calmB_sound _) (.check [0, 1, 2, 3, 4, 5, 6, 7, 8, 9, 10, 11, 15, 16, 17, 18] 19 (.check [19] 20 (.check [20, 12, 13, 14, 21, 22, 23, 24, 25, 26, 27, 31, 32, 33, 34] 35 (.leaf [35, 28, 29, 30, 36, 37])))) (by kernel_rfl) (by kernel_rfl) (by kernel_rfl) ?_
            have hk7 := hk.drew
            generalize wr.drew = w7 at *
            obtain ⟨g, rfl, _, hkd, hcs⟩ := rowG_cells snV_length (hk7.get 0 rfl) (by omega) (show j < ys.length by have := HY.out.1; omega)
            have c3 := hcs 3 _ rfl
            obtain ⟨hz1, hz2, s, hls, hs, hb2, hb3⟩ := HY.out.2 j (by have := HY.out.1; omega)
            obtain ⟨yz, hyz⟩ : ∃ yz, yz = ys[j].z := ⟨_, rfl⟩
            rw [← hyz] at c3 hz1 hz2 hb2 hb3
            have hzo := hk7.pool 3 rfl hz1
            obtain ⟨zA, zn, zc, zl⟩ := yz
            simp only at hz2
            subst hz2
            obtain ⟨za, rfl, q2, q3⟩ := two_bytes hzo.bt (s / 256) (s % 256) hb2 hb3
            have hzc := hzo.bt.nc
            obtain ⟨ad, s', rfl, cs, hls', _⟩ := seq_at (HR.out.below hk7.b) HW.out (k := j) (by have := HN.out; omega)
            obtain rfl : s' = s := by rw [hls] at hls'; simp at hls'; omega
            clear hcs hyz hz1 hb2 hb3 hzo hls hls'
            refine wpPlan_check fun PL0 hPL0 => ?_
            simp only [List.filterMap_cons, List.filterMap_nil, List.getElem?_toArray, List.getElem?_cons_succ, List.getElem?_cons_zero]
            change wpList _ _ _ [_, _, _, _, _, _, _, _, _, _, _, _, _, _, _, _] _ _
            go_wp2_with (fail)
            refine hPL0 _ _ (by first | exact fun _ => .inl ⟨_, _, _, _, rfl, rfl⟩ | exact fun _ => ⟨_, _, rfl⟩) ?_
            refine wpPlan_check fun PL1 hPL1 => ?_
            simp only [List.filterMap_cons, List.filterMap_nil, List.getElem?_toArray, List.getElem?_cons_succ, List.getElem?_cons_zero]
            change wpList _ _ _ [_] _ _
            go_wp2_with (fail)
            refine hPL1 _ _ (by first | exact fun _ => .inl ⟨_, _, _, _, rfl, rfl⟩ | exact fun _ => ⟨_, _, rfl⟩) ?_
            refine wpPlan_check fun PL2 hPL2 => ?_
            simp only [List.filterMap_cons, List.filterMap_nil, List.getElem?_toArray, List.getElem?_cons_succ, List.getElem?_cons_zero]
            change wpList _ _ _ [_, _, _, _, _, _, _, _, _, _, _, _, _, _, _] _ _
            go_wp2_with (fail)
            refine hPL2 _ _ (by first | exact fun _ => .inl ⟨_, _, _, _, rfl, rfl⟩ | exact fun _ => ⟨_, _, rfl⟩) ?_
            refine wpPlan_leaf fun PL3 hPL3 => ?_
            simp only [List.filterMap_cons, List.filterMap_nil, List.getElem?_toArray, List.getElem?_cons_succ, List.getElem?_cons_zero]
            change wpList _ _ _ [_, _, _, _, _, _] _ _
            go_wp2_with (fail)
            exact ⟨⟨j + 1, rfl, by omega, hk7⟩, by simp [intOf]; omega⟩
          · obtain rfl : j = k := by omega
            clear hlj
            have hB := BatH.of hk.tail
            obtain ⟨a0, a1⟩ := row2_cells (hB.get 1 rfl)
            go_wp2_with (first
              | (go_at_call 41; (with_reducible refine (s4_free (hB.get 0 rfl)).mono ?_); rintro e w12 ⟨rfl, hb12⟩; have hB12 := hB.below hb12; obtain ⟨a0, a1⟩ := row2_cells (hB12.get 1 rfl))
              | (go_at_call 60; (with_reducible refine (s4_stale hB12).mono ?_); rintro e w13 ⟨rfl, hB13⟩))
            go_ret
            exact ⟨by simp, hB13.b⟩
namespace batchFree
open Go.ChangeShapes Go.WideShapes Go.ChangeAt Go.RowKit
open Go.ChangeMaps (open_string shut_string)
set_option linter.unusedVariables false

theorem own : ownKnob Try.prog.godebug = none := by kernel_rfl
theorem laidOut : laidOutB Try.prog = true := by kernel_rfl

set_option maxRecDepth 100000 in
theorem lifted (os : Os) (started : os.Started) (H : Type) (enc : TypeId × Value → H) :
    ReturnsInHanded {} Try.checked os 14 .any (Rows.batchFreeSpec.pre6 enc Try.prog Try.f14 Rows.batchFreeRow.domain false) (Rows.batchFreeSpec.post enc Try.prog Try.f14 false true false false) := by
  refine returnsInHanded_of_change_sized (C := Try.checked) own started (by kernel_rfl) Try.func14
    (ChangeSpec.witness6 (enc := enc) (C := Try.checked) false ⟨#[], #[.int .i64 0, .slice none 0 0], []⟩ 8 (by kernel_rfl) (by kernel_rfl) (by kernel_rfl) (by kernel_rfl)) ?_
  intro W base args ds gs before hval0 hW hcnd hsz0 _
  have hsz : (DataW.weightsEach Try.prog (Try.f14.params.toList ++ Rows.batchFreeSpec.plain.varTypes Try.prog) (ds ++ gs)).all (· ≤ reachBytes) = true := hsz0
  have hval : ∀ (j : Nat) t v, Try.f14.params[j]? = some t → args[j]? = some v → Value.okWide Try.prog W .any base t v := hval0
  have hW' := hW
  obtain ⟨p, q, hA0, hV, rfl, hfz, hnd⟩ := hW
  have hA : DataW.TrodAll enc Try.prog W 0 (fun _ => true) true Try.f14.params.toList args.toList ds p := hA0
  rw [Try.params14] at hA hval hsz
  obtain ⟨v0, vs0, d0, ds0, p0, q0, hargs, rfl, rfl, h0, r0⟩ := trodAll_cons hA
  obtain ⟨v1, vs1, d1, ds1, p1, q1, rfl, rfl, rfl, h1, r1⟩ := trodAll_cons r0
  obtain ⟨rfl, rfl, rfl⟩ := trodAll_nil r1
  obtain rfl : args = #[v0, v1] := by cases args; simp_all
  obtain ⟨rfl, rfl⟩ := trodVars_none hV
  obtain ⟨x0, rfl, rfl, rfl, w0⟩ := open_int Try.underlying3 (hval 0 3 v0 rfl rfl) h0
  obtain ⟨a1, len1, cap1, rfl⟩ := okWide_slice Try.underlying108 (hval 1 108 v1 rfl rfl)
  have k1 := h1
  have lt1 : ∀ x ∈ p1, x.block < W.heap.size := by obtain ⟨m, hm⟩ := k1; exact DataW.trod_lt m _ _ _ hm
  obtain ⟨l1, n1, nc1, cm1, nl1, rd1, wf1, hl1⟩ : ∃ l : List Int, l.length = len1 ∧ len1 ≤ cap1 ∧ cap1 ≤ maxLen ∧ (a1 = none → len1 = 0 ∧ cap1 = 0) ∧ Rd W a1 (ivs .u16 l) ∧ (∀ n ∈ l, (Lit.int .u16 n).wf = true) ∧ (len1 = 0 ∨ ∃ es sp, d1 = .slice es sp ∧ es.length = len1) := by
    obtain ⟨fuel, hf⟩ := h1
    exact open_int_slice Try.underlying108 Try.underlying23 (by kernel_rfl) hf
  have hb1 : len1 * 2 ≤ 140737488351232 := reach_slice hsz (j := 1) rfl rfl Try.underlying108 (by kernel_rfl) hl1
  clear hA0 hval0 hsz0
  refine (batchFree_walk x0 a1 len1 cap1 l1 W (bounds_i64 w0) n1 nc1 cm1 hb1 nl1 rd1 wf1).mono fun e W' ⟨he, bel⟩ => ?_
  subst he
  exact ⟨_, rfl, _, _, _, [], _, [], hW', trodAll_mk1 (shut_bool Try.underlying4 _), (trodAll_cons_mk (shut_int Try.underlying3 w0) (trodAll_cons_mk (Below.trod laidOut (by kernel_rfl) (of_decide_eq_true (by kernel_rfl)) k1 bel lt1) trodAll_mk0)), rfl, bel.frame _, fun h => by cases h⟩

/-- The statement. -/
theorem proved : Rows.BatchFreeSaid :=
  OpenClaim.holds_of_wide 14 Try.f14 rfl rfl rfl rfl rfl rfl rfl ⟨rfl, rfl, rfl, rfl, rfl⟩ rfl rfl rfl rfl rfl (by kernel_rfl) Try.func14 (by kernel_rfl)
    (of_decide_eq_true (by kernel_rfl)) (by unfold Func.isWrapper; rw [if_neg (of_decide_eq_false (by kernel_rfl))]; exact ⟨rfl, rfl⟩)
    (fun os started H enc _ => lifted os started H enc)
#print axioms proved
end batchFree
end Go.Proofs.Ytnkgkiiagifnmaa
