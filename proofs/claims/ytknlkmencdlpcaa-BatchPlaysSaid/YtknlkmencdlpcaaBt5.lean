/-
The sample of law 24, and its shown.
-/
import Derived.Test.YtknlkmencdlpcaaBt3
import Derived.Test.YtknlkmencdlpcaaSt4
namespace Go.Proofs.Ytknlkmencdlpcaa
set_option linter.unusedVariables false
set_option linter.unusedSimpArgs false
open Go Go.RowKit

def samN (n : UInt8) : List UInt8 := [128, 96, 0, 0, 0, 0, 0, 0, 0, 0, 0, 0, 0, 90, 0, 0, n]
def samP (n : UInt8) : Pkt := ⟨false, 96, 0, 0, 0, [], false, 0, [], sdL ++ [n], 0⟩
theorem sam_ok (n : UInt8) : (samP n).Ok := by
  constructor <;> first | decide | (intro x hx; cases hx) | (simp [samP])
theorem sam_len (n : UInt8) : (samN n).length = 17 := rfl
theorem sam1 : outP (samP 1) = samN 1 := by decide +kernel
theorem sam7 : outP (samP 7) = samN 7 := by decide +kernel
theorem sam_err (n : UInt8) : (0 : Int) = (errP (samP n) : Nat) := by rfl
theorem pput_s (n : UInt8) (hs : outP (samP n) = samN n) (L : Option Addr) (lc : Nat) (w : World) (h : w.ownsRow 0 5 1 (.slice L 5 lc) 5 (bys (sdL ++ [n]))) :
    Calls Try.prog 73 #[.agg #[.bool false, .int .i64 96, .int .u16 0, .int .u32 0, .int .u32 0, .slice none 0 0, .bool false, .int .u16 0, .slice none 0 0, .slice L 5 lc, .int .i64 0]] w fun e w' =>
      ∃ B c', e = .returned (.tuple #[.slice B 17 c', .int .i64 0]) ∧ w'.ownsRow w.heap.size 5 1 (.slice B 17 c') 17 (bys (samN n)) ∧ Below w.heap.size w w' :=
  pput_row (samP n) (sam_ok n) 0 (sam_err n) (samN n) hs 17 (sam_len n) none 0 0 none 0 0 L 5 lc w ⟨rowB_nil _ _ _, rowB_nil _ _ _, own_row8 h⟩ (by omega) (by omega)
theorem lit_rd8 (w : World) (n : UInt8) (z : Int) (hz : z = n.toNat) : Rd (w.alloc (.cells #[.int .u8 z] 5)) (some ⟨w.heap.size, 0, none⟩) (bys [n]) := by
  subst hz
  exact Rd.own (World.ownsRow_lit (base := 0) (e := 5) (size := 1) w #[.int .u8 n.toNat] 1 (Nat.zero_le _) (by unfold maxLen; omega) rfl)
set_option maxRecDepth 20000 in
set_option maxHeartbeats 1000000 in
theorem sample24_any (n : UInt8) (hs : outP (samP n) = samN n) (z : Int) (hz : z = n.toNat) (w : World) : Calls Try.prog 108 #[.int .u8 z] w fun e w' => ∃ B c', e = .returned (.slice B 17 c') ∧ w'.ownsRow w.heap.size 5 1 (.slice B 17 c') 17 (bys (samN n)) ∧ Below w.heap.size w w' := by
  have HZ := Lib.hid hz
  clear hz
  go_enter Try.func108, Try.ntmps108
  go_wp2_with (first
    | (go_at_call 111; ((with_reducible refine (dput_0 _).mono ?_); rintro e w1 ⟨A, c, rfl, ho1, hb1⟩))
    | (at_builtin; refine wpList_app slU8 rfl _ _ rfl w.heap.size A 4 c (bys sdL) rfl (ho1.alloc _) (some ⟨w1.heap.size, 0, none⟩) 1 1 (bys [n]) rfl rfl (lit_rd8 w1 n z HZ.out) (bys_one _) (by omega) (Nat.le_trans hb1.size (by simp)) ?_; intro A2 c2 w2 ho2 hg2 hA2; rw [bys_append] at ho2; have hb2 : Below w.heap.size w w2 := (hb1.alloc hb1.size _).grown hg2 (Nat.le_trans hb1.size (by simp)) (fun k hk => own_from ho1 k hk))
    | (go_at_call 73; ((with_reducible refine (pput_s n hs A2 c2 _ (own_mono ho2 (Nat.zero_le _))).mono ?_); rintro e w3 ⟨B, c3, rfl, ho3, hb3⟩)))
  go_ret
  exact ⟨B, c3, rfl, own_mono ho3 hb2.size, hb2.trans (hb3.mono hb2.size)⟩
section
variable {w0 w w' : World} {B pb P : Nat} {N : Int} {ws : List Wr} {l : List Rsc}
theorem BatH.get (h : BatH w0 w B pb P N ws l) (i : Nat) {r : Rsc} (hi : l[i]? = some r) : r.1 w := by
  obtain ⟨A, m, c, xs, F, Z, hk, _⟩ := h
  exact hk.get (i + 3) hi
theorem BatH.below (h : BatH w0 w B pb P N ws l) (hb : Below w.heap.size w w') : BatH w0 w' B pb P N ws l := by
  obtain ⟨A, m, c, xs, F, Z, hk, h1⟩ := h
  exact ⟨A, m, c, xs, F, Z, hk.below hb, h1⟩
theorem BatH.b (h : BatH w0 w B pb P N ws l) : Below w0.heap.size w0 w := by
  obtain ⟨A, m, c, xs, F, Z, hk, h1⟩ := h
  exact hk.b
theorem BatH.hB (h : BatH w0 w B pb P N ws l) : w0.heap.size ≤ B := by
  obtain ⟨A, m, c, xs, F, Z, hk, h1⟩ := h
  exact hk.hB
theorem BatH.new (h : Hold w0 w B l) (P : Nat) (N : Int) : BatH w0 (w.alloc (.cells #[.pointer (some ⟨P, 0, none⟩), .int .i64 N, .slice none 0 0] 156)) B w.heap.size P N [] l :=
  ⟨none, 0, 0, [], _, _, (h.pnil.rnil _ _).vnew0 _ _, rfl, fun x hx => by simp at hx, fun x hx => by simp at hx⟩
/-- A new row, behind the store. -/
theorem BatH.rnewT {r0 : Rsc} (h : BatH w0 w B pb P N ws (r0 :: l)) {e : TypeId} {size : Nat} {A : Option Addr} {n c : Nat} {xs : List Value} (ho : w'.ownsRow w.heap.size e size (.slice A n c) n xs) (hb : Below w.heap.size w w') : BatH w0 w' B pb P N ws (r0 :: rRow B e size A n c xs :: l) := by
  obtain ⟨A', m, c', ys, F, Z, hk, h1⟩ := h
  exact ⟨A', m, c', ys, F, Z, ((((hk.rnew ho hb).up 4 rfl).up 4 rfl).up 4 rfl).up 4 rfl, h1⟩
theorem BatH.dis (h : BatH w0 w B pb P N ws l) (i j : Nat) {r q : Rsc} (hi : l[i]? = some r) (hj : l[j]? = some q) (hij : i ≠ j) : ∀ b, r.2 b → ¬ q.2 b := by
  obtain ⟨A', m, c', ys, F, Z, hk, h1⟩ := h
  exact hk.dis (i + 3) (j + 3) r q hi hj (by omega)
theorem BatH.full (h : BatH w0 w B pb P N ws l) (v : Bool) (hv : decide (N ≤ ws.length) = v) (hws : ws.length ≤ 1000) : Calls Try.prog 63 #[.pointer (some ⟨pb, 0, none⟩)] w fun e w' => e = .returned (.bool v) ∧ Below w.heap.size w w' := by
  obtain ⟨A, m, c, xs, ha, rfl⟩ := h.at_
  rw [List.length_map, rowG_len wrV_length ha.own (by omega)] at hv
  rw [← hv]
  exact bfull_any ha
theorem BatH.len (h : BatH w0 w B pb P N ws l) (k : Nat) (hk : ws.length = k) : Calls Try.prog 62 #[.pointer (some ⟨pb, 0, none⟩)] w fun e w' => e = .returned (.int .i64 k) ∧ w = w' := by
  obtain ⟨A, m, c, xs, ha, rfl⟩ := h.at_
  rw [List.length_map, rowG_len wrV_length ha.own (by omega)] at hk
  rw [← hk]
  exact blen_any ha
theorem HeldE.bare {xs : List Wr} {e : Ending} (h : HeldE w w' xs e) : HeldE w w' (xs.map Wr.bare) e := by
  unfold HeldE at *
  rw [heldL_bare]; exact h
theorem BatH.held (h : BatH w0 w B pb P N ws l) (hws : ws.length ≤ 1000) : Calls Try.prog 65 #[.pointer (some ⟨pb, 0, none⟩)] w fun e w' => HeldE w w' ws e := by
  obtain ⟨A, m, c, xs, ha, rfl⟩ := h.at_
  rw [List.length_map] at hws
  exact (held_any ha hws).mono fun e w' he => he.bare
end
theorem s24_new (w : World) : Calls Try.prog 38 #[.int .i64 2] w fun e w' => ∃ P, e = .returned (.pointer (some ⟨P, 0, none⟩)) ∧
      Sto w' w.heap.size (fun k => w.heap.size ≤ k ∧ k < w'.heap.size) P 2 [(1, 0), (1, 0)] noL ∧ Below w.heap.size w w' := snew_any 2 w (by omega)
section
variable {w0 w : World} {B pb P : Nat} {F G : Nat → Prop} {l : List Rsc}
theorem s24_put (h : Sto w B F P 2 [(1, 0), (1, 0)] noL) (A : Option Addr) (c : Nat) (hb : Bts w A 17 c (samN 1)) (hnil : A = none → 17 = 0 ∧ c = 0) (hout : 0 < 17 → ∀ b, A.map Addr.block = some b → ¬ F b) :
    Calls Try.prog 41 #[.pointer (some ⟨P, 0, none⟩), .slice A 17 c] w fun e w' => e = .returned (.tuple #[.agg #[.int .i64 0, .int .u32 1], .int .i64 0]) ∧
      (∃ F', Sto w' B F' P 2 [(1, 1), (1, 0)] (upd noL 0 (samN 1)) ∧ Grw F F' w.heap.size) ∧ Wen w w' F := sput_any h A 17 c (samN 1) hb hnil hout
theorem bnew_2 (w : World) : Calls Try.prog 58 #[.pointer (some ⟨P, 0, none⟩), .int .i64 2] w fun e w' => e = .returned (.pointer (some ⟨w.heap.size, 0, none⟩)) ∧ w' = w.alloc (.cells #[.pointer (some ⟨P, 0, none⟩), .int .i64 2, .slice none 0 0] 156) := bnew_any P 2 w
def x24 : Wr := ⟨1, 1, 0, 0, 1, 3, 0, 0, 0, ⟨none, 0, 0, []⟩⟩
def y24 : Wr := ⟨4, 2, 0, 0, 0, 0, 0, 0, 0, ⟨none, 0, 0, [9]⟩⟩
theorem okNil (w : World) : (⟨none, 0, 0, []⟩ : Bz).ok w := ⟨⟨rfl, Nat.le_refl _, Nat.zero_le _, Rd.nil _ _⟩, fun _ => ⟨rfl, rfl⟩, Nat.zero_le _⟩
theorem s24_add1 {L : Nat → List UInt8} (h : BatH w0 w B pb P 2 [] (rSto B G P 2 [(1, 1), (1, 0)] L :: l)) :
    Calls Try.prog 61 #[.pointer (some ⟨pb, 0, none⟩), .agg #[.int .i64 1, .int .i64 1, .int .i64 0, .int .i64 0, .int .u32 1, .int .u16 3, .int .u32 0, .int .u32 0, .int .u16 0, .slice none 0 0]] w fun e w' =>
      e = .returned (.int .i64 0) ∧ BatH w0 w' B pb P 2 [x24] (rSto B G P 2 [(1, 2), (1, 0)] L :: l) :=
  add_any h x24 (okNil w) (fun h => absurd h (by decide)) (by unfold Wr.pOk; decide) (by decide) (by decide)
theorem s24_add2 {L : Nat → List UInt8} (h : BatH w0 w B pb P 2 [x24] (rSto B G P 2 [(1, 2), (1, 0)] L :: l)) (A : Option Addr) (hz : (⟨A, 1, 1, [9]⟩ : Bz).ok w) (hzo : 0 < 1 → ∀ b, A.map Addr.block = some b → ¬ G b) :
    Calls Try.prog 61 #[.pointer (some ⟨pb, 0, none⟩), .agg #[.int .i64 4, .int .i64 2, .int .i64 0, .int .i64 0, .int .u32 0, .int .u16 0, .int .u32 0, .int .u32 0, .int .u16 0, .slice A 1 1]] w fun e w' =>
      e = .returned (.int .i64 0) ∧ BatH w0 w' B pb P 2 [x24, y24] (rSto B G P 2 [(1, 2), (1, 0)] L :: l) :=
  add_any h ⟨4, 2, 0, 0, 0, 0, 0, 0, 0, ⟨A, 1, 1, [9]⟩⟩ hz hzo (by unfold Wr.pOk; simp) (by decide) (by decide)
theorem s24_add3 {S : List Slo} {L : Nat → List UInt8} (h : BatH w0 w B pb P 2 [] (rSto B G P 2 S L :: l)) (hbig : ∀ s ∈ S, s.2 < 9223372036854775807) :
    Calls Try.prog 61 #[.pointer (some ⟨pb, 0, none⟩), .agg #[.int .i64 0, .int .i64 0, .int .i64 0, .int .i64 0, .int .u32 0, .int .u16 0, .int .u32 0, .int .u32 0, .int .u16 0, .slice none 0 0]] w fun e w' =>
      e = .returned (.int .i64 4) ∧ BatH w0 w' B pb P 2 [] (rSto B G P 2 S L :: l) :=
  add_any h ⟨0, 0, 0, 0, 0, 0, 0, 0, 0, ⟨none, 0, 0, []⟩⟩ (okNil w) (fun h => absurd h (by decide)) (by unfold Wr.pOk; decide) hbig (by decide)
theorem s24_refs {k : Nat} {L : Nat → List UInt8} (h : Sto w B F P 2 [(1, k), (1, 0)] L) (hk : 0 < k) : Calls Try.prog 51 #[.pointer (some ⟨P, 0, none⟩), .agg #[.int .i64 0, .int .u32 1]] w fun e w' => e = .returned (.int .i64 k) ∧ Below w.heap.size w w' := by
  have e : refsS [(1, k), (1, 0)] 0 1 = k := by
    cases k with
    | zero => omega
    | succ k => rfl
  have := srefs_any h 0 1
  rwa [e] at this
/-- What the two writes have become. -/
def Fl24 (w0 w' : World) (B pb P : Nat) (G : Nat → Prop) (L : Nat → List UInt8) (l : List Rsc) (e : Ending) : Prop :=
  ∃ (g d : Nat) (a1 a2 : Addr) (c1 c2 : Nat) (F : Nat → Prop) (Z : List Bz), e = .returned (.slice (some ⟨g, 0, none⟩) 2 d) ∧ 2 ≤ d ∧ w'.cell? ⟨g, 3, none⟩ = some (.slice (some a1) 17 c1) ∧ w'.cell? ⟨g, 7, none⟩ = some (.slice (some a2) 1 c2) ∧ 17 ≤ c1 ∧ 1 ≤ c2 ∧
    w'.cell? ⟨a1.block, a1.off + 3, none⟩ = some (.int .u8 3) ∧ Rd w' (some a2) (bys [9]) ∧
    Hold w0 w' B (rVar pb (btO P 2 none 0 0) :: rRow B 92 10 none 0 0 (rowG wrV []) :: rPool F Z :: rSto B G P 2 [(1, 1), (1, 0)] L :: l)
theorem s24_flush (h : BatH w0 w B pb P 2 [x24, y24] (rSto B G P 2 [(1, 2), (1, 0)] (upd noL 0 (samN 1)) :: l)) :
    Calls Try.prog 60 #[.pointer (some ⟨pb, 0, none⟩)] w fun e w' => Fl24 w0 w' B pb P G (upd noL 0 (samN 1)) l e := by
  refine (flush_any h (by decide) (by decide)).mono ?_
  rintro e w' ⟨X, m, d, ys, F, Z, rfl, hys, hyz, hk⟩
  have hl : ys.length = 2 := by have := congrArg List.length hys; rw [List.length_map, flY_length] at this; exact this
  match ys, hl with
  | [y1, y2], _ =>
    have e1 : y1.z.l = apP (samN 1) 3 0 0 0 := by
      have := congrArg (fun l => (l.map (fun y : Snt => y.z.l)).head?) hys
      simpa [Snt.bare, flY, sentL, x24, pkB, bytesL, liveS, upd_same] using this
    have e2 : y2.z.l = [9] := by
      have := congrArg (fun l => (l.map (fun y : Snt => y.z.l))[1]?) hys
      simpa [Snt.bare, flY, sentL, y24, pkB] using this
    obtain ⟨g, hX, hm, hd, hc1⟩ := rowG_cells (k := 0) snV_length (hk.get 0 rfl) (by omega) (by simp)
    obtain ⟨_, hX', _, _, hc2⟩ := rowG_cells (k := 1) snV_length (hk.get 0 rfl) (by omega) (by simp)
    obtain rfl : m = 2 := by rw [← hm]; rfl
    subst hX
    injection hX' with hX'
    injection hX' with hX'
    subst hX'
    have z1 := hk.pool 3 rfl (hyz y1 (by simp))
    have z2 := hk.pool 3 rfl (hyz y2 (by simp))
    have p1 : apP (samN 1) 3 0 0 0 = [128, 96, 0, 3, 0, 0, 0, 0, 0, 0, 0, 0, 0, 90, 0, 0, 1] := by decide +kernel
    rw [p1] at e1
    have q1 := hc1 3 _ rfl
    have q2 := hc2 3 _ rfl
    clear hc1 hc2 hys hyz
    obtain ⟨k1, p1', s1, A1, n1, c1, l1⟩ := y1
    obtain ⟨k2, p2', s2, A2, n2, c2, l2⟩ := y2
    simp only at e1 e2
    subst e1 e2
    obtain rfl : n1 = 17 := z1.bt.len.symm
    obtain rfl : n2 = 1 := z2.bt.len.symm
    obtain ⟨a1, rfl, r1⟩ := RdB.at_ z1.bt.rd (k := 3) (by simp)
    obtain ⟨a2, rfl, _⟩ := RdB.at_ z2.bt.rd (k := 0) (by simp)
    exact ⟨g, d, a1, a2, c1, c2, F, Z, rfl, hd, q1, q2, z1.bt.nc, z2.bt.nc, r1, z2.bt.rd, hk.tail⟩
end
theorem BatH.of {w0 w : World} {B pb P : Nat} {N : Int} {F : Nat → Prop} {Z : List Bz} {l : List Rsc} (h : Hold w0 w B (rVar pb (btO P N none 0 0) :: rRow B 92 10 none 0 0 (rowG wrV []) :: rPool F Z :: l)) : BatH w0 w B pb P N [] l :=
  ⟨none, 0, 0, [], F, Z, h, rfl, fun x hx => by simp at hx, fun x hx => by simp at hx⟩
theorem lit_ok8 (w : World) : (⟨some ⟨w.heap.size, 0, none⟩, 1, 1, [9]⟩ : Bz).ok (w.alloc (.cells #[.int .u8 9] 5)) :=
  ⟨⟨rfl, Nat.le_refl _, by unfold maxLen; simp, lit_rd8 w 9 9 rfl⟩, fun h => by simp at h, by simp⟩
theorem sto_alloc {w : World} {B b : Nat} {F : Nat → Prop} {P n : Nat} {S : List Slo} {L : Nat → List UInt8} (h : Sto w B F P n S L) (hb : w.heap.size ≤ b) : ¬ F b := fun hF => by
  have := (Sto.lt h b hF).2; omega
set_option maxRecDepth 20000 in
set_option maxHeartbeats 4000000 in
theorem shown24_any (w : World) : Calls Try.prog 57 #[] w fun e w' => e = .returned (.bool true) ∧ Below w.heap.size w w' := by
  go_enter Try.func57, Try.ntmps57
  go_wp2_with (first
    | (go_at_call 38; (with_reducible refine (s24_new _).mono ?_); rintro e w1 ⟨P, rfl, hS1, hb1⟩; have hk1 : Hold w w1 w.heap.size [_] := (Hold.nil (Below.refl _ _) (Nat.le_refl _) (Nat.le_refl _)).snew hS1 hb1)
    | (go_at_call 108; (with_reducible refine (sample24_any 1 sam1 1 rfl _).mono ?_); rintro e w2 ⟨Bq, c, rfl, ho2, hb2⟩; have hk2 := hk1.rnew ho2 hb2)
    | (go_at_call 41; (with_reducible refine (s24_put (hk2.get 1 rfl) Bq c (own_bts (hk2.get 0 rfl)) (fun e => by have := (own_nil' ho2 e).1; omega) (fun _ b hb => hk2.dis 0 1 _ _ rfl rfl (by omega) b hb)).mono ?_); rintro e w3 ⟨rfl, ⟨F3, hS3, hG3⟩, hW3⟩; have hk3 := (hk2.sto 1 rfl hS3 hG3 hW3).tail)
    | (refine wpList_store_blk rfl 69 (.tmp 2) (.tmp 16) rfl w3.heap.size _ #[.int .i64 0, .int .u32 1] _ rfl rfl (hdl_new w3 0 0) rfl (by kernel_rfl) (by simp [Value.oneCell']) ?_; intro w4 hi4 hg4; have hk4 := (hk3.vnew hg4 hi4).up 1 rfl)
    | (go_at_call 58; (with_reducible refine (bnew_2 _).mono ?_); rintro e w5 ⟨rfl, hw5⟩; have hB5 := BatH.new hk4 P 2; rw [← hw5] at hB5; clear hw5; obtain ⟨a0, a1⟩ := row2_cells (hB5.get 1 rfl))
    | (go_at_call 61; (with_reducible refine (s24_add1 hB5).mono ?_); rintro e w6 ⟨rfl, hB6⟩)
    | (go_at_call 63; (with_reducible refine (hB6.full false (by decide) (by decide)).mono ?_); rintro e w7 ⟨rfl, hb7⟩; have hB7 := hB6.below hb7; have hB8 := hB7.below ((Below.refl _ _).alloc (Nat.le_refl _) (.cells #[.int .u8 9] 5)))
    | (go_at_call 61; (with_reducible refine (s24_add2 hB8 _ (lit_ok8 w7) (fun _ b hb => by simp at hb; exact sto_alloc (hB7.get 0 rfl) (by omega))).mono ?_); rintro e w9 ⟨rfl, hB9⟩; obtain ⟨a0, a1⟩ := row2_cells (hB9.get 1 rfl))
    | (go_at_call 51; (with_reducible refine (s24_refs (hB9.get 0 rfl) (by decide)).mono ?_); rintro e w10 ⟨rfl, hb10⟩; have hB10 := hB9.below hb10)
    | (go_at_call 63; (with_reducible refine (hB10.full true (by decide) (by decide)).mono ?_); rintro e w11 ⟨rfl, hb11⟩; have hB11 := hB10.below hb11)
    | (go_at_call 60; (with_reducible refine (s24_flush hB11).mono ?_); rintro e w12 ⟨g, d, r1, r2, c1, c2, F12, Z12, rfl, hd, q1, q2, hc1, hc2, t1, t2, hk12⟩; have hB12 := BatH.of hk12; have hcv := cv_rd (c := c2) (n := 1) rfl t2; obtain ⟨a0, a1⟩ := row2_cells (hB12.get 1 rfl))
    | (go_at_call 51; (with_reducible refine (s24_refs (hB12.get 0 rfl) (by decide)).mono ?_); rintro e w13 ⟨rfl, hb13⟩; have hB13 := hB12.below hb13)
    | (go_at_call 62; (with_reducible refine (hB13.len 0 rfl).mono ?_); rintro e w14 ⟨rfl, rfl⟩)
    | (go_at_call 61; (with_reducible refine (s24_add3 hB13 (by decide)).mono ?_); rintro e w15 ⟨rfl, hB15⟩))

  go_ret
  exact ⟨by simp, hB15.b⟩
end Go.Proofs.Ytknlkmencdlpcaa
