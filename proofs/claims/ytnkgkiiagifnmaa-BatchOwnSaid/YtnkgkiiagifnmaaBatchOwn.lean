/-
BatchOwn: changing the bytes that were passed to Add does not change what is sent, and a second Flush sends nothing. For every number and all bytes.
-/
import Derived.Test.YtnkgkiiagifnmaaBt5
import Derived.Test.YtnkgkiiagifnmaaSt5
import Derived.Test.YtnkgkiiagifnmaaRows
namespace Go.Proofs.Ytnkgkiiagifnmaa
set_option linter.unusedVariables false
set_option linter.unusedSimpArgs false
open Go Go.RowKit

section
variable {w0 w : World} {B pb P : Nat} {G : Nat → Prop} {l : List Rsc} {N : Int} {L : Nat → List UInt8}
theorem s1_new (w : World) : Calls Try.prog 39 #[.int .i64 1] w fun e w' => ∃ P, e = .returned (.pointer (some ⟨P, 0, none⟩)) ∧
      Sto w' w.heap.size (fun k => w.heap.size ≤ k ∧ k < w'.heap.size) P 1 [(1, 0)] noL ∧ Below w.heap.size w w' := snew_any 1 w (by omega)
def xOw (bl : List UInt8) : Wr := ⟨5, 3, 4, 0, 0, 0, 0, 0, 0, ⟨none, 0, 0, bl⟩⟩
theorem ow_add (h : BatH w0 w B pb P N [] (rSto B G P 1 [(1, 0)] L :: l)) (A : Option Addr) (n c : Nat) (bl : List UInt8) (hz : (⟨A, n, c, bl⟩ : Bz).ok w) (hzo : 0 < n → ∀ b, A.map Addr.block = some b → ¬ G b) :
    Calls Try.prog 60 #[.pointer (some ⟨pb, 0, none⟩), .agg #[.int .i64 5, .int .i64 3, .int .i64 4, .int .i64 0, .int .u32 0, .int .u16 0, .int .u32 0, .int .u32 0, .int .u16 0, .slice A n c]] w fun e w' =>
      e = .returned (.int .i64 0) ∧ BatH w0 w' B pb P N [xOw bl] (rSto B G P 1 [(1, 0)] L :: l) :=
  add_any h ⟨5, 3, 4, 0, 0, 0, 0, 0, 0, ⟨A, n, c, bl⟩⟩ hz hzo (by unfold Wr.pOk; simp) (by decide) (by decide)
/-- What is sent. -/
def FlO (w0 w' : World) (B pb P : Nat) (N : Int) (G : Nat → Prop) (L : Nat → List UInt8) (l : List Rsc) (n : Nat) (bl : List UInt8) (e : Ending) : Prop :=
  ∃ (g d : Nat) (X : Option Addr) (c : Nat) (F : Nat → Prop) (Z : List Bz), e = .returned (.slice (some ⟨g, 0, none⟩) 1 d) ∧ 1 ≤ d ∧ n ≤ c ∧ (⟨X, n, c, bl⟩ : Bz) ∈ Z ∧
    Hold w0 w' B (rRow B 97 4 (some ⟨g, 0, none⟩) 1 d (rowG snV [⟨5, 3, 4, ⟨X, n, c, bl⟩⟩]) :: rVar pb (btO P N none 0 0) :: rRow B 93 10 none 0 0 (rowG wrV []) :: rPool F Z :: rSto B G P 1 [(1, 0)] L :: l)
theorem ow_flush (n : Nat) (bl : List UInt8) (hn : bl.length = n) (h : BatH w0 w B pb P N [xOw bl] (rSto B G P 1 [(1, 0)] L :: l)) :
    Calls Try.prog 61 #[.pointer (some ⟨pb, 0, none⟩)] w fun e w' => FlO w0 w' B pb P N G L l n bl e := by
  refine (flush_any h (by decide) (by simp)).mono ?_
  rintro e w' ⟨X, m, d, ys, F, Z, rfl, hys, hyz, hk⟩
  have hl : ys.length = 1 := by have := congrArg List.length hys; rw [List.length_map, flY_length] at this; exact this
  match ys, hl with
  | [y], _ =>
    obtain ⟨g, hX, hm, hd, hc1⟩ := rowG_cells (k := 0) snV_length (hk.get 0 rfl) (by omega) (by simp)
    obtain rfl : m = 1 := by rw [← hm]; rfl
    subst hX
    have z1 := hk.pool 3 rfl (hyz y (by simp))
    have e1 : y.k = 5 ∧ y.p = 3 ∧ y.s = 4 ∧ y.z.l = bl := by simpa [Snt.bare, flY, sentL, xOw, pkB] using hys
    have hy := hyz y (by simp)
    obtain ⟨k, p, s, A, n1, c1, l1⟩ := y
    obtain ⟨rfl, rfl, rfl, e4⟩ := e1
    simp only at e4
    subst e4
    obtain rfl : n1 = n := by have := z1.bt.len; simp at this; omega
    exact ⟨g, d, A, c1, F, Z, rfl, hd, z1.bt.nc, hy, hk⟩
theorem ow_none (h : BatH w0 w B pb P N [] (rSto B G P 1 [(1, 0)] L :: l)) :
    Calls Try.prog 61 #[.pointer (some ⟨pb, 0, none⟩)] w fun e w' => ∃ X d, e = .returned (.slice X 0 d) ∧ BatH w0 w' B pb P N [] (rSto B G P 1 [(1, 0)] L :: l) := by
  refine (flush_any h (by decide) (by decide)).mono ?_
  rintro e w' ⟨X, m, d, ys, F, Z, rfl, hys, hyz, hk⟩
  obtain rfl : ys = [] := by simpa [flY] using hys
  obtain rfl : m = 0 := by have := rowG_len snV_length (hk.get 0 rfl) (by omega); simpa using this.symm
  exact ⟨X, d, rfl, BatH.of hk.tail⟩
end
set_option maxRecDepth 20000 in
set_option maxHeartbeats 4000000 in
theorem batchOwn_walk (N : Int) (A : Option Addr) (n c : Nat) (l : List UInt8) (w : World) (h0 : -9223372036854775808 ≤ N ∧ N ≤ 9223372036854775807) (hn : l.length = n) (hnc : n ≤ c) (hcm : c ≤ maxLen) (hb0 : n ≤ 140737488351232) (hA : A = none → n = 0 ∧ c = 0) (hr : Rd w A (bys l)) :
    Calls Try.prog 11 #[.int .i64 N, .slice A n c] w fun e w' => e = .returned (.bool true) ∧ Below w.heap.size w w' := by
  have HB : Hid (Bts w A n c l) := Lib.hid ⟨hn, hnc, hcm, hr⟩
  have HN := Lib.hid hn
  clear hr hn
  go_enter Try.func11, Try.ntmps11
  go_wp2_with (first
    | (go_at_call 58; (with_reducible refine (shown24_any _).mono ?_); rintro e w1 ⟨rfl, hb1⟩)
    | (go_at_call 39; (with_reducible refine (s1_new _).mono ?_); rintro e w2 ⟨P, rfl, hS2, hb2⟩; have hk2 : Hold w w2 w1.heap.size [_] := (Hold.nil hb1 hb1.size (Nat.le_refl _)).snew hS2 hb2)
    | (go_at_call 59; (with_reducible refine (bnew_any P N _).mono ?_); rintro e w3 ⟨rfl, hw3⟩; have hB3 := BatH.new hk2 P (bN N); rw [← hw3] at hB3; clear hw3)
    | (at_builtin; refine wpList_app slU8 rfl _ _ rfl w3.heap.size none 0 0 [] rfl (World.ownsRow_nil _ _ _ _) A n c (bys l) rfl (by rw [bys_length, HN.out]; omega) (HB.out.below hB3.b).rd (bys_one _) (by omega) (Nat.le_refl _) ?_; intro A4 c4 w4 ho4 hg4 hA4; rw [Nat.zero_add, List.nil_append] at ho4; have hb4 : Below w3.heap.size w3 w4 := (Below.refl _ _).grown hg4 (Nat.le_refl _) (by simp); have hB4 := hB3.rnewT ho4 hb4; rw [Nat.zero_add])
    | (go_at_call 60; (with_reducible refine (ow_add hB4 A4 n c4 l ⟨own_bts (hB4.get 1 rfl), own_nil' (hB4.get 1 rfl), hb0⟩ (fun _ => hB4.dis 1 0 rfl rfl (by omega))).mono ?_); rintro e w5 ⟨rfl, hB5⟩))
  go_loopw [23] (fun i wr => ∃ (k : Nat) (xs : List Value), i = .int .i64 k ∧ k ≤ n ∧ BatH w wr w1.heap.size w2.heap.size P (bN N) [xOw l] (rSto w1.heap.size _ P 1 [(1, 0)] noL :: rRow w1.heap.size 5 1 A4 n c4 xs :: []) ∧ U8s xs) (fun i _ => n - (intOf i).toNat)
  case atStart => exact ⟨0, _, rfl, Nat.zero_le _, hB5, u8s_bys _⟩
  case round =>
    obtain ⟨k, xs, rfl, hkn, hB, hu⟩ := hrel
    clear hB3 hB4 hB5
    by_cases hlt : k < n
    · obtain ⟨X5, m5, d5, ys5, F5, Z5, hk, hr5⟩ := hB
      obtain ⟨g, z, rfl, c0, c1, hcc, hst⟩ := u8_cell (hk.get 4 rfl) hu hlt
      have hlt' : decide ((k : Int) < (n : Int)) = true := by simp; omega
      go_wp2
      exact ⟨⟨k + 1, _, rfl, by omega, ⟨X5, m5, d5, ys5, F5, Z5, hk.app 4 rfl (hst _).1 (hst _).2 (.inl rfl), hr5⟩, hu.set _ _⟩, by simp [intOf]; omega⟩
    · obtain rfl : k = n := by omega
      clear hlt
      have hbn := bN_bd N
      go_wp2_with (first
        | (go_at_call 61; (with_reducible refine (ow_flush k l HN.out hB).mono ?_); rintro e w6 ⟨g, d, X, cX, F6, Z6, rfl, hd, hcX, hz6, hk6⟩))
      refine region_plan (calmB_sound _) (.leaf [0, 1, 2, 3, 4, 5, 6, 7, 8, 9, 10, 11, 12, 13, 14, 15, 16, 17, 18, 19, 20, 21, 22, 23, 24, 25, 26, 27, 28, 29, 30, 31, 32, 33, 34, 35, 36, 37, 38, 39, 40, 41, 42, 43, 44, 45, 46, 47]) (by kernel_rfl) (by kernel_rfl) (by kernel_rfl) ?_
      have hk7 := hk6.drew
      generalize w6.drew = w7 at *
      obtain ⟨_, _, _, _, hcs⟩ := rowG_cells (k := 0) snV_length (hk7.get 0 rfl) (by omega) (by simp)
      have c1 := hcs 1 _ rfl
      have c2 := hcs 2 _ rfl
      have c3 := hcs 3 _ rfl
      rename_i gg hgg _ _
      obtain rfl : g = gg := by injection hgg with e; injection e
      clear hgg
      simp only [Nat.zero_mul, Nat.zero_add] at c1 c2 c3
      have hcvX := cv_rd (c := cX) HN.out (hk7.pool 3 rfl hz6).bt.rd
      have hcvB := cv_rd (c := c) HN.out (HB.out.below hk7.b).rd
      clear hcs
      refine wpPlan_leaf fun PL0 hPL0 => ?_
      simp only [List.filterMap_cons, List.filterMap_nil, List.getElem?_toArray, List.getElem?_cons_succ, List.getElem?_cons_zero]
      change wpList _ _ _ [_, _, _, _, _, _, _, _, _, _, _, _, _, _, _, _, _, _, _, _, _, _, _, _, _, _, _, _, _, _, _, _, _, _, _, _, _, _, _, _, _, _, _, _, _, _, _, _] _ _
      go_wp2_with (first | (go_at_call 61; (with_reducible refine (ow_none (BatH.of hk7.tail)).mono ?_); rintro e w8 ⟨X8, d8, rfl, hB8⟩) | (go_at_call 62; (with_reducible refine (hB8.len 0 rfl).mono ?_); rintro e w9 ⟨rfl, rfl⟩) | (go_at_call 63; (with_reducible refine (hB8.full false (by simp; omega) (by decide)).mono ?_); rintro e w10 ⟨rfl, hb10⟩))
      go_ret
      exact ⟨by simp, (hB8.below hb10).b⟩
namespace batchOwn
open Go.ChangeShapes Go.WideShapes Go.ChangeAt Go.RowKit
open Go.ChangeMaps (open_string shut_string)
set_option linter.unusedVariables false

theorem own : ownKnob Try.prog.godebug = none := by kernel_rfl
theorem laidOut : laidOutB Try.prog = true := by kernel_rfl

set_option maxRecDepth 100000 in
theorem lifted (os : Os) (started : os.Started) (H : Type) (enc : TypeId × Value → H) :
    ReturnsInHanded {} Try.checked os 11 .any (Rows.batchOwnSpec.pre6 enc Try.prog Try.f11 Rows.batchOwnRow.domain false) (Rows.batchOwnSpec.post enc Try.prog Try.f11 false true false false) := by
  refine returnsInHanded_of_change_sized (C := Try.checked) own started (by kernel_rfl) Try.func11
    (ChangeSpec.witness6 (enc := enc) (C := Try.checked) false ⟨#[], #[.int .i64 0, .slice none 0 0], []⟩ 8 (by kernel_rfl) (by kernel_rfl) (by kernel_rfl) (by kernel_rfl)) ?_
  intro W base args ds gs before hval0 hW hcnd hsz0 _
  have hsz : (DataW.weightsEach Try.prog (Try.f11.params.toList ++ Rows.batchOwnSpec.plain.varTypes Try.prog) (ds ++ gs)).all (· ≤ reachBytes) = true := hsz0
  have hval : ∀ (j : Nat) t v, Try.f11.params[j]? = some t → args[j]? = some v → Value.okWide Try.prog W .any base t v := hval0
  have hW' := hW
  obtain ⟨p, q, hA0, hV, rfl, hfz, hnd⟩ := hW
  have hA : DataW.TrodAll enc Try.prog W 0 (fun _ => true) true Try.f11.params.toList args.toList ds p := hA0
  rw [Try.params11] at hA hval hsz
  obtain ⟨v0, vs0, d0, ds0, p0, q0, hargs, rfl, rfl, h0, r0⟩ := trodAll_cons hA
  obtain ⟨v1, vs1, d1, ds1, p1, q1, rfl, rfl, rfl, h1, r1⟩ := trodAll_cons r0
  obtain ⟨rfl, rfl, rfl⟩ := trodAll_nil r1
  obtain rfl : args = #[v0, v1] := by cases args; simp_all
  obtain ⟨rfl, rfl⟩ := trodVars_none hV
  obtain ⟨x0, rfl, rfl, rfl, w0⟩ := open_int Try.underlying3 (hval 0 3 v0 rfl rfl) h0
  obtain ⟨a1, len1, cap1, rfl⟩ := okWide_slice Try.underlying22 (hval 1 22 v1 rfl rfl)
  have k1 := h1
  have lt1 : ∀ x ∈ p1, x.block < W.heap.size := by obtain ⟨m, hm⟩ := k1; exact DataW.trod_lt m _ _ _ hm
  obtain ⟨l1, n1, nc1, cm1, nl1, rd1, hl1⟩ : ∃ l : List UInt8, l.length = len1 ∧ len1 ≤ cap1 ∧ cap1 ≤ maxLen ∧ (a1 = none → len1 = 0 ∧ cap1 = 0) ∧ Rd W a1 (bys l) ∧ (len1 = 0 ∨ ∃ es sp, d1 = .slice es sp ∧ es.length = len1) := by
    obtain ⟨fuel, hf⟩ := h1
    exact open_byte_slice Try.underlying22 Try.underlying5 (by kernel_rfl) hf
  have hb1 : len1 * 1 ≤ 140737488351232 := reach_slice hsz (j := 1) rfl rfl Try.underlying22 (by kernel_rfl) hl1
  rw [Nat.mul_one] at hb1
  clear hA0 hval0 hsz0
  refine (batchOwn_walk x0 a1 len1 cap1 l1 W (bounds_i64 w0) n1 nc1 cm1 hb1 nl1 rd1).mono fun e W' ⟨he, bel⟩ => ?_
  subst he
  exact ⟨_, rfl, _, _, _, [], _, [], hW', trodAll_mk1 (shut_bool Try.underlying4 _), (trodAll_cons_mk (shut_int Try.underlying3 w0) (trodAll_cons_mk (Below.trod laidOut (by kernel_rfl) (of_decide_eq_true (by kernel_rfl)) k1 bel lt1) trodAll_mk0)), rfl, bel.frame _, fun h => by cases h⟩

/-- The statement. -/
theorem proved : Rows.BatchOwnSaid :=
  OpenClaim.holds_of_wide 11 Try.f11 rfl rfl rfl rfl rfl rfl rfl ⟨rfl, rfl, rfl, rfl, rfl⟩ rfl rfl rfl rfl rfl (by kernel_rfl) Try.func11 (by kernel_rfl)
    (of_decide_eq_true (by kernel_rfl)) (by unfold Func.isWrapper; rw [if_neg (of_decide_eq_false (by kernel_rfl))]; exact ⟨rfl, rfl⟩)
    (fun os started H enc _ => lifted os started H enc)
#print axioms proved
end batchOwn
end Go.Proofs.Ytnkgkiiagifnmaa
