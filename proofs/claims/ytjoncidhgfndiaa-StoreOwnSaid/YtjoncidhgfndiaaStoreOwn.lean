/-
StoreOwn: changing the bytes that were passed to Put, or those that Bytes returned, does not change the stored packet; more than 512 bytes are ErrRange and take no slot. For all bytes.
-/
import Derived.Test.YtjoncidhgfndiaaSt5
import Derived.Test.YtjoncidhgfndiaaRows
namespace Go.Proofs.Ytjoncidhgfndiaa
set_option linter.unusedVariables false
set_option linter.unusedSimpArgs false
open Go Go.RowKit

section
variable {w : World} {base : Nat} {F : Nat → Prop} {P : Nat}
theorem s2_new (w : World) : Calls Try.prog 16 #[.int .i64 2] w fun e w' => ∃ P, e = .returned (.pointer (some ⟨P, 0, none⟩)) ∧
      Sto w' w.heap.size (fun k => w.heap.size ≤ k ∧ k < w'.heap.size) P 2 [(1, 0), (1, 0)] noL ∧ Below w.heap.size w w' := snew_any 2 w (by omega)
theorem s2_put (h : Sto w base F P 2 [(1, 0), (1, 0)] noL) (A : Option Addr) (n c : Nat) (l : List UInt8) (hl : l.length ≤ 512) (hb : Bts w A n c l) (hnil : A = none → n = 0 ∧ c = 0) (hout : ∀ b, A.map Addr.block = some b → ¬ F b) :
    Calls Try.prog 17 #[.pointer (some ⟨P, 0, none⟩), .slice A n c] w fun e w' => e = .returned (.tuple #[.agg #[.int .i64 0, .int .u32 1], .int .i64 0]) ∧
      (∃ F', Sto w' base F' P 2 [(1, 1), (1, 0)] (upd noL 0 l) ∧ Grw F F' w.heap.size) ∧ Wen w w' F := by
  have h1 := sput_any h A n c l hb hnil hout
  obtain ⟨e1, e2, e3, e4⟩ := put_small (S := [(1, 0), (1, 0)]) (L := noL) hl
  rw [e1, e2, e3, e4, stoL_yes hl rfl] at h1
  exact h1
theorem s2_long (h : Sto w base F P 2 [(1, 0), (1, 0)] noL) (A : Option Addr) (n c : Nat) (l : List UInt8) (hl : ¬ l.length ≤ 512) (hb : Bts w A n c l) (hnil : A = none → n = 0 ∧ c = 0) (hout : ∀ b, A.map Addr.block = some b → ¬ F b) :
    Calls Try.prog 17 #[.pointer (some ⟨P, 0, none⟩), .slice A n c] w fun e w' => e = .returned (.tuple #[.agg #[.int .i64 0, .int .u32 0], .int .i64 5]) ∧
      (∃ F', Sto w' base F' P 2 [(1, 0), (1, 0)] noL ∧ Grw F F' w.heap.size) ∧ Wen w w' F := by
  have h1 := sput_any h A n c l hb hnil hout
  obtain ⟨e1, e2, e3, e4, e5⟩ := put_big (S := [(1, 0), (1, 0)]) (L := noL) hl
  rw [e1, e2, e3, e4, e5] at h1
  exact h1
theorem s2_bytes {l : List UInt8} {n : Nat} (hn : l.length = n) (h : Sto w base F P 2 [(1, 1), (1, 0)] (upd noL 0 l)) :
    Calls Try.prog 19 #[.pointer (some ⟨P, 0, none⟩), .agg #[.int .i64 0, .int .u32 1]] w fun e w' => ∃ A c', e = .returned (.tuple #[.slice A n c', .int .i64 0]) ∧
      w'.ownsRow w.heap.size 5 1 (.slice A n c') n (bys l) ∧ Below w.heap.size w w' := by
  refine (sbytes_any h 0 1).mono ?_
  rintro e w' ⟨A, m, c', rfl, ho, hb⟩
  have e2 : bytesL [(1, 1), (1, 0)] (upd noL 0 l) 0 1 = l := rfl
  rw [e2] at ho
  obtain rfl : m = n := by have := ho.1; rw [bys_length] at this; omega
  exact ⟨A, c', rfl, ho, hb⟩
theorem s2_free {L : Nat → List UInt8} (h : Sto w base F P 2 [(1, 0), (1, 0)] L) :
    Calls Try.prog 18 #[.pointer (some ⟨P, 0, none⟩)] w fun e w' => e = .returned (.int .i64 2) ∧ Below w.heap.size w w' := sfree_any h
end
theorem Bts.down {w w' : World} {A : Option Addr} {n c : Nat} {l : List UInt8} (h : Bts w A n c l) (hb : Below w.heap.size w w') : Bts w' A n c l := h.below hb
set_option maxRecDepth 20000 in
set_option maxHeartbeats 4000000 in
theorem storeOwn_walk (A : Option Addr) (n c : Nat) (l : List UInt8) (w : World) (hn : l.length = n) (hnc : n ≤ c) (hcm : c ≤ maxLen) (hb0 : n ≤ 140737488351232) (hA : A = none → n = 0 ∧ c = 0) (hr : Rd w A (bys l)) :
    Calls Try.prog 3 #[.slice A n c] w fun e w' => e = .returned (.bool true) ∧ Below w.heap.size w w' := by
  have HB : Hid (Bts w A n c l) := Lib.hid ⟨hn, hnc, hcm, hr⟩
  have HN := Lib.hid hn
  clear hr hn
  by_cases hl : n ≤ 512
  · have hgt : decide ((512 : Int) < (n : Int)) = false := by simp; omega
    go_enter Try.func3, Try.ntmps3
    go_wp2_with (first
      | (go_at_call 15; (with_reducible refine (shown12_any _).mono ?_); rintro e w1 ⟨rfl, hb1⟩)
      | (go_at_call 16; (with_reducible refine (s2_new _).mono ?_); rintro e w2 ⟨P, rfl, hS2, hb2⟩; have hk2 : OwK w w2 w1.heap.size _ P 2 _ _ [] := ⟨hS2, (fun x hx => by cases hx), hb1.trans (hb2.mono hb1.size), hb1.size⟩)
      | (at_builtin; refine wpList_app slU8 rfl _ _ rfl w2.heap.size none 0 0 [] rfl (World.ownsRow_nil _ _ _ _) A n c (bys l) rfl (by rw [bys_length, HN.out]; omega) (HB.out.down hk2.b).rd (bys_one _) (by omega) (Nat.le_refl _) ?_; intro A3 c3 w3 ho3 hg3 hA3; rw [Nat.zero_add, List.nil_append] at ho3; have hb3 : Below w2.heap.size w2 w3 := (Below.refl _ _).grown hg3 (Nat.le_refl _) (by simp); have hk3 := hk2.below hb3; have hf3 := hk2.fresh ho3; rw [Nat.zero_add])
      | (go_at_call 17; (with_reducible refine (s2_put hk3.st A3 n c3 l (by rw [HN.out]; exact hl) (own_bts ho3) (own_nil' ho3) hf3.not).mono ?_); rintro e w4 ⟨rfl, ⟨F4, hS4, hG4⟩, hW4⟩; have hk4 := hk3.step hS4 hG4 hW4; have ho4 := own_wen ho3 hW4 hf3.not; have hf4 := hf3.step ho3 hG4)
      | (refine wpList_store_blk rfl 28 (.tmp 5) (.tmp 22) rfl w4.heap.size _ #[.int .i64 0, .int .u32 1] _ rfl rfl (hdl_new w4 0 0) rfl (by kernel_rfl) (by simp [Value.oneCell']) ?_; intro w5 hi5 hg5; have hk5 := hk4.add hg5 hi5; have ho5 := own_off' hg5 ho4; have hf5 := hf4.add (o := .cells #[.int .i64 0, .int .u32 1] 28 (0, 0)) ho4))
    go_loopw [36] (fun i wr => ∃ (k : Nat) (xs : List Value), i = .int .i64 k ∧ k ≤ n ∧ OwK w wr w1.heap.size F4 P 2 [(1, 1), (1, 0)] (upd noL 0 l) [(w4.heap.size, .cells #[.int .i64 0, .int .u32 1] 28 (0, 0))] ∧ wr.ownsRow w2.heap.size 5 1 (.slice A3 n c3) n xs ∧ U8s xs) (fun i _ => n - (intOf i).toNat)
    case atStart => exact ⟨0, _, rfl, Nat.zero_le _, hk5, ho5, u8s_bys _⟩
    case round =>
      obtain ⟨k, xs, rfl, hkn, hk, ho, hu⟩ := hrel
      clear hk2 hk3 hk4 hk5 ho3 ho4 ho5
      by_cases hlt : k < n
      · obtain ⟨g, z, rfl, c0, c1, hcc, hst⟩ := u8_cell ho hu hlt
        have hlt' : decide ((k : Int) < (n : Int)) = true := by simp; omega
        have hoff := hf5 g rfl
        go_wp2
        exact ⟨⟨k + 1, _, rfl, by omega, hk.else (Wen.of_grown (hst _).2) (fun x e => by injection e with e; subst e; exact hoff), (hst _).1, hu.set _ _⟩, by simp [intOf]; omega⟩
      · obtain rfl : k = n := by omega
        clear hlt
        obtain ⟨a0, a1⟩ := row2_cells (hk.vars _ (List.mem_singleton.2 rfl)).1
        go_wp2_with (first
          | (go_at_call 19; (with_reducible refine (s2_bytes HN.out hk.st).mono ?_); rintro e w6 ⟨A6, c6, rfl, ho6, hb6⟩; have hk6 := hk.below hb6; have hf6 := hk.fresh ho6; replace ho6 := own_mono ho6 hk.b.size; have hcv6 := cv_own ho6; have hcvB := cv_rd (c := c) HN.out (HB.out.down hk6.b).rd))
        clear hcv6 hcvB
        go_loopw [67] (fun i wr => ∃ (k' : Nat) (xs : List Value), i = .int .i64 k' ∧ k' ≤ k ∧ OwK w wr w1.heap.size F4 P 2 [(1, 1), (1, 0)] (upd noL 0 l) [(w4.heap.size, .cells #[.int .i64 0, .int .u32 1] 28 (0, 0))] ∧ wr.ownsRow w.heap.size 5 1 (.slice A6 k c6) k xs ∧ U8s xs) (fun i _ => k - (intOf i).toNat)
        case atStart => exact ⟨0, _, rfl, Nat.zero_le _, hk6, ho6, u8s_bys _⟩
        case round =>
          obtain ⟨k', xs', rfl, hkn', hk7, ho7, hu7⟩ := hrel
          clear hk6 ho6 hk ho
          by_cases hlt : k' < k
          · obtain ⟨g, z, rfl, c0, c1, hcc, hst⟩ := u8_cell ho7 hu7 hlt
            have hlt' : decide ((k' : Int) < (k : Int)) = true := by simp; omega
            have hoff := hf6 g rfl
            go_wp2
            exact ⟨⟨k' + 1, _, rfl, by omega, hk7.else (Wen.of_grown (hst _).2) (fun x e => by injection e with e; subst e; exact hoff), (hst _).1, hu7.set _ _⟩, by simp [intOf]; omega⟩
          · obtain rfl : k' = k := by omega
            clear hlt
            obtain ⟨b0, b1⟩ := row2_cells (hk7.vars _ (List.mem_singleton.2 rfl)).1
            go_wp2_with (first
              | (go_at_call 19; (with_reducible refine (s2_bytes HN.out hk7.st).mono ?_); rintro e w8 ⟨A8, c8, rfl, ho8, hb8⟩; have hk8 := hk7.below hb8; have hcv8 := cv_own ho8; have hcvB := cv_rd (c := c) HN.out (HB.out.down hk8.b).rd))
            go_ret
            exact ⟨by simp, hk8.b⟩
  · have hgt : decide ((512 : Int) < (n : Int)) = true := by simp; omega
    go_enter Try.func3, Try.ntmps3
    go_wp2_with (first
      | (go_at_call 15; (with_reducible refine (shown12_any _).mono ?_); rintro e w1 ⟨rfl, hb1⟩)
      | (go_at_call 16; (with_reducible refine (s2_new _).mono ?_); rintro e w2 ⟨P, rfl, hS2, hb2⟩; have hk2 : OwK w w2 w1.heap.size _ P 2 _ _ [] := ⟨hS2, (fun x hx => by cases hx), hb1.trans (hb2.mono hb1.size), hb1.size⟩)
      | (at_builtin; refine wpList_app slU8 rfl _ _ rfl w2.heap.size none 0 0 [] rfl (World.ownsRow_nil _ _ _ _) A n c (bys l) rfl (by rw [bys_length, HN.out]; omega) (HB.out.down hk2.b).rd (bys_one _) (by omega) (Nat.le_refl _) ?_; intro A3 c3 w3 ho3 hg3 hA3; rw [Nat.zero_add, List.nil_append] at ho3; have hb3 : Below w2.heap.size w2 w3 := (Below.refl _ _).grown hg3 (Nat.le_refl _) (by simp); have hk3 := hk2.below hb3; have hf3 := hk2.fresh ho3; rw [Nat.zero_add])
      | (go_at_call 17; (with_reducible refine (s2_long hk3.st A3 n c3 l (by rw [HN.out]; exact hl) (own_bts ho3) (own_nil' ho3) hf3.not).mono ?_); rintro e w4 ⟨rfl, ⟨F4, hS4, hG4⟩, hW4⟩; have hk4 := hk3.step hS4 hG4 hW4)
      | (refine wpList_store_blk rfl 28 (.tmp 5) (.tmp 22) rfl w4.heap.size _ #[.int .i64 0, .int .u32 0] _ rfl rfl (hdl_new w4 0 0) rfl (by kernel_rfl) (by simp [Value.oneCell']) ?_; intro w5 hi5 hg5; have hk5 := hk4.add hg5 hi5)
      | (go_at_call 18; (with_reducible refine (s2_free hk5.st).mono ?_); rintro e w6 ⟨rfl, hb6⟩; have hk6 := hk5.below hb6))
    go_ret
    exact ⟨rfl, hk6.b⟩
namespace storeOwn
open Go.ChangeShapes Go.WideShapes Go.ChangeAt Go.RowKit
open Go.ChangeMaps (open_string shut_string)
set_option linter.unusedVariables false

theorem own : ownKnob Try.prog.godebug = none := by kernel_rfl
theorem laidOut : laidOutB Try.prog = true := by kernel_rfl

set_option maxRecDepth 100000 in
theorem lifted (os : Os) (started : os.Started) (H : Type) (enc : TypeId × Value → H) :
    ReturnsInHanded {} Try.checked os 3 .any (Rows.storeOwnSpec.pre6 enc Try.prog Try.f3 Rows.storeOwnRow.domain false) (Rows.storeOwnSpec.post enc Try.prog Try.f3 false true false false) := by
  refine returnsInHanded_of_change_sized (C := Try.checked) own started (by kernel_rfl) Try.func3
    (ChangeSpec.witness6 (enc := enc) (C := Try.checked) false ⟨#[], #[.slice none 0 0], []⟩ 8 (by kernel_rfl) (by kernel_rfl) (by kernel_rfl) (by kernel_rfl)) ?_
  intro W base args ds gs before hval0 hW hcnd hsz0 _
  have hsz : (DataW.weightsEach Try.prog (Try.f3.params.toList ++ Rows.storeOwnSpec.plain.varTypes Try.prog) (ds ++ gs)).all (· ≤ reachBytes) = true := hsz0
  have hval : ∀ (j : Nat) t v, Try.f3.params[j]? = some t → args[j]? = some v → Value.okWide Try.prog W .any base t v := hval0
  have hW' := hW
  obtain ⟨p, q, hA0, hV, rfl, hfz, hnd⟩ := hW
  have hA : DataW.TrodAll enc Try.prog W 0 (fun _ => true) true Try.f3.params.toList args.toList ds p := hA0
  rw [Try.params3] at hA hval hsz
  obtain ⟨v0, vs0, d0, ds0, p0, q0, hargs, rfl, rfl, h0, r0⟩ := trodAll_cons hA
  obtain ⟨rfl, rfl, rfl⟩ := trodAll_nil r0
  obtain rfl : args = #[v0] := by cases args; simp_all
  obtain ⟨rfl, rfl⟩ := trodVars_none hV
  obtain ⟨a0, len0, cap0, rfl⟩ := okWide_slice Try.underlying22 (hval 0 22 v0 rfl rfl)
  have k0 := h0
  have lt0 : ∀ x ∈ p0, x.block < W.heap.size := by obtain ⟨m, hm⟩ := k0; exact DataW.trod_lt m _ _ _ hm
  obtain ⟨l0, n0, nc0, cm0, nl0, rd0, hl0⟩ : ∃ l : List UInt8, l.length = len0 ∧ len0 ≤ cap0 ∧ cap0 ≤ maxLen ∧ (a0 = none → len0 = 0 ∧ cap0 = 0) ∧ Rd W a0 (bys l) ∧ (len0 = 0 ∨ ∃ es sp, d0 = .slice es sp ∧ es.length = len0) := by
    obtain ⟨fuel, hf⟩ := h0
    exact open_byte_slice Try.underlying22 Try.underlying5 (by kernel_rfl) hf
  have hb0 : len0 * 1 ≤ 140737488351232 := reach_slice hsz (j := 0) rfl rfl Try.underlying22 (by kernel_rfl) hl0
  rw [Nat.mul_one] at hb0
  clear hA0 hval0 hsz0
  refine (storeOwn_walk a0 len0 cap0 l0 W n0 nc0 cm0 hb0 nl0 rd0).mono fun e W' ⟨he, bel⟩ => ?_
  subst he
  exact ⟨_, rfl, _, _, _, [], _, [], hW', trodAll_mk1 (shut_bool Try.underlying4 _), (trodAll_cons_mk (Below.trod laidOut (by kernel_rfl) (of_decide_eq_true (by kernel_rfl)) k0 bel lt0) trodAll_mk0), rfl, bel.frame _, fun h => by cases h⟩

/-- The statement. -/
theorem proved : Rows.StoreOwnSaid :=
  OpenClaim.holds_of_wide 3 Try.f3 rfl rfl rfl rfl rfl rfl rfl ⟨rfl, rfl, rfl, rfl, rfl⟩ rfl rfl rfl rfl rfl (by kernel_rfl) Try.func3 (by kernel_rfl)
    (of_decide_eq_true (by kernel_rfl)) (by unfold Func.isWrapper; rw [if_neg (of_decide_eq_false (by kernel_rfl))]; exact ⟨rfl, rfl⟩)
    (fun os started H enc _ => lifted os started H enc)
#print axioms proved
end storeOwn
end Go.Proofs.Ytjoncidhgfndiaa
