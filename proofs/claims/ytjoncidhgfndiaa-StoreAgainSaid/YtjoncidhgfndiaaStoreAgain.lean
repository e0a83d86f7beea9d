/-
StoreAgain: after a slot was released and allocated again, it has the new packet and another generation, and the earlier handle is ErrStale for Bytes, Patch and Drop. For all bytes and patches.
-/
import Derived.Test.YtjoncidhgfndiaaSt5
import Derived.Test.YtjoncidhgfndiaaPatFrame
import Derived.Test.YtjoncidhgfndiaaRows
namespace Go.Proofs.Ytjoncidhgfndiaa
set_option linter.unusedVariables false
set_option linter.unusedSimpArgs false
open Go Go.RowKit

section
variable {w : World} {base : Nat} {F : Nat → Prop} {P : Nat}
theorem s1_put (h : Sto w base F P 1 [(1, 0)] noL) (A : Option Addr) (n c : Nat) (l : List UInt8) (hl : l.length ≤ 512) (hb : Bts w A n c l) (hnil : A = none → n = 0 ∧ c = 0) (hout : 0 < n → ∀ b, A.map Addr.block = some b → ¬ F b) :
    Calls Try.prog 17 #[.pointer (some ⟨P, 0, none⟩), .slice A n c] w fun e w' => e = .returned (.tuple #[.agg #[.int .i64 0, .int .u32 1], .int .i64 0]) ∧
      (∃ F', Sto w' base F' P 1 [(1, 1)] (upd noL 0 l) ∧ Grw F F' w.heap.size) ∧ Wen w w' F := by
  have h1 := sput_any h A n c l hb hnil hout
  obtain ⟨e1, e2, e3, e4⟩ := put_small (S := [(1, 0)]) (L := noL) hl
  rw [e1, e2, e3, e4, stoL_yes hl rfl] at h1
  exact h1
theorem s1_drop {L : Nat → List UInt8} (h : Sto w base F P 1 [(1, 1)] L) :
    Calls Try.prog 23 #[.pointer (some ⟨P, 0, none⟩), .agg #[.int .i64 0, .int .u32 1]] w fun e w' => e = .returned (.int .i64 0) ∧ Sto w' base F P 1 [(2, 0)] L ∧ Wen w w' F :=
  sdrop_any h 0 1 (by decide)
theorem s1_put2 {L : Nat → List UInt8} (h : Sto w base F P 1 [(2, 0)] L) (A : Option Addr) (n c : Nat) (l : List UInt8) (hl : l.length ≤ 512) (hb : Bts w A n c l) (hnil : A = none → n = 0 ∧ c = 0) (hout : 0 < n → ∀ b, A.map Addr.block = some b → ¬ F b) :
    Calls Try.prog 17 #[.pointer (some ⟨P, 0, none⟩), .slice A n c] w fun e w' => e = .returned (.tuple #[.agg #[.int .i64 0, .int .u32 2], .int .i64 0]) ∧
      (∃ F', Sto w' base F' P 1 [(2, 1)] (upd L 0 l) ∧ Grw F F' w.heap.size) ∧ Wen w w' F := by
  have h1 := sput_any h A n c l hb hnil hout
  obtain ⟨e1, e2, e3, e4⟩ := put_small (S := [(2, 0)]) (L := L) hl
  rw [e1, e2, e3, e4, stoL_yes hl rfl] at h1
  exact h1
theorem s1_bytes {L : Nat → List UInt8} {l : List UInt8} {n : Nat} (hn : l.length = n) (h : Sto w base F P 1 [(2, 1)] (upd L 0 l)) :
    Calls Try.prog 19 #[.pointer (some ⟨P, 0, none⟩), .agg #[.int .i64 0, .int .u32 2]] w fun e w' => ∃ A c', e = .returned (.tuple #[.slice A n c', .int .i64 0]) ∧
      w'.ownsRow w.heap.size 5 1 (.slice A n c') n (bys l) ∧ Below w.heap.size w w' := by
  refine (sbytes_any h 0 2).mono ?_
  rintro e w' ⟨A, m, c', rfl, ho, hb⟩
  have e2 : bytesL [(2, 1)] (upd L 0 l) 0 2 = l := rfl
  rw [e2] at ho
  obtain rfl : m = n := by have := ho.1; rw [bys_length] at this; omega
  exact ⟨A, c', rfl, ho, hb⟩
theorem s1_stale {L : Nat → List UInt8} (h : Sto w base F P 1 [(2, 1)] L) :
    Calls Try.prog 19 #[.pointer (some ⟨P, 0, none⟩), .agg #[.int .i64 0, .int .u32 1]] w fun e w' => ∃ A c', e = .returned (.tuple #[.slice A 0 c', .int .i64 7]) ∧ Below w.heap.size w w' := by
  refine (sbytes_any h 0 1).mono ?_
  rintro e w' ⟨A, m, c', rfl, ho, hb⟩
  have e2 : bytesL [(2, 1)] L 0 1 = [] := rfl
  rw [e2] at ho
  obtain rfl : m = 0 := by have := ho.1; simp [bys] at this; omega
  exact ⟨A, c', rfl, hb⟩
theorem s1_patch {L : Nat → List UInt8} (h : Sto w base F P 1 [(2, 1)] L) (sq tm ss f : Nat) (hsq : sq < 65536) (htm : tm < 4294967296) (hss : ss < 4294967296) (hf : f < 65536) :
    Calls Try.prog 21 #[.pointer (some ⟨P, 0, none⟩), .agg #[.int .i64 0, .int .u32 1], .agg #[.int .u16 sq, .int .u32 tm, .int .u32 ss, .int .u16 f]] w fun e w' =>
      e = .returned (.int .i64 7) ∧ Sto w' base F P 1 [(2, 1)] L ∧ Wen w w' F := spatch_any h 0 1 sq tm ss f hsq htm hss hf
theorem s1_drop2 {L : Nat → List UInt8} (h : Sto w base F P 1 [(2, 1)] L) :
    Calls Try.prog 23 #[.pointer (some ⟨P, 0, none⟩), .agg #[.int .i64 0, .int .u32 1]] w fun e w' => e = .returned (.int .i64 7) ∧ Sto w' base F P 1 [(2, 1)] L ∧ Wen w w' F :=
  sdrop_any h 0 1 (by decide)
theorem s1_refs {L : Nat → List UInt8} (h : Sto w base F P 1 [(2, 1)] L) :
    Calls Try.prog 24 #[.pointer (some ⟨P, 0, none⟩), .agg #[.int .i64 0, .int .u32 2]] w fun e w' => e = .returned (.int .i64 1) ∧ Below w.heap.size w w' := srefs_any h 0 2
end
theorem none_below {w : World} {A : Option Addr} {n c : Nat} {l : List UInt8} (h : Bts w A n c l) {F : Nat → Prop} {B : Nat} (hF : ∀ k, F k → B ≤ k) (hB : w.heap.size ≤ B) : 0 < n → ∀ b, A.map Addr.block = some b → ¬ F b := fun hn b hb hf => by
  obtain ⟨ad, rfl, hc⟩ := h.rd.at_ (k := 0) (by rw [bys_length, h.len]; exact hn)
  simp at hb
  have h1 := World.block_lt_of_cell? w _ hc
  rw [blk_add] at h1
  have h2 := hF b hf
  omega
theorem pbox_new (w : World) (sq tm ss f : Int) : (w.alloc (.cells #[.int .u16 sq, .int .u32 tm, .int .u32 ss, .int .u16 f] 38)).heap[w.heap.size]? = some (.cells #[.int .u16 sq, .int .u32 tm, .int .u32 ss, .int .u16 f] 38 (0, 0)) := heap_alloc_new w _
set_option maxRecDepth 20000 in
set_option maxHeartbeats 4000000 in
theorem storeAgain_walk (A : Option Addr) (n c : Nat) (l : List UInt8) (A' : Option Addr) (n' c' : Nat) (l' : List UInt8) (sq tm ss f : Int) (w : World) (hn : l.length = n) (hnc : n ≤ c) (hcm : c ≤ maxLen) (hb0 : n ≤ 140737488351232) (hA : A = none → n = 0 ∧ c = 0) (hr : Rd w A (bys l))
    (hn' : l'.length = n') (hnc' : n' ≤ c') (hcm' : c' ≤ maxLen) (hb0' : n' ≤ 140737488351232) (hA' : A' = none → n' = 0 ∧ c' = 0) (hr' : Rd w A' (bys l'))
    (hp : (0 ≤ sq ∧ sq ≤ 65535) ∧ (0 ≤ tm ∧ tm ≤ 4294967295) ∧ (0 ≤ ss ∧ ss ≤ 4294967295) ∧ (0 ≤ f ∧ f ≤ 65535)) :
    Calls Try.prog 5 #[.slice A n c, .slice A' n' c', .agg #[.int .u16 sq, .int .u32 tm, .int .u32 ss, .int .u16 f]] w fun e w' => e = .returned (.bool true) ∧ Below w.heap.size w w' := by
  obtain ⟨sq, rfl⟩ : ∃ m : Nat, sq = (m : Int) := ⟨sq.toNat, by omega⟩
  obtain ⟨tm, rfl⟩ : ∃ m : Nat, tm = (m : Int) := ⟨tm.toNat, by omega⟩
  obtain ⟨ss, rfl⟩ : ∃ m : Nat, ss = (m : Int) := ⟨ss.toNat, by omega⟩
  obtain ⟨f, rfl⟩ : ∃ m : Nat, f = (m : Int) := ⟨f.toNat, by omega⟩
  have HB : Hid (Bts w A n c l) := Lib.hid ⟨hn, hnc, hcm, hr⟩
  have HB' : Hid (Bts w A' n' c' l') := Lib.hid ⟨hn', hnc', hcm', hr'⟩
  have HN := Lib.hid hn
  have HN' := Lib.hid hn'
  have HP : Hid (sq < 65536 ∧ tm < 4294967296 ∧ ss < 4294967296 ∧ f < 65536) := Lib.hid (by omega)
  clear hr hn hr' hn' hp
  have hbA := (Below.refl w.heap.size w).alloc (Nat.le_refl _) (.cells #[.int .u16 sq, .int .u32 tm, .int .u32 ss, .int .u16 f] 38)
  by_cases hl : n ≤ 512
  · have hgt : decide ((512 : Int) < (n : Int)) = false := by simp; omega
    by_cases hl' : n' ≤ 512
    · have hgt' : decide ((512 : Int) < (n' : Int)) = false := by simp; omega
      go_enter Try.func5, Try.ntmps5
      go_wp2_with (first
        | (go_at_call 15; (with_reducible refine (shown12_any _).mono ?_); rintro e w1 ⟨rfl, hb1⟩; have hbw := hbA.trans (hb1.mono hbA.size); have hpb := (hb1.block _ (block_lt (pbox_new w sq tm ss f))).trans (pbox_new w sq tm ss f))
        | (go_at_call 16; (with_reducible refine (sh_new _).mono ?_); rintro e w2 ⟨P, rfl, hS2, hb2⟩; have hk2 : OwK w w2 w1.heap.size _ P 1 _ _ [(w.heap.size, (.cells #[.int .u16 sq, .int .u32 tm, .int .u32 ss, .int .u16 f] 38 (0, 0)))] := ⟨hS2, (fun x hx => by obtain rfl := List.mem_singleton.1 hx; exact ⟨(hb2.block _ (block_lt hpb)).trans hpb, fun h => by have := block_lt hpb; have h1 : w1.heap.size ≤ w.heap.size := h.1; omega⟩), hbw.trans (hb2.mono hbw.size), hbw.size⟩)
        | (go_at_call 17; (with_reducible refine (s1_put hk2.st A n c l (by rw [HN.out]; exact hl) (HB.out.below hk2.b) hA (none_below HB.out (fun k hk => (hk2.st.lt k hk).1) hbw.size)).mono ?_); rintro e w3 ⟨rfl, ⟨F3, hS3, hG3⟩, hW3⟩; have hk3 := hk2.step hS3 hG3 hW3)
        | (refine wpList_store_blk rfl 28 (.tmp 8) (.tmp 31) rfl w3.heap.size _ #[.int .i64 0, .int .u32 1] _ rfl rfl (hdl_new w3 0 0) rfl (by kernel_rfl) (by simp [Value.oneCell']) ?_; intro w4 hi4 hg4; have hk4 := hk3.add hg4 hi4; obtain ⟨a0, a1⟩ := row2_cells hi4)
        | (go_at_call 23; (with_reducible refine (s1_drop hk4.st).mono ?_); rintro e w5 ⟨rfl, hS5, hW5⟩; have hk5 := hk4.same hS5 hW5)
        | (go_at_call 17; (with_reducible refine (s1_put2 hk5.st A' n' c' l' (by rw [HN'.out]; exact hl') (HB'.out.below hk5.b) hA' (none_below HB'.out (fun k hk => (hk5.st.lt k hk).1) hbw.size)).mono ?_); rintro e w6 ⟨rfl, ⟨F6, hS6, hG6⟩, hW6⟩; have hk6 := hk5.step hS6 hG6 hW6)
        | (refine wpList_store_blk rfl 28 (.tmp 10) (.tmp 40) rfl w6.heap.size _ #[.int .i64 0, .int .u32 2] _ rfl rfl (hdl_new w6 0 0) rfl (by kernel_rfl) (by simp [Value.oneCell']) ?_; intro w7 hi7 hg7; have hk7 := hk6.add hg7 hi7; obtain ⟨a0, a1⟩ := row2_cells hi7)
        | (go_at_call 19; (with_reducible refine (s1_bytes HN'.out hk7.st).mono ?_); rintro e w8 ⟨A8, c8, rfl, ho8, hb8⟩; have hk8 := hk7.below hb8; obtain ⟨a0, a1⟩ := row2_cells (hk8.vars (w3.heap.size, (.cells #[.int .i64 0, .int .u32 1] 28 (0, 0))) (by simp)).1)
        | (go_at_call 19; (with_reducible refine (s1_stale hk8.st).mono ?_); rintro e w9 ⟨A9, c9, rfl, hb9⟩; have hk9 := hk8.below hb9; have hcv8 := cv_own (ho8.kept (own_below hb9) (own_none _)); have hcvB := cv_rd (c := c') HN'.out (HB'.out.below hk9.b).rd; obtain ⟨a0, a1⟩ := row2_cells (hk9.vars (w3.heap.size, (.cells #[.int .i64 0, .int .u32 1] 28 (0, 0))) (by simp)).1; obtain ⟨q0, q1, q2, q3⟩ := row4_cells (hk9.vars (w.heap.size, (.cells #[.int .u16 sq, .int .u32 tm, .int .u32 ss, .int .u16 f] 38 (0, 0))) (by simp)).1)
        | (go_at_call 21; (with_reducible refine (s1_patch hk9.st sq tm ss f HP.out.1 HP.out.2.1 HP.out.2.2.1 HP.out.2.2.2).mono ?_); rintro e w10 ⟨rfl, hS10, hW10⟩; have hk10 := hk9.same hS10 hW10; obtain ⟨a0, a1⟩ := row2_cells (hk10.vars (w3.heap.size, (.cells #[.int .i64 0, .int .u32 1] 28 (0, 0))) (by simp)).1)
        | (go_at_call 23; (with_reducible refine (s1_drop2 hk10.st).mono ?_); rintro e w11 ⟨rfl, hS11, hW11⟩; have hk11 := hk10.same hS11 hW11; obtain ⟨a0, a1⟩ := row2_cells (hk11.vars (w6.heap.size, (.cells #[.int .i64 0, .int .u32 2] 28 (0, 0))) (by simp)).1)
        | (go_at_call 24; (with_reducible refine (s1_refs hk11.st).mono ?_); rintro e w12 ⟨rfl, hb12⟩; have hk12 := hk11.below hb12; obtain ⟨a0, a1⟩ := row2_cells (hk12.vars (w3.heap.size, (.cells #[.int .i64 0, .int .u32 1] 28 (0, 0))) (by simp)).1; obtain ⟨b0, b1⟩ := row2_cells (hk12.vars (w6.heap.size, (.cells #[.int .i64 0, .int .u32 2] 28 (0, 0))) (by simp)).1))
      go_ret
      exact ⟨by simp, hk12.b⟩
    · have hgt' : decide ((512 : Int) < (n' : Int)) = true := by simp; omega
      go_enter Try.func5, Try.ntmps5
      go_wp2_with (go_at_call 15; (with_reducible refine (shown12_any _).mono ?_); rintro e w1 ⟨rfl, hb1⟩)
      go_ret
      exact ⟨rfl, hbA.trans (hb1.mono hbA.size)⟩
  · have hgt : decide ((512 : Int) < (n : Int)) = true := by simp; omega
    go_enter Try.func5, Try.ntmps5
    go_wp2_with (go_at_call 15; (with_reducible refine (shown12_any _).mono ?_); rintro e w1 ⟨rfl, hb1⟩)
    go_ret
    exact ⟨rfl, hbA.trans (hb1.mono hbA.size)⟩
namespace storeAgain
open Go.ChangeShapes Go.WideShapes Go.ChangeAt Go.RowKit
open Go.ChangeMaps (open_string shut_string)
set_option linter.unusedVariables false

theorem own : ownKnob Try.prog.godebug = none := by kernel_rfl
theorem laidOut : laidOutB Try.prog = true := by kernel_rfl

set_option maxRecDepth 100000 in
theorem lifted (os : Os) (started : os.Started) (H : Type) (enc : TypeId × Value → H) :
    ReturnsInHanded {} Try.checked os 5 .any (Rows.storeAgainSpec.pre6 enc Try.prog Try.f5 Rows.storeAgainRow.domain false) (Rows.storeAgainSpec.post enc Try.prog Try.f5 false true false false) := by
  refine returnsInHanded_of_change_sized (C := Try.checked) own started (by kernel_rfl) Try.func5
    (ChangeSpec.witness6 (enc := enc) (C := Try.checked) false ⟨#[], #[.slice none 0 0, .slice none 0 0, .agg #[.int .u16 0, .int .u32 0, .int .u32 0, .int .u16 0]], []⟩ 8 (by kernel_rfl) (by kernel_rfl) (by kernel_rfl) (by kernel_rfl)) ?_
  intro W base args ds gs before hval0 hW hcnd hsz0 _
  have hsz : (DataW.weightsEach Try.prog (Try.f5.params.toList ++ Rows.storeAgainSpec.plain.varTypes Try.prog) (ds ++ gs)).all (· ≤ reachBytes) = true := hsz0
  have hval : ∀ (j : Nat) t v, Try.f5.params[j]? = some t → args[j]? = some v → Value.okWide Try.prog W .any base t v := hval0
  have hW' := hW
  obtain ⟨p, q, hA0, hV, rfl, hfz, hnd⟩ := hW
  have hA : DataW.TrodAll enc Try.prog W 0 (fun _ => true) true Try.f5.params.toList args.toList ds p := hA0
  rw [Try.params5] at hA hval hsz
  obtain ⟨v0, vs0, d0, ds0, p0, q0, hargs, rfl, rfl, h0, r0⟩ := trodAll_cons hA
  obtain ⟨v1, vs1, d1, ds1, p1, q1, rfl, rfl, rfl, h1, r1⟩ := trodAll_cons r0
  obtain ⟨v2, vs2, d2, ds2, p2, q2, rfl, rfl, rfl, h2, r2⟩ := trodAll_cons r1
  obtain ⟨rfl, rfl, rfl⟩ := trodAll_nil r2
  obtain rfl : args = #[v0, v1, v2] := by cases args; simp_all
  obtain ⟨rfl, rfl⟩ := trodVars_none hV
  obtain ⟨a0, len0, cap0, rfl⟩ := okWide_slice Try.underlying22 (hval 0 22 v0 rfl rfl)
  have k0 := h0
  have lt0 : ∀ x ∈ p0, x.block < W.heap.size := by obtain ⟨m, hm⟩ := k0; exact DataW.trod_lt m _ _ _ hm
  obtain ⟨l0, n0, nc0, cm0, nl0, rd0, hl0⟩ : ∃ l : List UInt8, l.length = len0 ∧ len0 ≤ cap0 ∧ cap0 ≤ maxLen ∧ (a0 = none → len0 = 0 ∧ cap0 = 0) ∧ Rd W a0 (bys l) ∧ (len0 = 0 ∨ ∃ es sp, d0 = .slice es sp ∧ es.length = len0) := by
    obtain ⟨fuel, hf⟩ := h0
    exact open_byte_slice Try.underlying22 Try.underlying5 (by kernel_rfl) hf
  have hb0 : len0 * 1 ≤ 140737488351232 := reach_slice hsz (j := 0) rfl rfl Try.underlying22 (by kernel_rfl) hl0
  rw [Nat.mul_one] at hb0
  obtain ⟨a1, len1, cap1, rfl⟩ := okWide_slice Try.underlying22 (hval 1 22 v1 rfl rfl)
  have k1 := h1
  have lt1 : ∀ x ∈ p1, x.block < W.heap.size := by obtain ⟨m, hm⟩ := k1; exact DataW.trod_lt m _ _ _ hm
  obtain ⟨l1, n1, nc1, cm1, nl1, rd1, hl1⟩ : ∃ l : List UInt8, l.length = len1 ∧ len1 ≤ cap1 ∧ cap1 ≤ maxLen ∧ (a1 = none → len1 = 0 ∧ cap1 = 0) ∧ Rd W a1 (bys l) ∧ (len1 = 0 ∨ ∃ es sp, d1 = .slice es sp ∧ es.length = len1) := by
    obtain ⟨fuel, hf⟩ := h1
    exact open_byte_slice Try.underlying22 Try.underlying5 (by kernel_rfl) hf
  have hb1 : len1 * 1 ≤ 140737488351232 := reach_slice hsz (j := 1) rfl rfl Try.underlying22 (by kernel_rfl) hl1
  rw [Nat.mul_one] at hb1
  obtain ⟨s2, t2, m2, f2, rfl, rfl, rfl, wS2, wT2, wR2, wF2⟩ := open_patch (hval 2 38 v2 rfl rfl) h2
  clear hA0 hval0 hsz0
  refine (storeAgain_walk a0 len0 cap0 l0 a1 len1 cap1 l1 s2 t2 m2 f2 W n0 nc0 cm0 hb0 nl0 rd0 n1 nc1 cm1 hb1 nl1 rd1 ⟨bounds_u16 wS2, bounds_u32 wT2, bounds_u32 wR2, bounds_u16 wF2⟩).mono fun e W' ⟨he, bel⟩ => ?_
  subst he
  exact ⟨_, rfl, _, _, _, [], _, [], hW', trodAll_mk1 (shut_bool Try.underlying4 _), (trodAll_cons_mk (Below.trod laidOut (by kernel_rfl) (of_decide_eq_true (by kernel_rfl)) k0 bel lt0) (trodAll_cons_mk (Below.trod laidOut (by kernel_rfl) (of_decide_eq_true (by kernel_rfl)) k1 bel lt1) (trodAll_cons_mk (shut_patch wS2 wT2 wR2 wF2) trodAll_mk0))), rfl, bel.frame _, fun h => by cases h⟩

/-- The statement. -/
theorem proved : Rows.StoreAgainSaid :=
  OpenClaim.holds_of_wide 5 Try.f5 rfl rfl rfl rfl rfl rfl rfl ⟨rfl, rfl, rfl, rfl, rfl⟩ rfl rfl rfl rfl rfl (by kernel_rfl) Try.func5 (by kernel_rfl)
    (of_decide_eq_true (by kernel_rfl)) (by unfold Func.isWrapper; rw [if_neg (of_decide_eq_false (by kernel_rfl))]; exact ⟨rfl, rfl⟩)
    (fun os started H enc _ => lifted os started H enc)
#print axioms proved
end storeAgain
end Go.Proofs.Ytjoncidhgfndiaa
