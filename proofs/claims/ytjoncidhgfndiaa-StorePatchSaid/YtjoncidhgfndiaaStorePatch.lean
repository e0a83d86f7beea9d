/-
StorePatch: Patch changes the packet as the reference does if there is one reference and the bytes are a packet with a descriptor; otherwise it returns ErrState (2 to 20 references) or ErrForm and changes nothing. For all bytes and patches.
-/
import Derived.Test.YtjoncidhgfndiaaSt5
import Derived.Test.YtjoncidhgfndiaaPatFrame
import Derived.Test.YtjoncidhgfndiaaRows
namespace Go.Proofs.Ytjoncidhgfndiaa
set_option linter.unusedVariables false
set_option linter.unusedSimpArgs false
open Go Go.RowKit

abbrev S3 (r : Nat) : List Slo := [(1, r), (1, 0), (1, 0)]
theorem s3_live (r : Nat) (h : 0 < r) : liveS (S3 r) 0 1 = true := by simp [liveS, h]
theorem s3_rf (r : Nat) (h : 0 < r) : refsS (S3 r) 0 1 = r := by unfold refsS; rw [if_pos (s3_live r h)]; rfl
section
variable {w : World} {base : Nat} {F : Nat → Prop} {P : Nat}
theorem s3_new (w : World) : Calls Try.prog 16 #[.int .i64 3] w fun e w' => ∃ P, e = .returned (.pointer (some ⟨P, 0, none⟩)) ∧
      Sto w' w.heap.size (fun k => w.heap.size ≤ k ∧ k < w'.heap.size) P 3 (S3 0) noL ∧ Below w.heap.size w w' := snew_any 3 w (by omega)
theorem s3_put (h : Sto w base F P 3 (S3 0) noL) (A : Option Addr) (n c : Nat) (l : List UInt8) (hl : l.length ≤ 512) (hb : Bts w A n c l) (hnil : A = none → n = 0 ∧ c = 0) (hout : 0 < n → ∀ b, A.map Addr.block = some b → ¬ F b) :
    Calls Try.prog 17 #[.pointer (some ⟨P, 0, none⟩), .slice A n c] w fun e w' => e = .returned (.tuple #[.agg #[.int .i64 0, .int .u32 1], .int .i64 0]) ∧
      (∃ F', Sto w' base F' P 3 (S3 1) (upd noL 0 l) ∧ Grw F F' w.heap.size) ∧ Wen w w' F := by
  have h1 := sput_any h A n c l hb hnil hout
  obtain ⟨e1, e2, e3, e4⟩ := put_small (S := S3 0) (L := noL) hl
  rw [e1, e2, e3, e4, stoL_yes hl rfl] at h1
  exact h1
theorem s3_keep {L : Nat → List UInt8} (r : Nat) (hr : 0 < r) (hr2 : r ≤ 20) (h : Sto w base F P 3 (S3 r) L) :
    Calls Try.prog 20 #[.pointer (some ⟨P, 0, none⟩), .agg #[.int .i64 0, .int .u32 1]] w fun e w' => e = .returned (.int .i64 0) ∧ Sto w' base F P 3 (S3 (r + 1)) L ∧ Wen w w' F := by
  have h1 := skeep_any h 0 1 (by intro s hs; simp at hs; rcases hs with rfl | rfl <;> simp <;> omega)
  have e1 : keepS (S3 r) 0 1 = S3 (r + 1) := by unfold keepS; rw [if_pos (s3_live r hr)]; rfl
  rw [e1, staleS_yes (s3_live r hr)] at h1
  exact h1
theorem s3_many {L : Nat → List UInt8} (r : Nat) (hr : 1 < r) (h : Sto w base F P 3 (S3 r) L) (sq tm ss f : Nat) (hp : sq < 65536 ∧ tm < 4294967296 ∧ ss < 4294967296 ∧ f < 65536) :
    Calls Try.prog 21 #[.pointer (some ⟨P, 0, none⟩), .agg #[.int .i64 0, .int .u32 1], .agg #[.int .u16 sq, .int .u32 tm, .int .u32 ss, .int .u16 f]] w fun e w' =>
      e = .returned (.int .i64 11) ∧ Sto w' base F P 3 (S3 r) L ∧ Wen w w' F := by
  have h1 := spatch_any h 0 1 sq tm ss f hp.1 hp.2.1 hp.2.2.1 hp.2.2.2
  have e0 := s3_rf r (by omega)
  have e1 : patchE (S3 r) L 0 1 = 11 := by unfold patchE; rw [e0, if_neg (by omega), if_pos hr]
  have e2 : patchL (S3 r) L 0 1 sq tm ss f = L := by unfold patchL; rw [e0, if_neg (by omega)]
  rw [e1, e2] at h1
  exact h1
theorem s3_one {l : List UInt8} (h : Sto w base F P 3 (S3 1) (upd noL 0 l)) (sq tm ss f : Nat) (hp : sq < 65536 ∧ tm < 4294967296 ∧ ss < 4294967296 ∧ f < 65536) (E : Nat) (hE : (if okD l then 0 else 1) = E) :
    Calls Try.prog 21 #[.pointer (some ⟨P, 0, none⟩), .agg #[.int .i64 0, .int .u32 1], .agg #[.int .u16 sq, .int .u32 tm, .int .u32 ss, .int .u16 f]] w fun e w' =>
      e = .returned (.int .i64 E) ∧ Sto w' base F P 3 (S3 1) (upd (upd noL 0 l) 0 (apP l sq tm ss f)) ∧ Wen w w' F := by
  have h1 := spatch_any h 0 1 sq tm ss f hp.1 hp.2.1 hp.2.2.1 hp.2.2.2
  have e0 := s3_rf 1 (by omega)
  have e1 : patchE (S3 1) (upd noL 0 l) 0 1 = E := by rw [← hE]; unfold patchE; rw [e0]; rfl
  have e2 : patchL (S3 1) (upd noL 0 l) 0 1 sq tm ss f = upd (upd noL 0 l) 0 (apP l sq tm ss f) := by unfold patchL; rw [e0]; rfl
  rw [e1, e2] at h1
  exact h1
theorem s3_bytes {L : Nat → List UInt8} {l : List UInt8} {n : Nat} (r : Nat) (hr : 0 < r) (hL : L 0 = l) (hn : l.length = n) (h : Sto w base F P 3 (S3 r) L) :
    Calls Try.prog 19 #[.pointer (some ⟨P, 0, none⟩), .agg #[.int .i64 0, .int .u32 1]] w fun e w' => ∃ A c', e = .returned (.tuple #[.slice A n c', .int .i64 0]) ∧
      w'.ownsRow w.heap.size 5 1 (.slice A n c') n (bys l) ∧ Below w.heap.size w w' := by
  refine (sbytes_any h 0 1).mono ?_
  rintro e w' ⟨A, m, c', rfl, ho, hb⟩
  have e2 : bytesL (S3 r) L 0 1 = l := by unfold bytesL; rw [if_pos (s3_live r hr)]; exact hL
  rw [e2] at ho
  obtain rfl : m = n := by have := ho.1; rw [bys_length] at this; omega
  rw [staleS_yes (s3_live r hr)]
  exact ⟨A, c', rfl, ho, hb⟩
end
theorem none_below5 {w : World} {A : Option Addr} {n c : Nat} {l : List UInt8} (h : Bts w A n c l) {F : Nat → Prop} {B : Nat} (hF : ∀ k, F k → B ≤ k) (hB : w.heap.size ≤ B) : 0 < n → ∀ b, A.map Addr.block = some b → ¬ F b := fun hn b hb hf => by
  obtain ⟨ad, rfl, hc⟩ := h.rd.at_ (k := 0) (by rw [bys_length, h.len]; exact hn)
  simp at hb
  have h1 := World.block_lt_of_cell? w _ hc
  rw [blk_add] at h1
  have h2 := hF b hf
  omega
theorem pbx_new (w : World) (sq tm ss f : Int) : (w.alloc (.cells #[.int .u16 sq, .int .u32 tm, .int .u32 ss, .int .u16 f] 38)).heap[w.heap.size]? = some (.cells #[.int .u16 sq, .int .u32 tm, .int .u32 ss, .int .u16 f] 38 (0, 0)) := heap_alloc_new w _
set_option maxRecDepth 20000 in
set_option maxHeartbeats 4000000 in
theorem storePatch_walk (A : Option Addr) (n c : Nat) (l : List UInt8) (refs sq tm ss f : Int) (w : World) (hn : l.length = n) (hnc : n ≤ c) (hcm : c ≤ maxLen) (hb0 : n ≤ 140737488351232) (hA : A = none → n = 0 ∧ c = 0) (hr : Rd w A (bys l))
    (hrefs : -9223372036854775808 ≤ refs ∧ refs ≤ 9223372036854775807) (hp : (0 ≤ sq ∧ sq ≤ 65535) ∧ (0 ≤ tm ∧ tm ≤ 4294967295) ∧ (0 ≤ ss ∧ ss ≤ 4294967295) ∧ (0 ≤ f ∧ f ≤ 65535)) :
    Calls Try.prog 4 #[.slice A n c, .int .i64 refs, .agg #[.int .u16 sq, .int .u32 tm, .int .u32 ss, .int .u16 f]] w fun e w' => e = .returned (.bool true) ∧ Below w.heap.size w w' := by
  obtain ⟨sq, rfl⟩ : ∃ m : Nat, sq = (m : Int) := ⟨sq.toNat, by omega⟩
  obtain ⟨tm, rfl⟩ : ∃ m : Nat, tm = (m : Int) := ⟨tm.toNat, by omega⟩
  obtain ⟨ss, rfl⟩ : ∃ m : Nat, ss = (m : Int) := ⟨ss.toNat, by omega⟩
  obtain ⟨f, rfl⟩ : ∃ m : Nat, f = (m : Int) := ⟨f.toNat, by omega⟩
  have HB : Hid (Bts w A n c l) := Lib.hid ⟨hn, hnc, hcm, hr⟩
  have HN := Lib.hid hn
  have HP : Hid (sq < 65536 ∧ tm < 4294967296 ∧ ss < 4294967296 ∧ f < 65536) := Lib.hid (by omega)
  have HAL := Lib.hid (ap_len l HP.out.1 HP.out.2.1 HP.out.2.2.1 HP.out.2.2.2)
  clear hr hn hp
  have hbA := (Below.refl w.heap.size w).alloc (Nat.le_refl _) (.cells #[.int .u16 sq, .int .u32 tm, .int .u32 ss, .int .u16 f] 38)
  by_cases h1 : refs < 1
  · have h1' : decide (refs < 1) = true := by simp; omega
    go_enter Try.func4, Try.ntmps4
    go_wp2_with (go_at_call 15; (with_reducible refine (shown12_any _).mono ?_); rintro e w1 ⟨rfl, hb1⟩)
    go_ret
    exact ⟨rfl, hbA.trans (hb1.mono hbA.size)⟩
  have h1' : decide (refs < 1) = false := by simp; omega
  by_cases h2 : 20 < refs
  · have h2' : decide (20 < refs) = true := by simp; omega
    go_enter Try.func4, Try.ntmps4
    go_wp2_with (go_at_call 15; (with_reducible refine (shown12_any _).mono ?_); rintro e w1 ⟨rfl, hb1⟩)
    go_ret
    exact ⟨rfl, hbA.trans (hb1.mono hbA.size)⟩
  have h2' : decide (20 < refs) = false := by simp; omega
  by_cases hl : n ≤ 512
  · have hgt : decide ((512 : Int) < (n : Int)) = false := by simp; omega
    obtain ⟨r, rfl⟩ : ∃ m : Nat, refs = (m : Int) := ⟨refs.toNat, by omega⟩
    clear hrefs
    have hr1 : 0 < r := by omega
    have hr20 : r ≤ 20 := by omega
    clear h1 h2
    by_cases hgr : 1 < r
    · have hgr' : decide ((1 : Int) < (r : Int)) = true := by simp; omega
      go_enter Try.func4, Try.ntmps4
      go_wp2_with (first
        | (go_at_call 15; (with_reducible refine (shown12_any _).mono ?_); rintro e w1 ⟨rfl, hb1⟩; have hbw := hbA.trans (hb1.mono hbA.size); have hpb := (hb1.block _ (block_lt (pbx_new w sq tm ss f))).trans (pbx_new w sq tm ss f))
        | (go_at_call 16; (with_reducible refine (s3_new _).mono ?_); rintro e w2 ⟨P, rfl, hS2, hb2⟩; have hk2 : OwK w w2 w1.heap.size _ P 3 _ _ [(w.heap.size, (.cells #[.int .u16 sq, .int .u32 tm, .int .u32 ss, .int .u16 f] 38 (0, 0)))] := ⟨hS2, (fun x hx => by obtain rfl := List.mem_singleton.1 hx; exact ⟨(hb2.block _ (block_lt hpb)).trans hpb, fun h => by have := block_lt hpb; have h1 : w1.heap.size ≤ w.heap.size := h.1; omega⟩), hbw.trans (hb2.mono hbw.size), hbw.size⟩)
        | (go_at_call 17; (with_reducible refine (s3_put hk2.st A n c l (by rw [HN.out]; exact hl) (HB.out.below hk2.b) hA (none_below5 HB.out (fun k hk => (hk2.st.lt k hk).1) hbw.size)).mono ?_); rintro e w3 ⟨rfl, ⟨F3, hS3, hG3⟩, hW3⟩; have hk3 := hk2.step hS3 hG3 hW3)
        | (refine wpList_store_blk rfl 28 (.tmp 8) (.tmp 34) rfl w3.heap.size _ #[.int .i64 0, .int .u32 1] _ rfl rfl (hdl_new w3 0 0) rfl (by kernel_rfl) (by simp [Value.oneCell']) ?_; intro w4 hi4 hg4; have hk4 := hk3.add hg4 hi4))
      go_loopw [10] (fun i wr => ∃ k : Nat, i = .int .i64 k ∧ 0 < k ∧ k ≤ r ∧ OwK w wr w1.heap.size F3 P 3 (S3 k) (upd noL 0 l) [(w3.heap.size, (.cells #[.int .i64 0, .int .u32 1] 28 (0, 0))), (w.heap.size, (.cells #[.int .u16 sq, .int .u32 tm, .int .u32 ss, .int .u16 f] 38 (0, 0)))]) (fun i _ => r - (intOf i).toNat)
      case atStart => exact ⟨1, rfl, by omega, by omega, hk4⟩
      case round =>
        obtain ⟨k, rfl, hk0, hkr, hk⟩ := hrel
        clear hk2 hk3 hk4
        obtain ⟨a0, a1⟩ := row2_cells (hk.vars (w3.heap.size, (.cells #[.int .i64 0, .int .u32 1] 28 (0, 0))) (by simp)).1
        by_cases hlt : k < r
        · have hlt' : decide ((k : Int) < (r : Int)) = true := by simp; omega
          go_wp2_with (go_at_call 20; (with_reducible refine (s3_keep k hk0 (by omega) hk.st).mono ?_); rintro e w5 ⟨rfl, hS5, hW5⟩)
          exact ⟨⟨k + 1, rfl, by omega, by omega, hk.same hS5 hW5⟩, by simp [intOf]; omega⟩
        · obtain rfl : k = r := by omega
          have hlt' : decide ((k : Int) < (k : Int)) = false := by simp
          obtain ⟨q0, q1, q2, q3⟩ := row4_cells (hk.vars (w.heap.size, (.cells #[.int .u16 sq, .int .u32 tm, .int .u32 ss, .int .u16 f] 38 (0, 0))) (by simp)).1
          clear hlt
          go_wp2_with (first
            | (go_at_call 21; (with_reducible refine (s3_many k hgr hk.st sq tm ss f HP.out).mono ?_); rintro e w6 ⟨rfl, hS6, hW6⟩; have hk6 := hk.same hS6 hW6; obtain ⟨a0, a1⟩ := row2_cells (hk6.vars (w3.heap.size, (.cells #[.int .i64 0, .int .u32 1] 28 (0, 0))) (by simp)).1)
            | (go_at_call 19; (with_reducible refine (s3_bytes (n := n) (L := (upd noL 0 l)) (l := l) k hk0 (upd_same _ _ _) (by exact HN.out) hk6.st).mono ?_); rintro e w7 ⟨A7, c7, rfl, ho7, hb7⟩; have hk7 := hk6.below hb7; obtain ⟨q0, q1, q2, q3⟩ := row4_cells (hk7.vars (w.heap.size, (.cells #[.int .u16 sq, .int .u32 tm, .int .u32 ss, .int .u16 f] 38 (0, 0))) (by simp)).1)
            | (go_at_call 22; (with_reducible refine (rapply_any A n c l sq tm ss f HP.out.1 HP.out.2.1 HP.out.2.2.1 HP.out.2.2.2 _ (HB.out.below hk7.b) hb0).mono ?_); rintro e w8 ⟨A8, c8, rfl, ho8, hb8⟩; have hk8 := hk7.below hb8; have hcv7 := cv_own (ho7.kept (own_below hb8) (own_none _)); have hcv8 := cv_own ho8; have hcvB := cv_rd (c := c) HN.out (HB.out.below hk8.b).rd))
          go_ret
          exact ⟨by simp, hk8.b⟩
    · obtain rfl : r = 1 := by omega
      clear h1' h2' hgr
      cases hok : okD l
      · have HOK := Lib.hid hok
        have HE : Hid ((if okD l then 0 else 1) = 1) := Lib.hid (by rw [hok]; rfl)
        clear hok
        go_enter Try.func4, Try.ntmps4
        go_wp2_with (first
          | (go_at_call 15; (with_reducible refine (shown12_any _).mono ?_); rintro e w1 ⟨rfl, hb1⟩; have hbw := hbA.trans (hb1.mono hbA.size); have hpb := (hb1.block _ (block_lt (pbx_new w sq tm ss f))).trans (pbx_new w sq tm ss f))
          | (go_at_call 16; (with_reducible refine (s3_new _).mono ?_); rintro e w2 ⟨P, rfl, hS2, hb2⟩; have hk2 : OwK w w2 w1.heap.size _ P 3 _ _ [(w.heap.size, (.cells #[.int .u16 sq, .int .u32 tm, .int .u32 ss, .int .u16 f] 38 (0, 0)))] := ⟨hS2, (fun x hx => by obtain rfl := List.mem_singleton.1 hx; exact ⟨(hb2.block _ (block_lt hpb)).trans hpb, fun h => by have := block_lt hpb; have h1 : w1.heap.size ≤ w.heap.size := h.1; omega⟩), hbw.trans (hb2.mono hbw.size), hbw.size⟩)
          | (go_at_call 17; (with_reducible refine (s3_put hk2.st A n c l (by rw [HN.out]; exact hl) (HB.out.below hk2.b) hA (none_below5 HB.out (fun k hk => (hk2.st.lt k hk).1) hbw.size)).mono ?_); rintro e w3 ⟨rfl, ⟨F3, hS3, hG3⟩, hW3⟩; have hk3 := hk2.step hS3 hG3 hW3)
          | (refine wpList_store_blk rfl 28 (.tmp 8) (.tmp 34) rfl w3.heap.size _ #[.int .i64 0, .int .u32 1] _ rfl rfl (hdl_new w3 0 0) rfl (by kernel_rfl) (by simp [Value.oneCell']) ?_; intro w4 hi4 hg4; have hk4 := hk3.add hg4 hi4))
        go_loopw [10] (fun i wr => ∃ k : Nat, i = .int .i64 k ∧ 0 < k ∧ k ≤ 1 ∧ OwK w wr w1.heap.size F3 P 3 (S3 k) (upd noL 0 l) [(w3.heap.size, (.cells #[.int .i64 0, .int .u32 1] 28 (0, 0))), (w.heap.size, (.cells #[.int .u16 sq, .int .u32 tm, .int .u32 ss, .int .u16 f] 38 (0, 0)))]) (fun i _ => 1 - (intOf i).toNat)
        case atStart => exact ⟨1, rfl, by omega, by omega, hk4⟩
        case round =>
          obtain ⟨k, rfl, hk0, hkr, hk⟩ := hrel
          clear hk2 hk3 hk4
          obtain ⟨a0, a1⟩ := row2_cells (hk.vars (w3.heap.size, (.cells #[.int .i64 0, .int .u32 1] 28 (0, 0))) (by simp)).1
          by_cases hlt : k < 1
          · have hlt' : decide ((k : Int) < (1 : Int)) = true := by simp; omega
            go_wp2_with (go_at_call 20; (with_reducible refine (s3_keep k hk0 (by omega) hk.st).mono ?_); rintro e w5 ⟨rfl, hS5, hW5⟩)
            exact ⟨⟨k + 1, rfl, by omega, by omega, hk.same hS5 hW5⟩, by simp [intOf]; omega⟩
          · obtain rfl : k = 1 := by omega
            obtain ⟨q0, q1, q2, q3⟩ := row4_cells (hk.vars (w.heap.size, (.cells #[.int .u16 sq, .int .u32 tm, .int .u32 ss, .int .u16 f] 38 (0, 0))) (by simp)).1
            clear hlt
            go_wp2_with (first
              | (go_at_call 21; (with_reducible refine (s3_one hk.st sq tm ss f HP.out 1 HE.out).mono ?_); rintro e w6 ⟨rfl, hS6, hW6⟩; have hk6 := hk.same hS6 hW6; obtain ⟨a0, a1⟩ := row2_cells (hk6.vars (w3.heap.size, (.cells #[.int .i64 0, .int .u32 1] 28 (0, 0))) (by simp)).1)
              | (go_at_call 19; (with_reducible refine (s3_bytes (n := n) (L := (upd (upd noL 0 l) 0 (apP l sq tm ss f))) (l := (apP l sq tm ss f)) 1 hk0 (upd_same _ _ _) (by show (apP l sq tm ss f).length = n; rw [HAL.out]; exact HN.out) hk6.st).mono ?_); rintro e w7 ⟨A7, c7, rfl, ho7, hb7⟩; have hk7 := hk6.below hb7; obtain ⟨q0, q1, q2, q3⟩ := row4_cells (hk7.vars (w.heap.size, (.cells #[.int .u16 sq, .int .u32 tm, .int .u32 ss, .int .u16 f] 38 (0, 0))) (by simp)).1)
              | (go_at_call 22; (with_reducible refine (rapply_any A n c l sq tm ss f HP.out.1 HP.out.2.1 HP.out.2.2.1 HP.out.2.2.2 _ (HB.out.below hk7.b) hb0).mono ?_); rintro e w8 ⟨A8, c8, rfl, ho8, hb8⟩; have hk8 := hk7.below hb8; have hcv7 := cv_own (ho7.kept (own_below hb8) (own_none _)); have hcv8 := cv_own ho8; have hcvB := cv_rd (c := c) HN.out (HB.out.below hk8.b).rd; rw [HOK.out]))
            go_ret
            exact ⟨by simp, hk8.b⟩
      · have HOK := Lib.hid hok
        have HE : Hid ((if okD l then 0 else 1) = 0) := Lib.hid (by rw [hok]; rfl)
        clear hok
        go_enter Try.func4, Try.ntmps4
        go_wp2_with (first
          | (go_at_call 15; (with_reducible refine (shown12_any _).mono ?_); rintro e w1 ⟨rfl, hb1⟩; have hbw := hbA.trans (hb1.mono hbA.size); have hpb := (hb1.block _ (block_lt (pbx_new w sq tm ss f))).trans (pbx_new w sq tm ss f))
          | (go_at_call 16; (with_reducible refine (s3_new _).mono ?_); rintro e w2 ⟨P, rfl, hS2, hb2⟩; have hk2 : OwK w w2 w1.heap.size _ P 3 _ _ [(w.heap.size, (.cells #[.int .u16 sq, .int .u32 tm, .int .u32 ss, .int .u16 f] 38 (0, 0)))] := ⟨hS2, (fun x hx => by obtain rfl := List.mem_singleton.1 hx; exact ⟨(hb2.block _ (block_lt hpb)).trans hpb, fun h => by have := block_lt hpb; have h1 : w1.heap.size ≤ w.heap.size := h.1; omega⟩), hbw.trans (hb2.mono hbw.size), hbw.size⟩)
          | (go_at_call 17; (with_reducible refine (s3_put hk2.st A n c l (by rw [HN.out]; exact hl) (HB.out.below hk2.b) hA (none_below5 HB.out (fun k hk => (hk2.st.lt k hk).1) hbw.size)).mono ?_); rintro e w3 ⟨rfl, ⟨F3, hS3, hG3⟩, hW3⟩; have hk3 := hk2.step hS3 hG3 hW3)
          | (refine wpList_store_blk rfl 28 (.tmp 8) (.tmp 34) rfl w3.heap.size _ #[.int .i64 0, .int .u32 1] _ rfl rfl (hdl_new w3 0 0) rfl (by kernel_rfl) (by simp [Value.oneCell']) ?_; intro w4 hi4 hg4; have hk4 := hk3.add hg4 hi4))
        go_loopw [10] (fun i wr => ∃ k : Nat, i = .int .i64 k ∧ 0 < k ∧ k ≤ 1 ∧ OwK w wr w1.heap.size F3 P 3 (S3 k) (upd noL 0 l) [(w3.heap.size, (.cells #[.int .i64 0, .int .u32 1] 28 (0, 0))), (w.heap.size, (.cells #[.int .u16 sq, .int .u32 tm, .int .u32 ss, .int .u16 f] 38 (0, 0)))]) (fun i _ => 1 - (intOf i).toNat)
        case atStart => exact ⟨1, rfl, by omega, by omega, hk4⟩
        case round =>
          obtain ⟨k, rfl, hk0, hkr, hk⟩ := hrel
          clear hk2 hk3 hk4
          obtain ⟨a0, a1⟩ := row2_cells (hk.vars (w3.heap.size, (.cells #[.int .i64 0, .int .u32 1] 28 (0, 0))) (by simp)).1
          by_cases hlt : k < 1
          · have hlt' : decide ((k : Int) < (1 : Int)) = true := by simp; omega
            go_wp2_with (go_at_call 20; (with_reducible refine (s3_keep k hk0 (by omega) hk.st).mono ?_); rintro e w5 ⟨rfl, hS5, hW5⟩)
            exact ⟨⟨k + 1, rfl, by omega, by omega, hk.same hS5 hW5⟩, by simp [intOf]; omega⟩
          · obtain rfl : k = 1 := by omega
            obtain ⟨q0, q1, q2, q3⟩ := row4_cells (hk.vars (w.heap.size, (.cells #[.int .u16 sq, .int .u32 tm, .int .u32 ss, .int .u16 f] 38 (0, 0))) (by simp)).1
            clear hlt
            go_wp2_with (first
              | (go_at_call 21; (with_reducible refine (s3_one hk.st sq tm ss f HP.out 0 HE.out).mono ?_); rintro e w6 ⟨rfl, hS6, hW6⟩; have hk6 := hk.same hS6 hW6; obtain ⟨a0, a1⟩ := row2_cells (hk6.vars (w3.heap.size, (.cells #[.int .i64 0, .int .u32 1] 28 (0, 0))) (by simp)).1)
              | (go_at_call 19; (with_reducible refine (s3_bytes (n := n) (L := (upd (upd noL 0 l) 0 (apP l sq tm ss f))) (l := (apP l sq tm ss f)) 1 hk0 (upd_same _ _ _) (by show (apP l sq tm ss f).length = n; rw [HAL.out]; exact HN.out) hk6.st).mono ?_); rintro e w7 ⟨A7, c7, rfl, ho7, hb7⟩; have hk7 := hk6.below hb7; obtain ⟨q0, q1, q2, q3⟩ := row4_cells (hk7.vars (w.heap.size, (.cells #[.int .u16 sq, .int .u32 tm, .int .u32 ss, .int .u16 f] 38 (0, 0))) (by simp)).1)
              | (go_at_call 22; (with_reducible refine (rapply_any A n c l sq tm ss f HP.out.1 HP.out.2.1 HP.out.2.2.1 HP.out.2.2.2 _ (HB.out.below hk7.b) hb0).mono ?_); rintro e w8 ⟨A8, c8, rfl, ho8, hb8⟩; have hk8 := hk7.below hb8; have hcv7 := cv_own (ho7.kept (own_below hb8) (own_none _)); have hcv8 := cv_own ho8; have hcvB := cv_rd (c := c) HN.out (HB.out.below hk8.b).rd; rw [HOK.out]))
            go_ret
            exact ⟨by simp, hk8.b⟩
  · have hgt : decide ((512 : Int) < (n : Int)) = true := by simp; omega
    go_enter Try.func4, Try.ntmps4
    go_wp2_with (go_at_call 15; (with_reducible refine (shown12_any _).mono ?_); rintro e w1 ⟨rfl, hb1⟩)
    go_ret
    exact ⟨rfl, hbA.trans (hb1.mono hbA.size)⟩
namespace storePatch
open Go.ChangeShapes Go.WideShapes Go.ChangeAt Go.RowKit
open Go.ChangeMaps (open_string shut_string)
set_option linter.unusedVariables false

theorem own : ownKnob Try.prog.godebug = none := by kernel_rfl
theorem laidOut : laidOutB Try.prog = true := by kernel_rfl

set_option maxRecDepth 100000 in
theorem lifted (os : Os) (started : os.Started) (H : Type) (enc : TypeId × Value → H) :
    ReturnsInHanded {} Try.checked os 4 .any (Rows.storePatchSpec.pre6 enc Try.prog Try.f4 Rows.storePatchRow.domain false) (Rows.storePatchSpec.post enc Try.prog Try.f4 false true false false) := by
  refine returnsInHanded_of_change_sized (C := Try.checked) own started (by kernel_rfl) Try.func4
    (ChangeSpec.witness6 (enc := enc) (C := Try.checked) false ⟨#[], #[.slice none 0 0, .int .i64 0, .agg #[.int .u16 0, .int .u32 0, .int .u32 0, .int .u16 0]], []⟩ 8 (by kernel_rfl) (by kernel_rfl) (by kernel_rfl) (by kernel_rfl)) ?_
  intro W base args ds gs before hval0 hW hcnd hsz0 _
  have hsz : (DataW.weightsEach Try.prog (Try.f4.params.toList ++ Rows.storePatchSpec.plain.varTypes Try.prog) (ds ++ gs)).all (· ≤ reachBytes) = true := hsz0
  have hval : ∀ (j : Nat) t v, Try.f4.params[j]? = some t → args[j]? = some v → Value.okWide Try.prog W .any base t v := hval0
  have hW' := hW
  obtain ⟨p, q, hA0, hV, rfl, hfz, hnd⟩ := hW
  have hA : DataW.TrodAll enc Try.prog W 0 (fun _ => true) true Try.f4.params.toList args.toList ds p := hA0
  rw [Try.params4] at hA hval hsz
  obtain ⟨v0, vs0, d0, ds0, p0, q0, hargs, rfl, rfl, h0, r0⟩ := trodAll_cons hA
  obtain ⟨v1, vs1, d1, ds1, p1, q1, rfl, rfl, rfl, h1, r1⟩ := trodAll_cons r0
  obtain ⟨v2, vs2, d2, ds2, p2, q2, rfl, rfl, rfl, h2, r2⟩ := trodAll_cons r1
  obtain ⟨rfl, rfl, rfl⟩ := trodAll_nil r2
  obtain rfl : args = #[v0, v1, v2] := by cases args; simp_all
  obtain ⟨rfl, rfl⟩ := trodVars_none hV
  obtain ⟨a0, len0, cap0, rfl⟩ := okWide_slice Try.underlying22 (hval 0 22 v0 rfl rfl)
  have k0 := h0
  have lt0 : ∀ x ∈ p0, x.block < W.heap.size := by obtain ⟨m, hm⟩ := k0; exact DataW.trod_lt m _ _ _ hm
  obtain ⟨l0, n0, nc0, cm0, nl0, rd0, hl0⟩ : ∃ l : List UInt8, l.length = len0 ∧ len0 ≤ cap0 ∧ cap0 ≤ maxLen ∧ (a0 = none → len0 = 0 ∧ cap0 = 0) ∧ Rd W a0 (bys l) ∧ (len0 = 0 ∨ ∃ es sp, d0 = .slice es sp ∧ es.length = len0) := by
    obtain ⟨fuel, hf⟩ := h0
    exact open_byte_slice Try.underlying22 Try.underlying5 (by kernel_rfl) hf
  have hb0 : len0 * 1 ≤ 140737488351232 := reach_slice hsz (j := 0) rfl rfl Try.underlying22 (by kernel_rfl) hl0
  rw [Nat.mul_one] at hb0
  obtain ⟨x1, rfl, rfl, rfl, w1⟩ := open_int Try.underlying3 (hval 1 3 v1 rfl rfl) h1
  obtain ⟨s2, t2, m2, f2, rfl, rfl, rfl, wS2, wT2, wR2, wF2⟩ := open_patch (hval 2 38 v2 rfl rfl) h2
  clear hA0 hval0 hsz0
  refine (storePatch_walk a0 len0 cap0 l0 x1 s2 t2 m2 f2 W n0 nc0 cm0 hb0 nl0 rd0 (bounds_i64 w1) ⟨bounds_u16 wS2, bounds_u32 wT2, bounds_u32 wR2, bounds_u16 wF2⟩).mono fun e W' ⟨he, bel⟩ => ?_
  subst he
  exact ⟨_, rfl, _, _, _, [], _, [], hW', trodAll_mk1 (shut_bool Try.underlying4 _), (trodAll_cons_mk (Below.trod laidOut (by kernel_rfl) (of_decide_eq_true (by kernel_rfl)) k0 bel lt0) (trodAll_cons_mk (shut_int Try.underlying3 w1) (trodAll_cons_mk (shut_patch wS2 wT2 wR2 wF2) trodAll_mk0))), rfl, bel.frame _, fun h => by cases h⟩

/-- The statement. -/
theorem proved : Rows.StorePatchSaid :=
  OpenClaim.holds_of_wide 4 Try.f4 rfl rfl rfl rfl rfl rfl rfl ⟨rfl, rfl, rfl, rfl, rfl⟩ rfl rfl rfl rfl rfl (by kernel_rfl) Try.func4 (by kernel_rfl)
    (of_decide_eq_true (by kernel_rfl)) (by unfold Func.isWrapper; rw [if_neg (of_decide_eq_false (by kernel_rfl))]; exact ⟨rfl, rfl⟩)
    (fun os started H enc _ => lifted os started H enc)
#print axioms proved
end storePatch
end Go.Proofs.Ytjoncidhgfndiaa
