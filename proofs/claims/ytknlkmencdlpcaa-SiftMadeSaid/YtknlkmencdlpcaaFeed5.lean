/-
What item of package sluicegateref4 reads of a report's bytes.
-/
import Derived.Test.YtknlkmencdlpcaaRef1
import Derived.Test.YtknlkmencdlpcaaRep6
import Derived.Test.YtknlkmencdlpcaaLate
import Derived.Test.YtknlkmencdlpcaaRepN
namespace Go.Proofs.Ytknlkmencdlpcaa
set_option linter.unusedVariables false
set_option linter.unusedSimpArgs false
open Go Go.RowKit

set_option maxHeartbeats 1000000 in
theorem rread_f (X : Option Addr) (n c : Nat) (l : List UInt8) (Z S : Int) (w : World) (h : Bts w X n c l) (h1 : Z ≤ 9223372036854775807) (h2 : S ≤ 9223372036854775807) (x : Nat) (hx : getN l Z S = x) :
    Calls Try.prog 83 #[.slice X n c, .int .i64 Z, .int .i64 S] w fun e w' => e = .returned (.int .u64 x) ∧ w' = w := by
  subst hx
  have HB := Lib.hid h
  clear h
  go_enter Try.func83, Try.ntmps83
  go_wp2_with (go_at_call 126; (with_reducible refine (rget_any X n c l Z S w HB.out.len HB.out.nc HB.out.cm HB.out.rd h1 h2).mono ?_); rintro e w1 ⟨rfl, rfl⟩)
  go_ret
  exact ⟨rfl, rfl⟩
/-- What item keeps between its steps. -/
structure RecS (w0 w : World) (res it : Array Value) (A : Option Addr) (k cA : Nat) (bl : List Blk) : Prop where
  res : w.heap[w0.heap.size]? = some (.cells res 54 (0, 0))
  it : w.heap[w0.heap.size + 1]? = some (.cells it 54 (0, 0))
  own : w.ownsRow w0.heap.size 141 7 (.slice A k cA) k (rowK bl)
  b : Below w0.heap.size w0 w
section
variable {w0 w w' : World} {res it : Array Value} {A : Option Addr} {k cA : Nat} {bl : List Blk}
theorem RecS.below (h : RecS w0 w res it A k cA bl) (hb : Below w.heap.size w w') : RecS w0 w' res it A k cA bl :=
  ⟨blk_below h.res hb, blk_below h.it hb, h.own.kept (own_below hb) (own_none _), h.b.trans (hb.mono h.b.size)⟩
theorem RecS.alloc (h : RecS w0 w res it A k cA bl) (o : Obj) : RecS w0 (w.alloc o) res it A k cA bl := h.below ((Below.refl _ _).alloc (Nat.le_refl _) o)
theorem RecS.drew (h : RecS w0 w res it A k cA bl) : RecS w0 w.drew res it A k cA bl := h.below ((Below.refl _ _).drew)
theorem RecS.item {it' : Array Value} (h : RecS w0 w res it A k cA bl) (hi : w'.heap[w0.heap.size + 1]? = some (.cells it' 54 (0, 0))) (hg : w.grownBy w' (some (w0.heap.size + 1))) : RecS w0 w' res it' A k cA bl :=
  ⟨(hg.block _ (blk_in h.res) (fun e => by injection e with e; omega)).trans h.res, hi, h.own.kept hg (own_off h.own h.it (by decide)), h.b.grown hg h.b.size (fun q hq => by injection hq with hq; omega)⟩
theorem RecS.app {A1 : Option Addr} {c1 : Nat} {b : Blk} (h : RecS w0 w res it A k cA bl) {lit : Obj} (hg : (w.alloc lit).grownBy w' (A.map Addr.block)) (ho : w'.ownsRow w0.heap.size 141 7 (.slice A1 (k + 1) c1) (k + 1) (rowK bl ++ blkV b)) :
    RecS w0 w' res it A1 (k + 1) c1 (bl ++ [b]) := by
  have h' := h.alloc lit
  have hi := own_off h'.own h'.it (by decide)
  have he := own_off h'.own h'.res (by decide)
  rw [ownBlock_slice] at hi he
  refine ⟨(hg.block _ (blk_in h'.res) (fun e => ?_)).trans h'.res, (hg.block _ (blk_in h'.it) (fun e => ?_)).trans h'.it, by rw [rowK_snoc]; exact ho, h'.b.grown hg h'.b.size (fun q hq => own_from h'.own q hq)⟩
  · rcases he with he | he
    · rw [he] at e; cases e
    · exact he e.symm
  · rcases hi with hi | hi
    · rw [hi] at e; cases e
    · exact hi e.symm
end
/-- The report that stands in the bytes behind a head. -/
def bodyI (K m : Nat) (l : List UInt8) : Itm :=
  if K = 200 then ⟨K, getN l 0 4, getN l 4 8, getN l 12 4, getN l 16 4, getN l 20 4, getKs l 24 m, [], 0, []⟩ else ⟨K, getN l 0 4, 0, 0, 0, 0, getKs l 4 m, [], 0, []⟩
set_option maxRecDepth 20000 in
set_option maxHeartbeats 4000000 in
theorem ritem_any (w : World) (K m : Nat) (X : Option Addr) (n c : Nat) (l : List UInt8) (hb : Bts w X n c l) (hK : K = 200 ∨ K = 201) (hm : m ≤ 15) :
    Calls Try.prog 139 #[.int .i64 K, .int .i64 m, .slice X n c] w fun e w' => ∃ A cA, e = .returned (.agg #[.int .i64 (bodyI K m l).k, .int .u32 (bodyI K m l).s, .int .u64 (bodyI K m l).ntp, .int .u32 (bodyI K m l).tm, .int .u32 (bodyI K m l).pk, .int .u32 (bodyI K m l).oc, .slice A m cA, .slice none 0 0, .int .u32 0, .slice none 0 0]) ∧
      w'.ownsRow w.heap.size 141 7 (.slice A m cA) m (rowK (bodyI K m l).bl) ∧ Below w.heap.size w w' := by
  have HB := Lib.hid hb
  clear hb
  obtain ⟨x1, h1⟩ : ∃ x, x = getN l 0 4 := ⟨_, rfl⟩
  obtain ⟨x2, h2⟩ : ∃ x, x = getN l 4 8 := ⟨_, rfl⟩
  obtain ⟨x3, h3⟩ : ∃ x, x = getN l 12 4 := ⟨_, rfl⟩
  obtain ⟨x4, h4⟩ : ∃ x, x = getN l 16 4 := ⟨_, rfl⟩
  obtain ⟨x5, h5⟩ : ∃ x, x = getN l 20 4 := ⟨_, rfl⟩
  have b1 : x1 < 4294967296 := by rw [h1]; exact getN_ltS l 0 4
  have b3 : x3 < 4294967296 := by rw [h3]; exact getN_ltS l 12 4
  have b4 : x4 < 4294967296 := by rw [h4]; exact getN_ltS l 16 4
  have b5 : x5 < 4294967296 := by rw [h5]; exact getN_ltS l 20 4
  have HX := Lib.hid (And.intro h1.symm (And.intro h2.symm (And.intro h3.symm (And.intro h4.symm h5.symm))))
  clear h1 h2 h3 h4 h5
  have hw0 := Below.refl w.heap.size w
  have e203 : ((K : Int) != 203) = true := by rcases hK with rfl | rfl <;> rfl
  have e203' : ((K : Int) == 203) = false := by rcases hK with rfl | rfl <;> rfl
  have e205 : ((K : Int) == 205) = false := by rcases hK with rfl | rfl <;> rfl
  have e206 : ((K : Int) == 206) = false := by rcases hK with rfl | rfl <;> rfl
  cases hK' : ((K : Int) == 200)
  · go_enter Try.func139, Try.ntmps139
    go_wp2_with (first
      | (go_at_call 83; (with_reducible refine (rread_f X n c l 0 4 _ (HB.out.below (((Below.refl _ _).alloc (Nat.le_refl _) _).alloc (by simp) _)) (by omega) (by omega) x1 HX.out.1).mono ?_); rintro e w2 ⟨rfl, rfl⟩))
    have hR0 : RecS w ((w.alloc (.cells #[.int .i64 0, .int .u32 0, .int .u64 0, .int .u32 0, .int .u32 0, .int .u32 0, .slice none 0 0, .slice none 0 0, .int .u32 0, .slice none 0 0] 54)).alloc (.cells #[.int .i64 K, .int .u32 x1, .int .u64 0, .int .u32 0, .int .u32 0, .int .u32 0, .slice none 0 0, .slice none 0 0, .int .u32 0, .slice none 0 0] 54)) #[.int .i64 0, .int .u32 0, .int .u64 0, .int .u32 0, .int .u32 0, .int .u32 0, .slice none 0 0, .slice none 0 0, .int .u32 0, .slice none 0 0] #[.int .i64 K, .int .u32 x1, .int .u64 0, .int .u32 0, .int .u32 0, .int .u32 0, .slice none 0 0, .slice none 0 0, .int .u32 0, .slice none 0 0] none 0 0 [] :=
      ⟨blk_below (blk_alloc w _) ((Below.refl _ _).alloc (Nat.le_refl _) _), (by have := blk_alloc (w.alloc (.cells #[.int .i64 0, .int .u32 0, .int .u64 0, .int .u32 0, .int .u32 0, .int .u32 0, .slice none 0 0, .slice none 0 0, .int .u32 0, .slice none 0 0] 54)) (.cells #[.int .i64 K, .int .u32 x1, .int .u64 0, .int .u32 0, .int .u32 0, .int .u32 0, .slice none 0 0, .slice none 0 0, .int .u32 0, .slice none 0 0] 54); simpa using this), World.ownsRow_nil _ _ _ _, (hw0.alloc (Nat.le_refl _) _).alloc (by simp) _⟩
    generalize (w.alloc (.cells #[.int .i64 0, .int .u32 0, .int .u64 0, .int .u32 0, .int .u32 0, .int .u32 0, .slice none 0 0, .slice none 0 0, .int .u32 0, .slice none 0 0] 54)).alloc (.cells #[.int .i64 K, .int .u32 x1, .int .u64 0, .int .u32 0, .int .u32 0, .int .u32 0, .slice none 0 0, .slice none 0 0, .int .u32 0, .slice none 0 0] 54) = w1 at *
    have HR0 := Lib.hid hR0
    clear hR0
    go_loopw [8, 9] (fun sa ix wr => ∃ (k a : Nat) (A : Option Addr) (cA : Nat), ix = .int .i64 k ∧ sa = .int .i64 a ∧ k ≤ m ∧ a = 4 + 24 * k ∧ Hid (RecS w wr #[.int .i64 0, .int .u32 0, .int .u64 0, .int .u32 0, .int .u32 0, .int .u32 0, .slice none 0 0, .slice none 0 0, .int .u32 0, .slice none 0 0] #[.int .i64 K, .int .u32 x1, .int .u64 0, .int .u32 0, .int .u32 0, .int .u32 0, .slice A k cA, .slice none 0 0, .int .u32 0, .slice none 0 0] A k cA (getKs l 4 k))) (fun _ ix _ => m - (intOf ix).toNat)
    case atStart => exact ⟨0, 4, none, 0, rfl, rfl, Nat.zero_le _, by omega, HR0⟩
    case round =>
      obtain ⟨k, a, A, cA, rfl, rfl, hkm, hak, HRk⟩ := hrel
      have ha400 : a ≤ 500 := by omega
      have HAK := Lib.hid hak
      clear hak
      by_cases hlt : k < m
      · have hbk : getKs l 4 (k + 1) = getKs l 4 k ++ [getK l a] := by rw [getKs_succ, HAK.out]
        have HBK := Lib.hid hbk
        clear hbk
        obtain ⟨b, hb⟩ : ∃ b, b = getK l a := ⟨_, rfl⟩
        have hbo : b.Ok := by rw [hb]; exact getK_ok l a
        have q1 := hbo.s
        have q2 := hbo.lo
        have q3 := hbo.t
        have q4 := hbo.h
        have q5 := hbo.j
        have q6 := hbo.la
        have q7 := hbo.d
        rw [← hb] at HBK
        have v4 : IntKind.i64.wrap ((a : Int) + 4) = ((a + 4 : Nat) : Int) := by rw [IntKind.wrap_i64]; omega
        have v5 : IntKind.i64.wrap ((a : Int) + 5) = ((a + 5 : Nat) : Int) := by rw [IntKind.wrap_i64]; omega
        have v8 : IntKind.i64.wrap ((a : Int) + 8) = ((a + 8 : Nat) : Int) := by rw [IntKind.wrap_i64]; omega
        have v12 : IntKind.i64.wrap ((a : Int) + 12) = ((a + 12 : Nat) : Int) := by rw [IntKind.wrap_i64]; omega
        have v16 : IntKind.i64.wrap ((a : Int) + 16) = ((a + 16 : Nat) : Int) := by rw [IntKind.wrap_i64]; omega
        have v20 : IntKind.i64.wrap ((a : Int) + 20) = ((a + 20 : Nat) : Int) := by rw [IntKind.wrap_i64]; omega
        have HGB : Hid (getN l a 4 = b.s ∧ getN l (IntKind.i64.wrap ((a : Int) + 4)) 1 = b.lo ∧ getN l (IntKind.i64.wrap ((a : Int) + 5)) 3 = b.t ∧ getN l (IntKind.i64.wrap ((a : Int) + 8)) 4 = b.h ∧ getN l (IntKind.i64.wrap ((a : Int) + 12)) 4 = b.j ∧ getN l (IntKind.i64.wrap ((a : Int) + 16)) 4 = b.la ∧ getN l (IntKind.i64.wrap ((a : Int) + 20)) 4 = b.d) := by rw [hb, v4, v5, v8, v12, v16, v20]; exact ⟨rfl, rfl, rfl, rfl, rfl, rfl, rfl⟩
        have HBD : Hid (IntKind.i64.wrap ((a : Int) + 4) ≤ 9223372036854775807 ∧ IntKind.i64.wrap ((a : Int) + 5) ≤ 9223372036854775807 ∧ IntKind.i64.wrap ((a : Int) + 8) ≤ 9223372036854775807 ∧ IntKind.i64.wrap ((a : Int) + 12) ≤ 9223372036854775807 ∧ IntKind.i64.wrap ((a : Int) + 16) ≤ 9223372036854775807 ∧ IntKind.i64.wrap ((a : Int) + 20) ≤ 9223372036854775807) := by
          rw [v4, v5, v8, v12, v16, v20]; show _ ∧ _; omega
        clear v4 v5 v8 v12 v16 v20
        clear hbo hb
        go_wp2_with fail
        refine still_late 37 [0, 1] [37] 1 #[⟨1, .data⟩] (by kernel_rfl) (by kernel_rfl) (by kernel_rfl) (by kernel_rfl) ?_
        have hR := HRk.out.drew
        generalize wr.drew = w2 at *
        obtain ⟨t0, t1, t2, t3, t4, t5, t6, t7, t8, t9⟩ := ten_cells hR.it
        simp only [List.take_succ_cons, List.take_zero, List.drop_succ_cons, List.drop_zero]
        repeat still_step
        still_call (rread_f X n c l _ 4 _ (HB.out.below hR.b) (by omega) (by omega) b.s HGB.out.1)
        repeat still_step
        still_call (rread_f X n c l _ 1 _ (HB.out.below hR.b) HBD.out.1 (by omega) b.lo HGB.out.2.1)
        repeat still_step
        still_call (rread_f X n c l _ 3 _ (HB.out.below hR.b) HBD.out.2.1 (by omega) b.t HGB.out.2.2.1)
        repeat still_step
        still_call (rread_f X n c l _ 4 _ (HB.out.below hR.b) HBD.out.2.2.1 (by omega) b.h HGB.out.2.2.2.1)
        repeat still_step
        still_call (rread_f X n c l _ 4 _ (HB.out.below hR.b) HBD.out.2.2.2.1 (by omega) b.j HGB.out.2.2.2.2.1)
        repeat still_step
        still_call (rread_f X n c l _ 4 _ (HB.out.below hR.b) HBD.out.2.2.2.2.1 (by omega) b.la HGB.out.2.2.2.2.2.1)
        repeat still_step
        still_call (rread_f X n c l _ 4 _ (HB.out.below hR.b) HBD.out.2.2.2.2.2 (by omega) b.d HGB.out.2.2.2.2.2.2)
        repeat still_step
        refine wpStill_nil ?_
        change wpList _ _ _ [_, _, _, _] _ _
        have HR := Lib.hid hR
        clear hR
        go_wp2_with (at_builtin; refine wpList_app slK rfl _ _ rfl w.heap.size A k cA (rowK (getKs l 4 k)) rfl (HR.out.own.alloc _) (some ⟨w2.heap.size, 0, none⟩) 1 1 (blkV b) rfl rfl (lit_blk w2 b) (blkV_one b) (by omega) (HR.out.alloc _).b.size ?_; intro A1 c1 wa ho hg hA; have hRa := HR.out.app hg ho; obtain ⟨⟨z6, e6⟩, hib, hgb⟩ := ten_6 hRa.it (.slice A1 (k + 1) c1); have HRb := Lib.hid (hRa.item hib hgb); clear hRa ho hg hib hgb)
        refine clean_normal ?_
        go_wp2_with fail
        exact ⟨⟨k + 1, a + 24, A1, c1, rfl, rfl, by omega, by rw [HAK.out]; omega, by rw [HBK.out]; exact HRb⟩, by simp [intOf]; omega⟩
      · have hkk : k = m := by omega
        subst hkk
        obtain ⟨t0, t1, t2, t3, t4, t5, t6, t7, t8, t9⟩ := ten_cells HRk.out.it
        go_wp2_with (refine wpList_store_blk rfl 54 (.tmp 6) (.tmp 125) rfl w.heap.size _ #[.int .i64 K, .int .u32 x1, .int .u64 0, .int .u32 0, .int .u32 0, .int .u32 0, .slice A k cA, .slice none 0 0, .int .u32 0, .slice none 0 0] _ rfl rfl HRk.out.res rfl (by kernel_rfl) (by simp [Value.oneCell']) ?_; intro w5 hi5 hg5; have ho5 := HRk.out.own.kept hg5 (own_off HRk.out.own HRk.out.res (by decide)); have hb5 := HRk.out.b.grown hg5 HRk.out.b.size (fun q hq => by injection hq with hq; omega))
        obtain ⟨r0, r1, r2, r3, r4, r5, r6, r7, r8, r9⟩ := ten_cells hi5
        have hgi : bodyI K k l = ⟨K, x1, 0, 0, 0, 0, getKs l 4 k, [], 0, []⟩ := by
          unfold bodyI
          have : ¬ K = 200 := by simp at hK'; omega
          rw [if_neg this, ← HX.out.1]
        exact bodyPost_ret (v := .agg #[.int .i64 K, .int .u32 x1, .int .u64 0, .int .u32 0, .int .u32 0, .int .u32 0, .slice A k cA, .slice none 0 0, .int .u32 0, .slice none 0 0]) (by simp [results, Try.results139, go_sem, r0, r1, r2, r3, r4, r5, r6, r7, r8, r9]) rfl ⟨A, cA, by rw [hgi] <;> rfl, by rw [hgi]; exact ho5, hb5⟩
  · go_enter Try.func139, Try.ntmps139
    go_wp2_with (first
      | (go_at_call 83; (with_reducible refine (rread_f X n c l 0 4 _ (HB.out.below (((Below.refl _ _).alloc (Nat.le_refl _) _).alloc (by simp) _)) (by omega) (by omega) x1 HX.out.1).mono ?_); rintro e w2 ⟨rfl, rfl⟩)
      | (go_at_call 83; (with_reducible refine (rread_f X n c l 4 8 _ (HB.out.below (((Below.refl _ _).alloc (Nat.le_refl _) _).alloc (by simp) _)) (by omega) (by omega) x2 HX.out.2.1).mono ?_); rintro e w2 ⟨rfl, rfl⟩)
      | (go_at_call 83; (with_reducible refine (rread_f X n c l 12 4 _ (HB.out.below (((Below.refl _ _).alloc (Nat.le_refl _) _).alloc (by simp) _)) (by omega) (by omega) x3 HX.out.2.2.1).mono ?_); rintro e w2 ⟨rfl, rfl⟩)
      | (go_at_call 83; (with_reducible refine (rread_f X n c l 16 4 _ (HB.out.below (((Below.refl _ _).alloc (Nat.le_refl _) _).alloc (by simp) _)) (by omega) (by omega) x4 HX.out.2.2.2.1).mono ?_); rintro e w2 ⟨rfl, rfl⟩)
      | (go_at_call 83; (with_reducible refine (rread_f X n c l 20 4 _ (HB.out.below (((Below.refl _ _).alloc (Nat.le_refl _) _).alloc (by simp) _)) (by omega) (by omega) x5 HX.out.2.2.2.2).mono ?_); rintro e w2 ⟨rfl, rfl⟩))
    have hR0 : RecS w ((w.alloc (.cells #[.int .i64 0, .int .u32 0, .int .u64 0, .int .u32 0, .int .u32 0, .int .u32 0, .slice none 0 0, .slice none 0 0, .int .u32 0, .slice none 0 0] 54)).alloc (.cells #[.int .i64 K, .int .u32 x1, .int .u64 x2, .int .u32 x3, .int .u32 x4, .int .u32 x5, .slice none 0 0, .slice none 0 0, .int .u32 0, .slice none 0 0] 54)) #[.int .i64 0, .int .u32 0, .int .u64 0, .int .u32 0, .int .u32 0, .int .u32 0, .slice none 0 0, .slice none 0 0, .int .u32 0, .slice none 0 0] #[.int .i64 K, .int .u32 x1, .int .u64 x2, .int .u32 x3, .int .u32 x4, .int .u32 x5, .slice none 0 0, .slice none 0 0, .int .u32 0, .slice none 0 0] none 0 0 [] :=
      ⟨blk_below (blk_alloc w _) ((Below.refl _ _).alloc (Nat.le_refl _) _), (by have := blk_alloc (w.alloc (.cells #[.int .i64 0, .int .u32 0, .int .u64 0, .int .u32 0, .int .u32 0, .int .u32 0, .slice none 0 0, .slice none 0 0, .int .u32 0, .slice none 0 0] 54)) (.cells #[.int .i64 K, .int .u32 x1, .int .u64 x2, .int .u32 x3, .int .u32 x4, .int .u32 x5, .slice none 0 0, .slice none 0 0, .int .u32 0, .slice none 0 0] 54); simpa using this), World.ownsRow_nil _ _ _ _, (hw0.alloc (Nat.le_refl _) _).alloc (by simp) _⟩
    generalize (w.alloc (.cells #[.int .i64 0, .int .u32 0, .int .u64 0, .int .u32 0, .int .u32 0, .int .u32 0, .slice none 0 0, .slice none 0 0, .int .u32 0, .slice none 0 0] 54)).alloc (.cells #[.int .i64 K, .int .u32 x1, .int .u64 x2, .int .u32 x3, .int .u32 x4, .int .u32 x5, .slice none 0 0, .slice none 0 0, .int .u32 0, .slice none 0 0] 54) = w1 at *
    have HR0 := Lib.hid hR0
    clear hR0
    go_loopw [8, 9] (fun sa ix wr => ∃ (k a : Nat) (A : Option Addr) (cA : Nat), ix = .int .i64 k ∧ sa = .int .i64 a ∧ k ≤ m ∧ a = 24 + 24 * k ∧ Hid (RecS w wr #[.int .i64 0, .int .u32 0, .int .u64 0, .int .u32 0, .int .u32 0, .int .u32 0, .slice none 0 0, .slice none 0 0, .int .u32 0, .slice none 0 0] #[.int .i64 K, .int .u32 x1, .int .u64 x2, .int .u32 x3, .int .u32 x4, .int .u32 x5, .slice A k cA, .slice none 0 0, .int .u32 0, .slice none 0 0] A k cA (getKs l 24 k))) (fun _ ix _ => m - (intOf ix).toNat)
    case atStart => exact ⟨0, 24, none, 0, rfl, rfl, Nat.zero_le _, by omega, HR0⟩
    case round =>
      obtain ⟨k, a, A, cA, rfl, rfl, hkm, hak, HRk⟩ := hrel
      have ha400 : a ≤ 500 := by omega
      have HAK := Lib.hid hak
      clear hak
      by_cases hlt : k < m
      · have hbk : getKs l 24 (k + 1) = getKs l 24 k ++ [getK l a] := by rw [getKs_succ, HAK.out]
        have HBK := Lib.hid hbk
        clear hbk
        obtain ⟨b, hb⟩ : ∃ b, b = getK l a := ⟨_, rfl⟩
        have hbo : b.Ok := by rw [hb]; exact getK_ok l a
        have q1 := hbo.s
        have q2 := hbo.lo
        have q3 := hbo.t
        have q4 := hbo.h
        have q5 := hbo.j
        have q6 := hbo.la
        have q7 := hbo.d
        rw [← hb] at HBK
        have v4 : IntKind.i64.wrap ((a : Int) + 4) = ((a + 4 : Nat) : Int) := by rw [IntKind.wrap_i64]; omega
        have v5 : IntKind.i64.wrap ((a : Int) + 5) = ((a + 5 : Nat) : Int) := by rw [IntKind.wrap_i64]; omega
        have v8 : IntKind.i64.wrap ((a : Int) + 8) = ((a + 8 : Nat) : Int) := by rw [IntKind.wrap_i64]; omega
        have v12 : IntKind.i64.wrap ((a : Int) + 12) = ((a + 12 : Nat) : Int) := by rw [IntKind.wrap_i64]; omega
        have v16 : IntKind.i64.wrap ((a : Int) + 16) = ((a + 16 : Nat) : Int) := by rw [IntKind.wrap_i64]; omega
        have v20 : IntKind.i64.wrap ((a : Int) + 20) = ((a + 20 : Nat) : Int) := by rw [IntKind.wrap_i64]; omega
        have HGB : Hid (getN l a 4 = b.s ∧ getN l (IntKind.i64.wrap ((a : Int) + 4)) 1 = b.lo ∧ getN l (IntKind.i64.wrap ((a : Int) + 5)) 3 = b.t ∧ getN l (IntKind.i64.wrap ((a : Int) + 8)) 4 = b.h ∧ getN l (IntKind.i64.wrap ((a : Int) + 12)) 4 = b.j ∧ getN l (IntKind.i64.wrap ((a : Int) + 16)) 4 = b.la ∧ getN l (IntKind.i64.wrap ((a : Int) + 20)) 4 = b.d) := by rw [hb, v4, v5, v8, v12, v16, v20]; exact ⟨rfl, rfl, rfl, rfl, rfl, rfl, rfl⟩
        have HBD : Hid (IntKind.i64.wrap ((a : Int) + 4) ≤ 9223372036854775807 ∧ IntKind.i64.wrap ((a : Int) + 5) ≤ 9223372036854775807 ∧ IntKind.i64.wrap ((a : Int) + 8) ≤ 9223372036854775807 ∧ IntKind.i64.wrap ((a : Int) + 12) ≤ 9223372036854775807 ∧ IntKind.i64.wrap ((a : Int) + 16) ≤ 9223372036854775807 ∧ IntKind.i64.wrap ((a : Int) + 20) ≤ 9223372036854775807) := by
          rw [v4, v5, v8, v12, v16, v20]; show _ ∧ _; omega
        clear v4 v5 v8 v12 v16 v20
        clear hbo hb
        go_wp2_with fail
        refine still_late 37 [0, 1] [37] 1 #[⟨1, .data⟩] (by kernel_rfl) (by kernel_rfl) (by kernel_rfl) (by kernel_rfl) ?_
        have hR := HRk.out.drew
        generalize wr.drew = w2 at *
        obtain ⟨t0, t1, t2, t3, t4, t5, t6, t7, t8, t9⟩ := ten_cells hR.it
        simp only [List.take_succ_cons, List.take_zero, List.drop_succ_cons, List.drop_zero]
        repeat still_step
        still_call (rread_f X n c l _ 4 _ (HB.out.below hR.b) (by omega) (by omega) b.s HGB.out.1)
        repeat still_step
        still_call (rread_f X n c l _ 1 _ (HB.out.below hR.b) HBD.out.1 (by omega) b.lo HGB.out.2.1)
        repeat still_step
        still_call (rread_f X n c l _ 3 _ (HB.out.below hR.b) HBD.out.2.1 (by omega) b.t HGB.out.2.2.1)
        repeat still_step
        still_call (rread_f X n c l _ 4 _ (HB.out.below hR.b) HBD.out.2.2.1 (by omega) b.h HGB.out.2.2.2.1)
        repeat still_step
        still_call (rread_f X n c l _ 4 _ (HB.out.below hR.b) HBD.out.2.2.2.1 (by omega) b.j HGB.out.2.2.2.2.1)
        repeat still_step
        still_call (rread_f X n c l _ 4 _ (HB.out.below hR.b) HBD.out.2.2.2.2.1 (by omega) b.la HGB.out.2.2.2.2.2.1)
        repeat still_step
        still_call (rread_f X n c l _ 4 _ (HB.out.below hR.b) HBD.out.2.2.2.2.2 (by omega) b.d HGB.out.2.2.2.2.2.2)
        repeat still_step
        refine wpStill_nil ?_
        change wpList _ _ _ [_, _, _, _] _ _
        have HR := Lib.hid hR
        clear hR
        go_wp2_with (at_builtin; refine wpList_app slK rfl _ _ rfl w.heap.size A k cA (rowK (getKs l 24 k)) rfl (HR.out.own.alloc _) (some ⟨w2.heap.size, 0, none⟩) 1 1 (blkV b) rfl rfl (lit_blk w2 b) (blkV_one b) (by omega) (HR.out.alloc _).b.size ?_; intro A1 c1 wa ho hg hA; have hRa := HR.out.app hg ho; obtain ⟨⟨z6, e6⟩, hib, hgb⟩ := ten_6 hRa.it (.slice A1 (k + 1) c1); have HRb := Lib.hid (hRa.item hib hgb); clear hRa ho hg hib hgb)
        refine clean_normal ?_
        go_wp2_with fail
        exact ⟨⟨k + 1, a + 24, A1, c1, rfl, rfl, by omega, by rw [HAK.out]; omega, by rw [HBK.out]; exact HRb⟩, by simp [intOf]; omega⟩
      · have hkk : k = m := by omega
        subst hkk
        obtain ⟨t0, t1, t2, t3, t4, t5, t6, t7, t8, t9⟩ := ten_cells HRk.out.it
        go_wp2_with (refine wpList_store_blk rfl 54 (.tmp 6) (.tmp 125) rfl w.heap.size _ #[.int .i64 K, .int .u32 x1, .int .u64 x2, .int .u32 x3, .int .u32 x4, .int .u32 x5, .slice A k cA, .slice none 0 0, .int .u32 0, .slice none 0 0] _ rfl rfl HRk.out.res rfl (by kernel_rfl) (by simp [Value.oneCell']) ?_; intro w5 hi5 hg5; have ho5 := HRk.out.own.kept hg5 (own_off HRk.out.own HRk.out.res (by decide)); have hb5 := HRk.out.b.grown hg5 HRk.out.b.size (fun q hq => by injection hq with hq; omega))
        obtain ⟨r0, r1, r2, r3, r4, r5, r6, r7, r8, r9⟩ := ten_cells hi5
        have hgi : bodyI K k l = ⟨K, x1, x2, x3, x4, x5, getKs l 24 k, [], 0, []⟩ := by
          unfold bodyI
          have : K = 200 := by simp at hK'; omega
          rw [if_pos this, ← HX.out.1, ← HX.out.2.1, ← HX.out.2.2.1, ← HX.out.2.2.2.1, ← HX.out.2.2.2.2]
        exact bodyPost_ret (v := .agg #[.int .i64 K, .int .u32 x1, .int .u64 x2, .int .u32 x3, .int .u32 x4, .int .u32 x5, .slice A k cA, .slice none 0 0, .int .u32 0, .slice none 0 0]) (by simp [results, Try.results139, go_sem, r0, r1, r2, r3, r4, r5, r6, r7, r8, r9]) rfl ⟨A, cA, by rw [hgi] <;> rfl, by rw [hgi]; exact ho5, hb5⟩
end Go.Proofs.Ytknlkmencdlpcaa
