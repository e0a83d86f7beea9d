/-
shown of law 30: the example of the law.
-/
import Derived.Test.YtaghecgjmkhpcaaGreatDoorTxG
namespace Go.Proofs.YtaghecgjmkhpcaaGreatDoor
set_option linter.unusedVariables false
set_option linter.unusedSimpArgs false
open Go Go.RowKit

def shS : List UInt8 := [106, 111, 105, 110, 32, 49, 32, 97, 110, 110, 10, 112, 117, 98, 108, 105, 115, 104, 32, 49, 32, 51, 32, 48, 48, 48, 48, 48, 48, 48, 97, 32, 56, 48, 48, 48, 48, 48, 48, 48, 10, 105, 110, 32, 49, 32, 56, 48, 48, 102, 10, 115, 119, 105, 116, 99, 104, 32, 50, 32, 51, 32, 49, 10]
def shT : List UInt8 := [108, 101, 97, 118, 101, 32, 49, 10, 108, 101, 97, 118, 101, 32, 48, 49, 10]
def shO : List Opx := [⟨2, 1, 0, 0, [97, 110, 110], [], []⟩, ⟨4, 1, 3, 0, [], [10, 2147483648], []⟩, ⟨1, 1, 0, 0, [], [], [128, 15]⟩, ⟨12, 2, 3, 1, [], [], []⟩]
theorem sh_print : printL shO = shS := by decide +kernel
theorem sh_may : ∀ q ∈ shO, mayO q = true ∧ ssOk q := by
  have h1 : shO.all mayO = true := by decide +kernel
  have h2 : shO.all (fun q => q.ss.all fun x => decide (x < 4294967296)) = true := by decide +kernel
  intro q hq
  refine ⟨List.all_eq_true.1 h1 q hq, fun x hx => ?_⟩
  have := List.all_eq_true.1 (List.all_eq_true.1 h2 q hq) x hx
  simpa using this
theorem sh_text : textL shS = (shO, 0, 0) := by
  rw [← sh_print]
  exact text_turn (by decide) sh_may (by rw [sh_print]; decide)
theorem sh_bad : (textL shT).2 = ((2 : Int), (1 : Int)) := by decide +kernel
theorem row_nilT (w : World) (size bytes : Nat) : Row w none 0 0 size bytes [] := ⟨by simp, Nat.le_refl _, Nat.zero_le _, fun _ => ⟨rfl, rfl⟩, Rd.nil _ _⟩
theorem parse_o (s : List UInt8) (w : World) (hl : s.length ≤ 4611686018427387904) (hT : LaidT w) (O : List Opx) (N E : Int) (h : textL s = (O, N, E)) : Calls Tryz.prog 10 #[.string ⟨s.toArray⟩] w fun e w' =>
    ∃ (A : Option Addr) (n c : Nat) (xs : List Sp), e = .returned (.tuple #[.slice A n c, .int .i64 N, .int .i64 E]) ∧ OpsO w' w.heap.size A n c xs ∧ opl xs = O ∧ Below w.heap.size w w' := by
  refine (parse_any s w hl hT).mono ?_
  rintro e w' ⟨A, n, c, xs, rfl, h1, h2, h3⟩
  rw [h] at h2 ⊢
  exact ⟨A, n, c, xs, rfl, h1, h2, h3⟩
/-- The example's operations in memory. -/
def shX (g : Nat) : List Sp := [⟨⟨2, 1, 0, 0, [97, 110, 110], [], []⟩, none, 0, 0, none, 0, 0⟩, ⟨⟨4, 1, 3, 0, [], [10, 2147483648], []⟩, some ⟨g, 0, none⟩, 2, 2, none, 0, 0⟩, ⟨⟨1, 1, 0, 0, [], [], [128, 15]⟩, none, 0, 0, some ⟨g + 1, 0, none⟩, 2, 2⟩, ⟨⟨12, 2, 3, 1, [], [], []⟩, none, 0, 0, none, 0, 0⟩]
abbrev shA (g : Nat) : Array Value := #[.int .i64 2, .int .i64 1, .int .i64 0, .int .i64 0, .string ⟨#[97, 110, 110]⟩, .slice none 0 0, .slice none 0 0, .int .i64 4, .int .i64 1, .int .i64 3, .int .i64 0, .string ⟨#[]⟩, .slice (some ⟨g, 0, none⟩) 2 2, .slice none 0 0,
  .int .i64 1, .int .i64 1, .int .i64 0, .int .i64 0, .string ⟨#[]⟩, .slice none 0 0, .slice (some ⟨g + 1, 0, none⟩) 2 2, .int .i64 12, .int .i64 2, .int .i64 3, .int .i64 1, .string ⟨#[]⟩, .slice none 0 0, .slice none 0 0]
theorem sh_ops (w : World) : Ops (((w.alloc (.cells #[.int .u32 10, .int .u32 2147483648] 36)).alloc (.cells #[.int .u8 128, .int .u8 15] 5)).alloc (.cells (shA w.heap.size) 27)) (some ⟨w.heap.size + 1 + 1, 0, none⟩) 4 4 (shX w.heap.size) := by
  have r1 := World.ownsRow_lit (base := 0) (e := 36) (size := 1) w #[.int .u32 10, .int .u32 2147483648] 2 (Nat.zero_le _) (by unfold maxLen; omega) rfl
  have r2 := World.ownsRow_lit (base := 0) (e := 5) (size := 1) (w.alloc (.cells #[.int .u32 10, .int .u32 2147483648] 36)) #[.int .u8 128, .int .u8 15] 2 (Nat.zero_le _) (by unfold maxLen; omega) rfl
  have r3 := World.ownsRow_lit (base := 0) (e := 27) (size := 7) ((w.alloc (.cells #[.int .u32 10, .int .u32 2147483648] 36)).alloc (.cells #[.int .u8 128, .int .u8 15] 5)) (shA w.heap.size) 4 (Nat.zero_le _) (by unfold maxLen; omega) rfl
  rw [show (w.alloc (.cells #[.int .u32 10, .int .u32 2147483648] 36)).heap.size = w.heap.size + 1 by simp] at r2
  rw [show ((w.alloc (.cells #[.int .u32 10, .int .u32 2147483648] 36)).alloc (.cells #[.int .u8 128, .int .u8 15] 5)).heap.size = w.heap.size + 1 + 1 by simp] at r3
  refine ⟨rfl, Nat.le_refl _, by unfold maxLen; omega, (own_rowT 1 r3).rd, fun x hx => ?_⟩
  simp only [shX, List.mem_cons, List.not_mem_nil, or_false] at hx
  rcases hx with rfl | rfl | rfl | rfl
  · exact ⟨row_nilT _ _ _, row_nilT _ _ _, (sh_may _ (by simp [shO])).2, by simp⟩
  · exact ⟨own_rowT 4 ((r1.alloc _).alloc _), row_nilT _ _ _, (sh_may _ (by simp [shO])).2, by simp⟩
  · exact ⟨row_nilT _ _ _, own_rowT 1 (r2.alloc _), (sh_may _ (by simp [shO])).2, by simp⟩
  · exact ⟨row_nilT _ _ _, row_nilT _ _ _, (sh_may _ (by simp [shO])).2, by simp⟩
set_option maxRecDepth 20000 in
set_option maxHeartbeats 2000000 in
theorem shown_any (w : World) (hT : LaidT w) : Calls Tryz.prog 5 #[] w fun e w' => e = .returned (.bool true) ∧ Below w.heap.size w w' := by
  have HT := Lib.hid hT
  have hops := sh_ops w
  have hb0 : Below w.heap.size w (((w.alloc (.cells #[.int .u32 10, .int .u32 2147483648] 36)).alloc (.cells #[.int .u8 128, .int .u8 15] 5)).alloc (.cells (shA w.heap.size) 27)) := (((Below.refl _ w).alloc (Nat.le_refl _) _).alloc (by simp) _).alloc (by simp; omega) _
  have CP : ∀ wz, LaidT wz → Calls Tryz.prog 10 #[.string ⟨#[106, 111, 105, 110, 32, 49, 32, 97, 110, 110, 10, 112, 117, 98, 108, 105, 115, 104, 32, 49, 32, 51, 32, 48, 48, 48, 48, 48, 48, 48, 97, 32, 56, 48, 48, 48, 48, 48, 48, 48, 10, 105, 110, 32, 49, 32, 56, 48, 48, 102, 10, 115, 119, 105, 116, 99, 104, 32, 50, 32, 51, 32, 49, 10]⟩] wz fun e w' => ∃ (A : Option Addr) (n c : Nat) (xs : List Sp), e = .returned (.tuple #[.slice A n c, .int .i64 0, .int .i64 0]) ∧ OpsO w' wz.heap.size A n c xs ∧ opl xs = shO ∧ Below wz.heap.size wz w' :=
    fun wz hz => parse_o shS wz (by decide) hz shO 0 0 sh_text
  have CQ : ∀ wz, LaidT wz → Calls Tryz.prog 10 #[.string ⟨#[108, 101, 97, 118, 101, 32, 49, 10, 108, 101, 97, 118, 101, 32, 48, 49, 10]⟩] wz fun e w' => ∃ (A : Option Addr) (n c : Nat) (xs : List Sp), e = .returned (.tuple #[.slice A n c, .int .i64 2, .int .i64 1]) ∧ OpsO w' wz.heap.size A n c xs ∧ opl xs = (textL shT).1 ∧ Below wz.heap.size wz w' :=
    fun wz hz => parse_o shT wz (by decide) hz _ 2 1 (by rw [← sh_bad])
  have CR : ∀ wz, Ops wz (some ⟨w.heap.size + 1 + 1, 0, none⟩) 4 4 (shX w.heap.size) → LaidT wz → Calls Tryz.prog 8 #[.slice (some ⟨w.heap.size + 1 + 1, 0, none⟩) 4 4] wz fun e w' => e = .returned (.string ⟨#[106, 111, 105, 110, 32, 49, 32, 97, 110, 110, 10, 112, 117, 98, 108, 105, 115, 104, 32, 49, 32, 51, 32, 48, 48, 48, 48, 48, 48, 48, 97, 32, 56, 48, 48, 48, 48, 48, 48, 48, 10, 105, 110, 32, 49, 32, 56, 48, 48, 102, 10, 115, 119, 105, 116, 99, 104, 32, 50, 32, 51, 32, 49, 10]⟩) ∧ Below wz.heap.size wz w' := fun wz h1 h2 => by
    have := print_any _ _ _ _ wz h1 h2
    have e : opl (shX w.heap.size) = shO := rfl
    rw [e, sh_print] at this
    exact this
  have CM : ∀ wz, Calls Tryz.prog 6 #[.agg #[.int .i64 0, .int .i64 0, .int .i64 0, .int .i64 0, .string ⟨#[]⟩, .slice none 0 0, .slice none 0 0]] wz fun e w' => e = .returned (.bool false) ∧ Below wz.heap.size wz w' := fun wz => may_o zS wz (spz_own wz 0).r
  have HCP := Lib.hid CP
  have HCQ := Lib.hid CQ
  have HCR := Lib.hid CR
  have HCM := Lib.hid CM
  have HOPS := Lib.hid hops
  clear hT CP CQ CR CM hops
  go_enter Tryz.func5, Tryz.ntmps5
  go_upto_region 3 with fail
  generalize ((w.alloc _).alloc _).alloc _ = w1 at *
  go_upto_region 5 with (first
    | (go_at_call 10; (with_reducible refine (HCP.out _ (HT.out.below hb0)).mono ?_); rintro e w2 ⟨A, n, c, xs, rfl, h2, h3, hb2⟩; have H2 := Lib.hid h2; have H3 := Lib.hid h3; have hB2 := below_nextT hb0 hb2; clear h2 h3)
    | (go_at_call 10; (with_reducible refine (HCQ.out _ (HT.out.below hB2)).mono ?_); rintro e w3 ⟨A3, n3, c3, xs3, rfl, h2, h3, hb3⟩; have hB3 := below_nextT hB2 hb3; clear h2 h3))
  have hn4 : n = 4 := by
    have := H2.out.len
    have h5 := congrArg List.length H3.out
    rw [opl_length] at h5
    have : shO.length = 4 := rfl
    omega
  subst hn4
  obtain ⟨y0, y1, y2, y3, rfl⟩ : ∃ y0 y1 y2 y3, xs = [y0, y1, y2, y3] := by
    have := H2.out.len
    match xs, this with
    | [a, b, c, d], _ => exact ⟨a, b, c, d, rfl⟩
  have hy1 : y1.o.ss = [10, 2147483648] := by
    have := congrArg (fun l => (l[1]?).map Opx.ss) H3.out
    simpa [opl, shO] using this
  have r1 := (H2.out.rows y1 (by simp)).r.ra
  rw [hy1] at r1
  obtain ⟨ad, rfl, c0, c1, c2, c3, c4, c5, c6⟩ := rd_sp H2.out.ops.rd (k := 1) (by simp)
  have hyn : y1.an = 2 := by have := row_len4 r1; simpa using this.symm
  obtain ⟨ad2, hA2, d1⟩ := rd_u32T r1.rd (k := 1) (by simp)
  have k5 : w3.cell? ⟨(ad.add 7).block, (ad.add 7).off + 5, none⟩ = some (.slice (some ad2) 2 y1.ac) := by
    have := below_cell hb3 c5
    rw [show [y0, y1, y2, y3][1] = y1 from rfl, hyn, hA2] at this
    exact this
  have k6 : w3.cell? (ad2.add 1) = some (.int .u32 2147483648) := below_cell hb3 d1
  have e7 : ad.add 7 = ⟨ad.block, ad.off + 7, none⟩ := by simp [Addr.add]
  have e8 : ad2.add 1 = ⟨ad2.block, ad2.off + 1, none⟩ := by simp [Addr.add]
  rw [e7] at k5
  rw [e8] at k6
  have m2 : 2 ≤ y1.ac := by have := r1.nc; omega
  have m4 : 4 ≤ c := (own_cap H2.out.own).1
  have hO3 := Lib.hid ((HOPS.out.below hb2).below hb3)
  have hT3 := Lib.hid (HT.out.below hB3)
  clear c0 c1 c2 c3 c4 c5 c6 d1 r1 hyn hA2 hy1 e7 e8
  go_wp2_with (first
    | (go_at_call 8; (with_reducible refine (HCR.out _ hO3.out hT3.out).mono ?_); rintro e w4 ⟨rfl, hb4⟩; have q5 := below_cell hb4 k5; have q6 := below_cell hb4 k6; have hB4 := below_nextT hB3 hb4)
    | (go_at_call 6; (with_reducible refine (HCM.out _).mono ?_); rintro e w5 ⟨rfl, hb5⟩))
  go_ret
  exact ⟨rfl, below_nextT hB4 hb5⟩
end Go.Proofs.YtaghecgjmkhpcaaGreatDoor
