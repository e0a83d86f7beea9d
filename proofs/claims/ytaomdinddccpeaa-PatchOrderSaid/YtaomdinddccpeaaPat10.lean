/-
The sample of law 6, and its shown.
-/
import Derived.Test.YtaomdinddccpeaaPat9
import Derived.Test.YtaomdinddccpeaaPkt
namespace Go.Proofs.Ytaomdinddccpeaa
set_option linter.unusedVariables false
set_option linter.unusedSimpArgs false
open Go Go.RowKit

def smpL : List UInt8 := [128, 96, 0, 1, 0, 0, 0, 2, 0, 0, 0, 3, 65, 90, 0, 4, 9]
def smqL : List UInt8 := [128, 96, 0, 5, 0, 0, 0, 6, 0, 0, 0, 7, 64, 90, 0, 8, 9]
def smpP : Pkt := ⟨false, 96, 1, 2, 3, [], false, 0, [], [65, 90, 0, 4, 9], 0⟩
theorem dput_c (w : World) : Calls Try.prog 60 #[.agg #[.int .i64 1, .bool false, .bool true, .int .u16 4]] w fun e w' => ∃ A c', e = .returned (.slice A 4 c') ∧
      w'.ownsRow w.heap.size 5 1 (.slice A 4 c') 4 (bys [65, 90, 0, 4]) ∧ Below w.heap.size w w' := by
  have e : descL 1 false true 4 = [65, 90, 0, 4] := by decide
  rw [← e]
  exact dput_yes 1 false true 4 w (by omega) (by omega)
theorem smp_ok : smpP.Ok := by
  constructor <;> first | decide | (intro x hx; cases hx)
theorem pput_c (L : Option Addr) (ln lc : Nat) (w : World) (h : w.ownsRow 0 5 1 (.slice L ln lc) ln (bys [65, 90, 0, 4, 9])) :
    Calls Try.prog 59 #[.agg #[.bool false, .int .i64 96, .int .u16 1, .int .u32 2, .int .u32 3, .slice none 0 0, .bool false, .int .u16 0, .slice none 0 0, .slice L ln lc, .int .i64 0]] w fun e w' =>
      ∃ B c', e = .returned (.tuple #[.slice B 17 c', .int .i64 0]) ∧ w'.ownsRow w.heap.size 5 1 (.slice B 17 c') 17 (bys smpL) ∧ Below w.heap.size w w' := by
  have hl : ln = 5 := by have := h.1; simp [bys] at this; omega
  exact pput_row smpP smp_ok 0 (by decide) smpL (by decide) 17 rfl none 0 0 none 0 0 L ln lc w ⟨rowB_nil _ _ _, rowB_nil _ _ _, own_row8 h⟩ (by omega) (by omega)
set_option maxHeartbeats 1000000 in
theorem sample6_any (w : World) : Calls Try.prog 39 #[] w fun e w' => ∃ B c', e = .returned (.slice B 17 c') ∧ w'.ownsRow w.heap.size 5 1 (.slice B 17 c') 17 (bys smpL) ∧ Below w.heap.size w w' := by
  go_enter Try.func39, Try.ntmps39
  go_wp2_with (first
    | (go_at_call 60; ((with_reducible refine (dput_c _).mono ?_); rintro e w1 ⟨A, c, rfl, ho1, hb1⟩))
    | (at_builtin; (refine wpList_app slU8 rfl _ _ rfl w.heap.size A 4 c (bys [65, 90, 0, 4]) rfl (ho1.alloc _) (some ⟨w1.heap.size, 0, none⟩) 1 1 (bys [9]) rfl rfl (Rd.own (World.ownsRow_lit (base := 0) (e := 5) (size := 1) w1 #[.int .u8 9] 1 (Nat.zero_le _) (by unfold maxLen; omega) rfl)) (bys_one _) (by omega) (by have := hb1.size; simp; omega) ?_; intro A2 c2 w2 ho2 hg2 hA2; rw [bys_append] at ho2; have hb2 := (hb1.alloc hb1.size _).grown hg2 (hb1.alloc hb1.size _).size (own_from ho1)))
    | (go_at_call 59; ((with_reducible refine (pput_c A2 5 c2 _ (own_mono ho2 (Nat.zero_le _))).mono ?_); rintro e w3 ⟨B, c3, rfl, ho3, hb3⟩)))
  go_ret
  exact ⟨B, c3, rfl, own_mono ho3 hb2.size, hb2.trans (hb3.mono hb2.size)⟩
theorem ap_smp : okD smpL = true ∧ apP smpL 5 6 7 8 = smqL ∧ okD smqL = true ∧ oS smqL = 5 ∧ oT smqL = 6 ∧ oR smqL = 7 ∧ oF smqL = 8 ∧ lookE (smqL.take 3) ≠ 0 := by decide +kernel
theorem apply_c (base : Nat) (A : Option Addr) (c : Nat) (w : World) (ho : w.ownsRow base 5 1 (.slice A 17 c) 17 (bys smpL)) :
    Calls Try.prog 16 #[.slice A 17 c, .agg #[.int .u16 5, .int .u32 6, .int .u32 7, .int .u16 8]] w fun e w' => e = .returned (.bool true) ∧
      w'.ownsRow base 5 1 (.slice A 17 c) 17 (bys smqL) ∧ w.grownBy w' (A.map Addr.block) := by
  have := apply_any base A 17 c smpL 5 6 7 8 (by omega) (by omega) (by omega) (by omega) w ho
  rw [ap_smp.1, ap_smp.2.1] at this
  exact this
theorem of_c (A : Option Addr) (n c : Nat) (w : World) (h : Bts w A n c smqL) :
    Calls Try.prog 20 #[.slice A n c] w fun e w' => e = .returned (.tuple #[.agg #[.int .u16 5, .int .u32 6, .int .u32 7, .int .u16 8], .bool true]) ∧ Below w.heap.size w w' := by
  have := ofP_any A n c smqL w h
  obtain ⟨_, _, e1, e2, e3, e4, e5, _⟩ := ap_smp
  rw [e1, e2, e3, e4, e5] at this
  exact this
theorem own_take {w : World} {base : Nat} {A : Option Addr} {n c : Nat} {l : List UInt8} (h : w.ownsRow base 5 1 (.slice A n c) n (bys l)) (k : Nat) (hk : 0 < k) (hkn : k ≤ n) : w.ownsRow base 5 1 (.slice A k c) k (bys (l.take k)) := by
  obtain ⟨h1, h2⟩ := h
  rw [bys_length] at h1
  refine ⟨by rw [bys_length, List.length_take]; omega, ?_⟩
  rcases h2 with ⟨_, h2⟩ | ⟨g, cap, cur, hv, hb, hg, hn, hm, hs, ht⟩
  · omega
  · injection hv with hv1 hv2 hv3
    subst hv1 hv3
    refine .inr ⟨g, _, cur, rfl, hb, hg, by omega, hm, hs, ?_⟩
    rw [← bys_take, ← ht, List.take_take]
    congr 1
    omega
theorem seq_c (base : Nat) (A : Option Addr) (c : Nat) (w : World) (ho : w.ownsRow base 5 1 (.slice A 17 c) 17 (bys smqL)) :
    Calls Try.prog 23 #[.slice A 3 c, .int .u16 1] w fun e w' => e = .returned (.bool false) ∧ w.grownBy w' (A.map Addr.block) := by
  refine (seqP_any base A 3 c _ 1 (by omega) w (own_take ho 3 (by omega) (by omega))).mono ?_
  rintro e w' ⟨rfl, _, h⟩
  exact ⟨by rw [decide_eq_false ap_smp.2.2.2.2.2.2.2], h⟩
theorem own_cellv {w : World} {base : Nat} {B : Option Addr} {n c : Nat} {l : List UInt8} (h : w.ownsRow base 5 1 (.slice B n c) n (bys l)) (hn : 0 < n) : ∃ g, B = some ⟨g, 0, none⟩ ∧ base ≤ g ∧ ∀ i, i < n → w.cell? ⟨g, i, none⟩ = some (.int .u8 (byteN l i)) := by
  obtain ⟨g, hB, hg, _⟩ := own_byteV h 0 hn 0 0 rfl
  refine ⟨g, hB, hg, fun i hi => ?_⟩
  obtain ⟨g', hB', _, hc, _⟩ := own_byteV h i hi 0 0 rfl
  rw [hB] at hB'
  injection hB' with e
  injection e with e
  subst e
  exact hc
set_option maxRecDepth 20000 in
set_option maxHeartbeats 4000000 in
theorem shown6_any (w : World) : Calls Try.prog 14 #[] w fun e w' => e = .returned (.bool true) ∧ Below w.heap.size w w' := by
  go_enter Try.func14, Try.ntmps14
  go_wp2_with (first
    | (go_at_call 39; ((with_reducible refine (sample6_any _).mono ?_); rintro e w1 ⟨B, c, rfl, ho1, hb1⟩; have hc17 := own_leq ho1; have hc3 : (3 : Int) ≤ (c : Int) := (by omega); have hc0 : ¬ c = 0 := (by omega)))
    | (go_at_call 16; ((with_reducible refine (apply_c w.heap.size B c _ ho1).mono ?_); rintro e w2 ⟨rfl, ho2, hg2⟩; have hb2 := hb1.grown hg2 hb1.size (own_from ho1)))
    | (go_at_call 20; ((with_reducible refine (of_c B 17 c _ (own_bts ho2)).mono ?_); rintro e w3 ⟨rfl, hb3⟩; have ho3 := (ho2.kept (own_below hb3) (own_none _)).alloc (.cells #[.int .u16 5, .int .u32 6, .int .u32 7, .int .u16 8] 26); have hb4 := (hb2.trans (hb3.mono hb2.size)).alloc (hb2.trans (hb3.mono hb2.size)).size (.cells #[.int .u16 5, .int .u32 6, .int .u32 7, .int .u16 8] 26); obtain ⟨g, rfl, hg, hcs⟩ := own_cellv ho3 (by omega); have c12 := hcs 12 (by omega); have c16 := hcs 16 (by omega); have e12 : byteN smqL 12 = 64 := (by decide); have e16 : byteN smqL 16 = 9 := (by decide); rw [e12] at c12; rw [e16] at c16))
    | (go_at_call 23; ((with_reducible refine (seq_c w.heap.size (some ⟨g, 0, none⟩) c _ ho3).mono ?_); rintro e w5 ⟨rfl, hg5⟩)))
  go_ret
  exact ⟨by simp, hb4.grown hg5 hb4.size (own_from ho3)⟩
end Go.Proofs.Ytaomdinddccpeaa
