/-
The walks of the laws over package field.
-/
import Derived.Test.YtgmgjblekejgnaaRef1
import Derived.Laws.IdiomStrings
import Derived.BigQuiet
import Derived.Deep.QuietTactic
import Derived.Deep.RegionWith
namespace Go.Proofs.Ytgmgjblekejgnaa
set_option linter.unusedVariables false
set_option linter.unusedSimpArgs false
open Go.RowKit

/-- string(b). -/
theorem conv_str {P : Program} {src dst e : TypeId} (hs : P.underlying src = some (.slice e)) (he : P.underlying e = some (.int .u8)) (hd : P.underlying dst = some .string)
    (w : World) (A : Option Addr) (n c : Nat) (l : List UInt8) (hn : l.length = n) (hr : Rd w A (bys l)) : (convert src dst (.slice A n c)).run P w = .ok (.string ⟨l.toArray⟩) w := by
  subst hn
  rcases A with _ | ad
  · obtain rfl : l = [] := by
      rcases l with _ | ⟨x, l⟩
      · rfl
      · obtain ⟨ad, h, _⟩ := hr 0 _ rfl
        cases h
    rw [run_convert_bytes_string w src dst e none _ c hs he hd]
    rfl
  · refine run_convert_bytes_back w src dst e ad c l hs he hd fun j hj => ?_
    obtain ⟨ad', h, hc⟩ := RdB.at_ hr hj
    injection h with h; subst h
    exact hc
theorem conv_own {w : World} {base : Nat} {A : Option Addr} {n c : Nat} {l : List UInt8} (h : w.ownsRow base 5 1 (.slice A n c) n (bys l)) : (convert 22 9 (.slice A n c)).run Try.prog w = .ok (.string ⟨l.toArray⟩) w :=
  conv_str Try.underlying22 Try.underlying5 Try.underlying9 w A n c l (by have := h.1; rw [bys_length] at this; omega) (Rd.own h)
theorem lit_own (w : World) (l : List UInt8) (cs : Array Value) (hcs : cs = (bys l).toArray) (n : Nat) (hn : l.length = n) (hm : n ≤ maxLen) (base : Nat) (g : Nat) (hg : w.heap.size = g) (hb : base ≤ g) :
    (w.alloc (.cells cs 5)).ownsRow base 5 1 (.slice (some ⟨g, 0, none⟩) n n) n (bys l) := by
  subst hg
  have := World.ownsRow_lit (base := base) (e := 5) (size := 1) w cs n hb hm (by rw [hcs]; simp [bys_length, hn])
  rw [hcs] at this ⊢
  exact this

theorem shown_get (W : World) (g : Nat) (hg : W.heap.size = g) :
    Calls Try.prog 13 #[.slice (some ⟨g, 0, none⟩) 3 3, .int .i64 1, .int .i64 2] (W.alloc (.cells #[.int .u8 9, .int .u8 1, .int .u8 2] 5)) fun e w' => e = .returned (.tuple #[.int .u64 258, .bool true]) ∧ W.alloc (.cells #[.int .u8 9, .int .u8 1, .int .u8 2] 5) = w' :=
  get_any _ 3 3 [9, 1, 2] 1 2 _ rfl (by omega) (by unfold maxLen; omega) (Rd.own (lit_own W [9, 1, 2] _ rfl 3 rfl (by unfold maxLen; omega) 0 g hg (Nat.zero_le _))) (by omega) (by omega)
theorem shown_app (W : World) (g : Nat) (hg : W.heap.size = g) :
    Calls Try.prog 17 #[.slice (some ⟨g, 0, none⟩) 1 1, .int .i64 2, .int .u64 258] (W.alloc (.cells #[.int .u8 7] 5)) fun e w' => ∃ B c', e = .returned (.slice B 3 c') ∧
      w'.ownsRow (g + 1) 5 1 (.slice B 3 c') 3 (bys [7, 1, 2]) ∧ Below g W w' := by
  refine (append_any _ 1 1 [7] 2 258 _ rfl (by omega) (by simp) (Rd.own (lit_own W [7] _ rfl 1 rfl (by unfold maxLen; omega) 0 g hg (Nat.zero_le _))) (by omega) (by omega) (by omega)).mono ?_
  rintro e w' ⟨A, m, c', rfl, hm, ho, hb⟩
  have e1 : appL [7] 2 ((258 : Int).toNat) = [7, 1, 2] := by decide
  rw [Hid, e1] at hm
  rw [e1] at ho
  obtain rfl : m = 3 := hm
  have hsz : (W.alloc (.cells (bys [7]).toArray 5)).heap.size = g + 1 := by simp [hg]
  rw [hsz] at ho hb
  exact ⟨A, c', rfl, ho, ((Below.refl g W).alloc (by omega) _).trans (hb.mono (by omega))⟩
theorem shown_put1 (W : World) (g : Nat) (hg : W.heap.size = g) :
    Calls Try.prog 15 #[.slice (some ⟨g, 0, none⟩) 3 3, .int .i64 1, .int .i64 1, .int .u64 5] (W.alloc (.cells #[.int .u8 0, .int .u8 0, .int .u8 0] 5)) fun e w' => e = .returned (.bool true) ∧
      w'.ownsRow g 5 1 (.slice (some ⟨g, 0, none⟩) 3 3) 3 (bys [0, 5, 0]) ∧ W.grownBy w' none := by
  refine (put_any g (some ⟨g, 0, none⟩) 3 3 [0, 0, 0] 1 1 5 _ rfl (by omega) (by unfold maxLen; omega) (lit_own W [0, 0, 0] _ rfl 3 rfl (by unfold maxLen; omega) g g hg (Nat.le_refl _)) (by omega) (by omega) (by omega) (by omega)).mono ?_
  rintro e w' ⟨rfl, ho, hgr, hz⟩
  refine ⟨rfl, ho, ?_⟩
  have h1 : Below W.heap.size W w' := ((Below.refl _ _).alloc (Nat.le_refl _) _).grown hgr (by simp) (by intro k hk; simp at hk; omega)
  exact own_below h1
theorem shown_put2 (W : World) (A : Option Addr) :
    Calls Try.prog 15 #[.slice A 3 3, .int .i64 2, .int .i64 2, .int .u64 1] W fun e w' => e = .returned (.bool false) ∧ W = w' :=
  put_no A 3 3 2 2 1 W (by unfold maxLen; omega) (by omega) (by omega) (by omega) (by omega) (.inl (by decide))

set_option maxHeartbeats 400000 in
theorem shown_any (w : World) : Calls Try.prog 12 #[] w fun e w' => e = .returned (.bool true) ∧ Below w.heap.size w w' := by
  go_enter Try.func12, Try.ntmps12
  go_wp2_with (first
    | (go_at_call 13; refine (shown_get _ _ rfl).mono ?_; rintro e w1 ⟨rfl, rfl⟩)
    | (go_at_call 17; refine (shown_app _ _ (by simp)).mono ?_; rintro e w2 ⟨B, cB, rfl, hB, hbB⟩; have hcv := conv_own (hB.alloc (.cells #[.int .u8 0, .int .u8 0, .int .u8 0] 5)))
    | (go_at_call 15; (with_reducible refine (shown_put1 _ _ rfl).mono ?_); rintro e w3 ⟨rfl, h3, hg3⟩; have hc5 := h3.cellAt 1 (by omega); simp [bys, u8v] at hc5; clear hcv)
    | (go_at_call 15; refine (shown_put2 _ _).mono ?_; rintro e w4 ⟨rfl, rfl⟩))
  go_ret
  refine ⟨rfl, ?_⟩
  have hb2 : Below w.heap.size w w2 := ((Below.refl _ _).alloc (Nat.le_refl _) _).trans (hbB.mono (by omega))
  exact hb2.grown hg3 hb2.size (by simp)
end Go.Proofs.Ytgmgjblekejgnaa
