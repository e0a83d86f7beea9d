/-
What Put of package rtp writes: any packet.
-/
import Derived.Test.YtaomdinddccpeaaRtp5
namespace Go.Proofs.Ytaomdinddccpeaa
set_option linter.unusedVariables false
set_option linter.unusedSimpArgs false
open Go Go.RowKit

section
variable (p : Pkt) (C : Option Addr) (cn cc : Nat) (E : Option Addr) (en ec : Nat) (L : Option Addr) (ln lc : Nat) (w : World)
set_option maxRecDepth 20000 in
set_option maxHeartbeats 1000000 in
theorem pput_no (hc : p.cs.length = cn) (he : p.ex.length = en) (hl : p.pl.length = ln) (b2 : en ≤ 140737488351232) (b3 : ln ≤ 140737488351232) (hz : errP p ≠ 0) :
    Calls Try.prog 59 #[.agg #[.bool p.mr, .int .i64 p.ty, .int .u16 p.sq, .int .u32 p.tm, .int .u32 p.ss, .slice C cn cc, .bool p.hx, .int .u16 p.pf, .slice E en ec, .slice L ln lc, .int .i64 p.pad]] w fun e w' =>
      e = .returned (.tuple #[.slice none 0 0, .int .i64 (errP p : Nat)]) ∧ Below w.heap.size w w' := by
  have HC := Lib.hid (And.intro hc (And.intro he hl))
  clear hc he hl
  obtain ⟨n, hn⟩ : ∃ n, n = sizeP p := ⟨_, rfl⟩
  have HN := Lib.hid hn.symm
  have HE : Hid (errP p = if n = 0 then 1 else if n > 512 then 5 else 0) := by show _ = _; rw [hn]; rfl
  have hz2 : n = 0 ∨ n > 512 := by
    have := HE.out
    by_cases h : n = 0
    · exact .inl h
    · rw [if_neg h] at this
      by_cases h2 : n > 512
      · exact .inr h2
      · rw [if_neg h2] at this; exact absurd this hz
  clear hn hz
  rcases hz2 with h0 | h5
  · subst h0
    go_enter Try.func59, Try.ntmps59
    go_wp2_with (go_at_call 84; (with_reducible refine (psize_any p C cn cc E en ec L ln lc _ HC.out.1 HC.out.2.1 HC.out.2.2 b2 b3).mono ?_); rintro e w1 ⟨rfl, hb1⟩; rw [HN.out])
    go_ret2
    exact ⟨by rw [HE.out]; rfl, ((Below.refl w.heap.size w).alloc (Nat.le_refl _) _).trans (hb1.mono (by simp))⟩
  · have q0 : ((n : Int) == 0) = false := by simp; omega
    have q5 : decide ((512 : Int) < (n : Int)) = true := by simp; omega
    have H5 := Lib.hid h5
    clear h5
    go_enter Try.func59, Try.ntmps59
    go_wp2_with (go_at_call 84; (with_reducible refine (psize_any p C cn cc E en ec L ln lc _ HC.out.1 HC.out.2.1 HC.out.2.2 b2 b3).mono ?_); rintro e w1 ⟨rfl, hb1⟩; rw [HN.out])
    go_ret2
    exact ⟨by rw [HE.out, if_neg (by have := H5.out; omega), if_pos H5.out]; rfl, ((Below.refl w.heap.size w).alloc (Nat.le_refl _) _).trans (hb1.mono (by simp))⟩
/-- Put: the packet's bytes, or what is wrong. -/
theorem pput_any (rc : Row w C cn cc 1 4 (u32s p.cs)) (re : Row w E en ec 1 1 (bys p.ex)) (rl : Row w L ln lc 1 1 (bys p.pl)) (ok : p.Ok) (b2 : en ≤ 140737488351232) (b3 : ln ≤ 140737488351232) :
    Calls Try.prog 59 #[.agg #[.bool p.mr, .int .i64 p.ty, .int .u16 p.sq, .int .u32 p.tm, .int .u32 p.ss, .slice C cn cc, .bool p.hx, .int .u16 p.pf, .slice E en ec, .slice L ln lc, .int .i64 p.pad]] w fun e w' =>
      ∃ B k c', e = .returned (.tuple #[.slice B k c', .int .i64 (errP p : Nat)]) ∧ k = (outP p).length ∧ w'.ownsRow w.heap.size 5 1 (.slice B k c') k (bys (outP p)) ∧ Below w.heap.size w w' := by
  have hc : p.cs.length = cn := by have := rc.len; rw [u32s_length] at this; omega
  have he : p.ex.length = en := by have := re.len; rw [bys_length] at this; omega
  have hl : p.pl.length = ln := by have := rl.len; rw [bys_length] at this; omega
  by_cases hz : errP p = 0
  · have ho : outP p = pktL p := by unfold outP; rw [if_pos hz]
    have hk : ∀ {B : Option Addr} {c' : Nat} {w' : World}, w'.ownsRow w.heap.size 5 1 (.slice B (sizeP p) c') (sizeP p) (bys (pktL p)) → sizeP p = (pktL p).length := fun h => by have := h.1; rw [bys_length] at this; omega
    rw [hz, ho]
    cases hx : p.hx
    · refine (pput_f p hx C cn cc E en ec L ln lc w rc re rl ok b2 b3 hz).mono ?_
      rintro e w' ⟨B, c', rfl, h2, h3⟩
      exact ⟨B, _, c', rfl, hk h2, h2, h3⟩
    · refine (pput_t p hx C cn cc E en ec L ln lc w rc re rl ok b2 b3 hz).mono ?_
      rintro e w' ⟨B, c', rfl, h2, h3⟩
      exact ⟨B, _, c', rfl, hk h2, h2, h3⟩
  · have ho : outP p = [] := by unfold outP; rw [if_neg hz]
    rw [ho]
    refine (pput_no p C cn cc E en ec L ln lc w hc he hl b2 b3 hz).mono ?_
    rintro e w' ⟨rfl, hb⟩
    exact ⟨none, 0, 0, rfl, rfl, World.ownsRow_nil _ _ _ _, hb⟩
end
end Go.Proofs.Ytaomdinddccpeaa
