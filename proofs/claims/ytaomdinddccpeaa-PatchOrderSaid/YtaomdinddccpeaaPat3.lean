/-
What Frame of package patch does to bytes of the call's own.
-/
import Derived.Test.YtaomdinddccpeaaPat2
namespace Go.Proofs.Ytaomdinddccpeaa
set_option linter.unusedVariables false
set_option linter.unusedSimpArgs false
open Go Go.RowKit

/-- A byte of the call's own row: read, and written. -/
theorem own_byteV {w : World} {base : Nat} {B : Option Addr} {n c : Nat} {l : List UInt8} (h : w.ownsRow base 5 1 (.slice B n c) n (bys l)) (i : Nat) (hi : i < n) (x : UInt8) (X : Int) (hX : X = x.toNat) : ∃ g, B = some ⟨g, 0, none⟩ ∧ base ≤ g ∧ w.cell? ⟨g, i, none⟩ = some (.int .u8 (byteN l i)) ∧ w.frozen? ⟨g, i, none⟩ = false ∧
    (w.setCell ⟨g, i, none⟩ (.int .u8 X)).ownsRow base 5 1 (.slice B n c) n (bys (l.set i x)) ∧ w.grownBy (w.setCell ⟨g, i, none⟩ (.int .u8 X)) (some g) := by
  subst hX
  obtain ⟨g, cap, hv, _⟩ := h.form (by omega)
  injection hv with hB
  subst hB
  have hl := h.1
  rw [bys_length] at hl
  have c0 := h.cellAt i (by omega)
  obtain ⟨ho, hg⟩ := h.stored i (.int .u8 x.toNat)
  refine ⟨g, rfl, own_from h g rfl, ?_, h.frozenAt i, ?_, hg⟩
  · rw [c0]
    unfold byteN
    rw [List.getElem?_eq_getElem (show i < l.length by omega), Option.getD_some]
    simp [bys, u8v, List.getElem?_eq_getElem (show i < l.length by omega)]
  · have e : bys (l.set i x) = (bys l).set i (.int .u8 x.toNat) := by simp [bys, u8v, List.map_set]
    rw [e]
    exact ho
theorem layer_bits : ∀ b : Nat, b < 256 → bits .andNot .u8 (b : Int) 3 = ((b / 4 * 4 : Nat) : Int) ∧ ∀ k : Nat, k ≤ 2 → bits .or .u8 ((b / 4 * 4 : Nat) : Int) (k : Int) = ((b / 4 * 4 + k : Nat) : Int) := by
  have h : (List.range 256).all (fun b => decide (bits .andNot .u8 (b : Int) 3 = ((b / 4 * 4 : Nat) : Int)) && (List.range 3).all fun k => decide (bits .or .u8 ((b / 4 * 4 : Nat) : Int) (k : Int) = ((b / 4 * 4 + k : Nat) : Int))) = true := by decide +kernel
  intro b hb
  have h1 := List.all_eq_true.1 h b (List.mem_range.2 hb)
  rw [Bool.and_eq_true] at h1
  exact ⟨of_decide_eq_true h1.1, fun k hk => of_decide_eq_true (List.all_eq_true.1 h1.2 k (List.mem_range.2 (by omega)))⟩
theorem okD_room {l : List UInt8} (h : okD l = true) : lookE l = 0 ∧ frmA l + 4 ≤ lookT l ∧ lookT l ≤ l.length ∧ dOk (plG l) = true := by
  unfold okD at h
  rw [Bool.and_eq_true, decide_eq_true_eq] at h
  obtain ⟨he, hd⟩ := h
  obtain ⟨l5, l12, _, _, hfl, k, hk, hkl, hT⟩ := look_ok he
  have h4 : 4 ≤ (plG l).length := by
    have h0 := hd
    unfold dOk dE at h0
    by_cases h4 : (plG l).length < 4
    · rw [if_pos h4] at h0; exact absurd h0 (by decide)
    · omega
  unfold plG at h4
  rw [List.length_take, List.length_drop] at h4
  exact ⟨he, by omega, by omega, hd⟩
theorem described_v (l : List UInt8) (F : Int) (b : Bool) (hF : F = (lookF l : Nat)) (hb : okD l = b) (A : Option Addr) (n c : Nat) (w : World) (h : Bts w A n c l) :
    Calls Try.prog 40 #[.slice A n c] w fun e w' => e = .returned (.tuple #[.int .i64 F, .agg #[.int .i64 (dL (plD l)), .bool (dK (plD l)), .bool (dS (plD l)), .int .u16 (dF (plD l))], .bool b]) ∧ Below w.heap.size w w' := by
  subst hF hb
  exact described_any A n c l w h
def frP (l : List UInt8) (k : Int) (f : Nat) : List UInt8 := if okD l && decide (0 ≤ k ∧ k ≤ 2) then frL l k.toNat f else l
set_option maxRecDepth 20000 in
set_option maxHeartbeats 2000000 in
theorem frameP_any (base : Nat) (A : Option Addr) (n c : Nat) (l : List UInt8) (k : Int) (f : Nat) (hf : f < 65536) (w : World) (ho : w.ownsRow base 5 1 (.slice A n c) n (bys l)) :
    Calls Try.prog 17 #[.slice A n c, .int .i64 k, .int .u16 f] w fun e w' => e = .returned (.bool (okD l && decide (0 ≤ k ∧ k ≤ 2))) ∧
      w'.ownsRow base 5 1 (.slice A n c) n (bys (frP l k f)) ∧ w.grownBy w' (A.map Addr.block) := by
  have HO := Lib.hid ho
  have hln := (own_bts ho).len
  have hcap := own_cap ho
  clear ho
  cases hok : okD l
  · have HK := Lib.hid hok
    have HR : Hid (frP l k f = l) := by show _ = _; unfold frP; rw [hok]; rfl
    clear hok
    go_enter Try.func17, Try.ntmps17
    go_wp2_with (go_at_call 40; (with_reducible refine (described_v l _ false rfl HK.out A n c _ (own_bts HO.out)).mono ?_); rintro e w1 ⟨rfl, hb1⟩; have HO1 := Lib.hid ((HO.out.kept (own_below hb1) (own_none _)).alloc (.cells #[.int .i64 (dL (plD l)), .bool (dK (plD l)), .bool (dS (plD l)), .int .u16 (dF (plD l))] 52)); have hb2 := hb1.alloc hb1.size (.cells #[.int .i64 (dL (plD l)), .bool (dK (plD l)), .bool (dS (plD l)), .int .u16 (dF (plD l))] 52))
    go_ret
    exact ⟨by simp, by rw [HR.out]; exact HO1.out, below_grown hb2 _⟩
  · by_cases hk : 0 ≤ k ∧ k ≤ 2
    · have hcm := hcap.2
      unfold maxLen at hcm
      obtain ⟨kk, rfl⟩ : ∃ kk : Nat, k = (kk : Int) := ⟨k.toNat, by omega⟩
      obtain ⟨he, hroom, hT, hd⟩ := okD_room hok
      have hFx : lookF l = frmA l := by unfold lookF; rw [if_pos he]
      have HR : Hid (frP l (kk : Int) f = frL l kk f) := by show _ = _; unfold frP; rw [hok, decide_eq_true hk, Int.toNat_natCast]; rfl
      have hfl : ∀ F, frmA l = F → frL l kk f = putL (l.set F (UInt8.ofNat (byteN l F / 4 * 4 + kk))) ((F : Int) + 2) 2 f := fun F hF => by subst hF; rfl
      obtain ⟨F, hF⟩ : ∃ F, frmA l = F := ⟨_, rfl⟩
      have HFL := Lib.hid (hfl F hF)
      rw [decide_eq_true hk]
      rw [hF] at hroom hFx
      have HK := Lib.hid hok
      have HF : Hid ((F : Int) = (lookF l : Nat)) := by show _ = _; rw [hFx]
      have hFn : F + 4 ≤ n := by omega
      have hb256 : byteN l F < 256 := byteN_lt _ _
      obtain ⟨m, hm⟩ : ∃ m, byteN l F = m := ⟨_, rfl⟩
      rw [hm] at hb256
      obtain ⟨x1, x2⟩ := layer_bits m hb256
      have x3 := x2 kk (by omega)
      have HX : Hid ((UInt8.ofNat (m / 4 * 4 + kk)).toNat = m / 4 * 4 + kk) := by
        show _ = _
        rw [UInt8.toNat_ofNat']
        omega
      have HM := Lib.hid hm
      have hkk : kk ≤ 2 := by omega
      have hPB : putB (l.set F (UInt8.ofNat (m / 4 * 4 + kk))) ((F : Int) + 2) 2 f = true := by
        unfold putB
        rw [Bool.and_eq_true, withinB_iff, fitsB_iff, List.length_set]
        refine ⟨by omega, by omega, by omega, ?_⟩
        show f < 256 ^ 2
        omega
      have HPB := Lib.hid hPB
      have HB := Lib.hid x3
      have HA := Lib.hid x1
      clear hk hok he hroom hT hd hFx hfl hF hm x1 x2 x3 hPB
      go_enter Try.func17, Try.ntmps17
      go_wp2_with (first
        | (go_at_call 41; (rw [HA.out, HB.out]; (with_reducible refine (put_any base _ n c _ _ _ _ _ (own_bts y3).len (own_cap y3).1 (own_cap y3).2 y3 (by omega) (by omega) (by omega) (by omega)).mono ?_); rintro e w2 ⟨rfl, ho2, hg2, hs2⟩; rw [Int.toNat_natCast] at ho2 ⊢; rw [HPB.out]))
        | (go_at_call 40; (with_reducible refine (described_v l (F : Int) true HF.out HK.out A n c _ (own_bts HO.out)).mono ?_); rintro e w1 ⟨rfl, hb1⟩; have HO1 := Lib.hid ((HO.out.kept (own_below hb1) (own_none _)).alloc (.cells #[.int .i64 (dL (plD l)), .bool (dK (plD l)), .bool (dS (plD l)), .int .u16 (dF (plD l))] 52)); have hb2 := hb1.alloc hb1.size (.cells #[.int .i64 (dL (plD l)), .bool (dK (plD l)), .bool (dS (plD l)), .int .u16 (dF (plD l))] 52); obtain ⟨g, rfl, hgb, y1, y2, y3, y4⟩ := own_byteV HO1.out F (by omega) (UInt8.ofNat (m / 4 * 4 + kk)) ((m / 4 * 4 + kk : Nat) : Int) (by rw [HX.out]); rw [HM.out] at y1))
      go_ret
      exact ⟨by simp, by rw [HR.out, HFL.out, HM.out]; exact ho2, ((below_grown hb2 _).trans y4).trans hg2⟩
    · have HK := Lib.hid hok
      have HR : Hid (frP l k f = l) := by show _ = _; unfold frP; rw [hok, decide_eq_false hk]; rfl
      rw [decide_eq_false hk]
      clear hok
      by_cases hk0 : k < 0
      · clear hk
        go_enter Try.func17, Try.ntmps17
        go_wp2_with (go_at_call 40; (with_reducible refine (described_v l _ true rfl HK.out A n c _ (own_bts HO.out)).mono ?_); rintro e w1 ⟨rfl, hb1⟩; have HO1 := Lib.hid ((HO.out.kept (own_below hb1) (own_none _)).alloc (.cells #[.int .i64 (dL (plD l)), .bool (dK (plD l)), .bool (dS (plD l)), .int .u16 (dF (plD l))] 52)); have hb2 := hb1.alloc hb1.size (.cells #[.int .i64 (dL (plD l)), .bool (dK (plD l)), .bool (dS (plD l)), .int .u16 (dF (plD l))] 52))
        go_ret
        exact ⟨by simp, by rw [HR.out]; exact HO1.out, below_grown hb2 _⟩
      · have hk3 : 3 ≤ k := by omega
        clear hk
        go_enter Try.func17, Try.ntmps17
        go_wp2_with (go_at_call 40; (with_reducible refine (described_v l _ true rfl HK.out A n c _ (own_bts HO.out)).mono ?_); rintro e w1 ⟨rfl, hb1⟩; have HO1 := Lib.hid ((HO.out.kept (own_below hb1) (own_none _)).alloc (.cells #[.int .i64 (dL (plD l)), .bool (dK (plD l)), .bool (dS (plD l)), .int .u16 (dF (plD l))] 52)); have hb2 := hb1.alloc hb1.size (.cells #[.int .i64 (dL (plD l)), .bool (dK (plD l)), .bool (dS (plD l)), .int .u16 (dF (plD l))] 52))
        go_ret
        exact ⟨by simp, by rw [HR.out]; exact HO1.out, below_grown hb2 _⟩
end Go.Proofs.Ytaomdinddccpeaa
