/-
The reference's unhex (package sluicegateref30).
-/
import Derived.Test.YtaghecgjmkhpcaaGreatDoorTz7
import Derived.BigQuiet
import Derived.Deep.QuietTactic
namespace Go.Proofs.YtaghecgjmkhpcaaGreatDoor
set_option linter.unusedVariables false
set_option linter.unusedSimpArgs false
open Go Go.RowKit

def HexInv (l : List UInt8) (k : Nat) (b : List UInt8) : Prop :=
  (k % 2 = 0 ∧ unhexL l = (unhexL (l.drop k)).map (b ++ ·)) ∨ (k % 2 = 1 ∧ ∃ (b0 : List UInt8) (d : Nat) (a0 : UInt8), d < 16 ∧ b = b0 ++ [UInt8.ofNat (16 * d)] ∧ l[k - 1]? = some a0 ∧ unD a0 = d ∧ unhexL l = (unhexL (l.drop (k - 1))).map (b0 ++ ·))
theorem hexInv_start (l : List UInt8) : HexInv l 0 [] := .inl ⟨rfl, by simp⟩
theorem drop_at {l : List UInt8} {k : Nat} {a : UInt8} (h : l[k]? = some a) : l.drop k = a :: l.drop (k + 1) := by
  obtain ⟨hk, rfl⟩ := List.getElem?_eq_some_iff.1 h
  exact List.drop_eq_getElem_cons hk
theorem hexInv_bad {l b : List UInt8} {k : Nat} {a : UInt8} (h : HexInv l k b) (ha : l[k]? = some a) (hu : unD a < 0) : unhexL l = none := by
  rcases h with ⟨_, h⟩ | ⟨hk, b0, d, a0, hd, rfl, h0, hu0, h⟩
  · rw [h, drop_at ha]
    cases l.drop (k + 1) with
    | nil => rfl
    | cons c t => rw [unhexL, if_pos (.inl hu)]; rfl
  · rw [h, drop_at h0, show k - 1 + 1 = k by omega, drop_at ha, unhexL, if_pos (.inr hu)]
    rfl
theorem hexInv_even {l b : List UInt8} {k x : Nat} {a : UInt8} (hk : k % 2 = 0) (h : HexInv l k b) (ha : l[k]? = some a) (hx : x < 16) (hu : unD a = x) : HexInv l (k + 1) (b ++ [UInt8.ofNat (16 * x)]) := by
  rcases h with ⟨_, h⟩ | ⟨hk2, _⟩
  · exact .inr ⟨by omega, b, x, a, hx, rfl, ha, hu, h⟩
  · omega
theorem hexInv_odd {l b : List UInt8} {k x : Nat} {a : UInt8} (hk : k % 2 = 1) (h : HexInv l k b) (ha : l[k]? = some a) (hx : x < 16) (hu : unD a = x) :
    ∃ (b0 : List UInt8) (d : Nat), d < 16 ∧ b = b0 ++ [UInt8.ofNat (16 * d)] ∧ HexInv l (k + 1) (b0 ++ [UInt8.ofNat (16 * d + x)]) := by
  rcases h with ⟨hk2, _⟩ | ⟨_, b0, d, a0, hd, rfl, h0, hu0, h⟩
  · omega
  · refine ⟨b0, d, hd, rfl, .inl ⟨by omega, ?_⟩⟩
    rw [h, drop_at h0, show k - 1 + 1 = k by omega, drop_at ha, unhexL, if_neg (by omega), hu0, hu]
    simp only [Int.toNat_natCast]
    cases unhexL (l.drop (k + 1)) <;> simp
theorem hexInv_end {l b : List UInt8} {k : Nat} (hk : k = l.length) (h : HexInv l k b) (r : List UInt8) (hr : unhexL l = some r) : b = r ∧ l.length % 2 = 0 := by
  rcases h with ⟨h2, h⟩ | ⟨h2, b0, d, a0, hd, rfl, h0, hu0, h⟩
  · rw [h, List.drop_of_length_le (by omega)] at hr
    simp [unhexL] at hr
    exact ⟨hr, by omega⟩
  · rw [h, drop_at h0, show k - 1 + 1 = k by omega, List.drop_of_length_le (by omega)] at hr
    simp [unhexL] at hr
theorem unD_F : ∀ a : Fin 256, unD (UInt8.ofNat a.val) < 0 ∨ (0 ≤ unD (UInt8.ofNat a.val) ∧ unD (UInt8.ofNat a.val) < 16 ∧ hexD (unD (UInt8.ofNat a.val)).toNat = UInt8.ofNat a.val) := by decide +kernel
theorem unD_all (a : UInt8) : ∃ U : Nat, U ≤ 16 ∧ (∀ y, y < U → hexD y ≠ a) ∧ ((U = 16 ∧ unD a < 0) ∨ (U < 16 ∧ hexD U = a ∧ unD a = U)) := by
  have h := unD_F ⟨a.toNat, UInt8.toNat_lt a⟩
  simp only [UInt8.ofNat_toNat] at h
  rcases h with h | ⟨h0, h1, h2⟩
  · refine ⟨16, Nat.le_refl _, fun y hy e => ?_, .inl ⟨rfl, h⟩⟩
    have := unD_hexD y hy
    rw [e] at this
    omega
  · refine ⟨(unD a).toNat, by omega, fun y hy e => ?_, .inr ⟨by omega, h2, by omega⟩⟩
    have := unD_hexD y (by omega)
    rw [e] at this
    omega
theorem own_some {w : World} {base n c : Nat} {e : TypeId} {size : Nat} {A : Option Addr} {xs : List Value} (h : w.ownsRow base e size (.slice A n c) n xs) (hn : 0 < n) : ∃ g, A = some ⟨g, 0, none⟩ ∧ base ≤ g := by
  rcases h.2 with ⟨_, h0⟩ | ⟨g, cap, cur, h1, hb, _⟩
  · omega
  · injection h1 with h1
    exact ⟨g, h1, hb⟩
theorem lit_by (w : World) (e : UInt8) : Rd (w.alloc (.cells #[.int .u8 (e.toNat : Int)] 5)) (some ⟨w.heap.size, 0, none⟩) (bys [e]) :=
  (own_rowT 1 (World.ownsRow_lit (base := 0) (e := 5) (size := 1) w #[.int .u8 (e.toNat : Int)] 1 (Nat.zero_le _) (by unfold maxLen; omega) rfl)).rd
theorem bys_snoc (b : List UInt8) (e : UInt8) : bys b ++ bys [e] = bys (b ++ [e]) := by simp [bys]
theorem bys_last (b0 : List UInt8) (e f : UInt8) : (bys (b0 ++ [e])).set b0.length (.int .u8 (f.toNat : Int)) = bys (b0 ++ [f]) := by
  simp [bys, u8v]
set_option maxRecDepth 20000 in
set_option maxHeartbeats 4000000 in
theorem runhex_any (l : List UInt8) (w : World) (hl : l.length ≤ 1000000) :
    Calls Tryz.prog 52 #[.string ⟨l.toArray⟩] w fun e w' => ∃ (A : Option Addr) (n c : Nat) (b : List UInt8) (ok : Bool), e = .returned (.tuple #[.slice A n c, .bool ok]) ∧ w'.ownsRow w.heap.size 5 1 (.slice A n c) n (bys b) ∧ Hid (∀ r, unhexL l = some r → b = r ∧ ok = true) ∧ Below w.heap.size w w' := by
  obtain ⟨s, hs⟩ : ∃ s : ByteArray, ⟨l.toArray⟩ = s := ⟨_, rfl⟩
  have hsz : s.size = l.length := by subst hs; rfl
  have HS := Lib.hid hs
  have HZ := Lib.hid hsz
  have hss : s.size ≤ 1000000 := by omega
  rw [hs]
  clear hs hsz
  go_enter Tryz.func52, Tryz.ntmps52
  go_wp2
  go_loopw [4, 5] (fun v4 ix wr => ∃ (k m c : Nat) (A : Option Addr) (b : List UInt8), ix = .int .i64 k ∧ v4 = .slice A m c ∧ k ≤ s.size ∧ m ≤ k ∧ Hid (wr.ownsRow w.heap.size 5 1 (.slice A m c) m (bys b)) ∧ Hid (HexInv l k b) ∧ Below w.heap.size w wr) (fun _ ix _ => s.size - (intOf ix).toNat)
  case atStart => exact ⟨0, 0, 0, none, [], rfl, rfl, Nat.zero_le _, Nat.le_refl _, Lib.hid (World.ownsRow_nil _ _ _ _), Lib.hid (hexInv_start l), Below.refl _ _⟩
  case round =>
    obtain ⟨k, m, c, A, b, rfl, rfl, hks, hmk, HO, HI, hbr⟩ := hrel
    by_cases hlt : k < s.size
    · have hkl : k < l.length := by have := HZ.out; omega
      have hsk : s[k] = l[k] := by have := HS.out; subst this; rfl
      obtain ⟨a, ha⟩ : ∃ a, l[k] = a := ⟨_, rfl⟩
      rw [ha] at hsk
      have HA : Hid (l[k]? = some a) := Lib.hid (by rw [← ha]; exact List.getElem?_eq_getElem hkl)
      obtain ⟨U, hU, hUn, hUc⟩ := unD_all a
      have HUN := Lib.hid hUn
      have HUC := Lib.hid hUc
      clear ha hUn hUc
      go_upto_block 0 with fail
      go_loopw [6] (fun v6 wx => ∃ x : Nat, v6 = .int .i64 x ∧ x ≤ U ∧ Below wr.heap.size wr wx) (fun v6 _ => 17 - (intOf v6).toNat)
      case atStart => exact ⟨0, rfl, Nat.zero_le _, Below.refl _ _⟩
      case round =>
        obtain ⟨x, rfl, hxU, hbx⟩ := hrel
        by_cases hx : x < U
        · have hx16 : x < 16 := by omega
          obtain ⟨d, hd⟩ : ∃ d, hexD x = d := ⟨_, rfl⟩
          have hda : d ≠ a := by rw [← hd]; exact HUN.out x hx
          have hdn : ¬ d.toNat = a.toNat := fun h => hda (UInt8.toNat_inj.1 h)
          have hdn2 : ((d.toNat : Int) == (a.toNat : Int)) = false := by simp; exact fun h => hdn (by omega)
          have hxd : decide ((x : Int) < 16) = true := decide_eq_true (by omega)
          have hg : (⟨#[48, 49, 50, 51, 52, 53, 54, 55, 56, 57, 97, 98, 99, 100, 101, 102]⟩ : ByteArray)[x]'(by exact hx16) = d := by rw [← hd]; exact hexS_get x hx16 hx16
          clear hd hda
          go_wp2
          go_quiet (fail)
          go_wp2
          exact ⟨⟨x + 1, rfl, by omega, below_drewT hbx _⟩, by simp [intOf]; omega⟩
        · obtain rfl : x = U := by omega
          by_cases h16 : x = 16
          · subst h16
            go_wp2
            go_quiet (fail)
            go_wp2
            go_ret2
            refine ⟨none, 0, 0, [], _, rfl, World.ownsRow_nil _ _ _ _, Lib.hid (fun r hr => ?_), hbr.trans ((below_drewT hbx _).mono hbr.size)⟩
            rcases HUC.out with ⟨_, hu⟩ | ⟨h, _⟩
            · rw [hexInv_bad HI.out HA.out hu] at hr
              cases hr
            · omega
          · have hx16 : x < 16 := by omega
            have hux : hexD x = a ∧ unD a = x := by
              rcases HUC.out with ⟨h, _⟩ | ⟨_, h⟩
              · exact absurd h h16
              · exact h
            have hg : (⟨#[48, 49, 50, 51, 52, 53, 54, 55, 56, 57, 97, 98, 99, 100, 101, 102]⟩ : ByteArray)[x]'(by exact hx16) = a := by rw [← hux.1]; exact hexS_get x hx16 hx16
            have hxd : decide ((x : Int) < 16) = true := decide_eq_true (by omega)
            have hxe : ((x : Int) == 16) = false := by simp; omega
            have HUX := Lib.hid hux.2
            clear hux HUC HUN hx
            go_wp2
            go_quiet (fail)
            have hbq := hbr.trans ((below_drewT hbx nq).mono hbr.size)
            have HOQ := Lib.hid (HO.out.kept (own_below (below_drewT hbx nq)) (own_none _))
            generalize wr.drewN nq = wq at *
            clear hbx hbr
            by_cases hpar : k % 2 = 0
            · have HIV := Lib.hid (hexInv_even hpar HI.out HA.out hx16 HUX.out)
              have hp1 : ((k : Int) % 2 == 0) = true := by simp; omega
              obtain ⟨e, he⟩ : ∃ e, UInt8.ofNat (16 * x) = e := ⟨_, rfl⟩
              rw [he] at HIV
              have hex : 16 * (x : Int) = (e.toNat : Int) := by
                rw [← he, UInt8.toNat_ofNat']
                omega
              have HEX := Lib.hid hex
              clear he hex
              go_wp2_with (at_builtin; (rw [HEX.out]); (refine wpList_app slU8 rfl _ _ rfl w.heap.size A m c (bys b) rfl (HOQ.out.alloc _) (some ⟨wq.heap.size, 0, none⟩) 1 1 (bys [e]) rfl rfl (lit_by _ _) (bys_one _) (by omega) ((hbq.alloc hbq.size _).size) ?_); intro A7 c7 w7 ho7 hg7 hA7; have q7 := own_from HOQ.out; have hb7 := (hbq.alloc hbq.size (.cells #[.int .u8 (e.toNat : Int)] 5)).grown hg7 (hbq.alloc hbq.size _).size q7; rw [bys_snoc] at ho7; have HO7 := Lib.hid ho7; clear ho7 hg7 hA7 q7)
              exact ⟨⟨k + 1, m + 1, c7, A7, b ++ [e], rfl, rfl, by omega, by omega, HO7, HIV, hb7⟩, by simp [intOf]; omega⟩
            · obtain ⟨b0, d, hd, rfl, hiv⟩ := hexInv_odd (by omega) HI.out HA.out hx16 HUX.out
              have HIV := Lib.hid hiv
              have hp1 : ((k : Int) % 2 == 0) = false := by simp; omega
              have hm0 : m = b0.length + 1 := by
                have := HOQ.out.1
                rw [bys_length] at this
                simp at this
                omega
              obtain ⟨g, rfl, hbg⟩ := own_some HOQ.out (by omega)
              subst hm0
              have hcell := HOQ.out.cellAt b0.length (by omega)
              have hb0 : (bys (b0 ++ [UInt8.ofNat (16 * d)]))[b0.length]? = some (.int .u8 (16 * (d : Int))) := by
                simp [bys, u8v]
                omega
              rw [hb0] at hcell
              have hfr := HOQ.out.frozenAt b0.length
              have hst := HOQ.out.stored b0.length (.int .u8 (16 * (d : Int) + (x : Int)))
              obtain ⟨f, hf⟩ : ∃ f, UInt8.ofNat (16 * d + x) = f := ⟨_, rfl⟩
              have hfn : 16 * (d : Int) + (x : Int) = (f.toNat : Int) := by
                rw [← hf, UInt8.toNat_ofNat']
                omega
              rw [hfn, bys_last] at hst
              rw [hf] at HIV
              have HST := Lib.hid hst
              have HFN := Lib.hid hfn
              clear hb0 hst hf hfn hiv
              go_wp2
              rw [HFN.out]
              exact ⟨⟨k + 1, b0.length + 1, c, some ⟨g, 0, none⟩, b0 ++ [f], rfl, rfl, by omega, by omega, Lib.hid HST.out.1, HIV, hbq.grown HST.out.2 hbq.size (fun q hq => by injection hq with hq; omega)⟩, by simp [intOf]; omega⟩
    · have hje : k = l.length := by have := HZ.out; omega
      go_wp2
      go_ret2
      refine ⟨A, m, c, b, _, rfl, HO.out, ?_, hbr⟩
      exact Lib.hid (fun r hr => ⟨(hexInv_end hje HI.out r hr).1, by have := (hexInv_end hje HI.out r hr).2; have := HZ.out; simp; omega⟩)
end Go.Proofs.YtaghecgjmkhpcaaGreatDoor
