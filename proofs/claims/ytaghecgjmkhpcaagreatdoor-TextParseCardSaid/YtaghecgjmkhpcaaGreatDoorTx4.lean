/-
digits.Write and digits.Read.
-/
import Derived.Test.YtaghecgjmkhpcaaGreatDoorTx3
import Derived.Test.YtaghecgjmkhpcaaGreatDoorTxL
import Derived.Test.YtaghecgjmkhpcaaGreatDoorTx2
import Derived.Test.YtaghecgjmkhpcaaGreatDoorReg
import Derived.Deep.QuietTactic
import Derived.BigQuiet
namespace Go.Proofs.YtaghecgjmkhpcaaGreatDoor
set_option linter.unusedVariables false
set_option linter.unusedSimpArgs false
open Go Go.RowKit

def dig16 : ByteArray := ⟨#[48, 49, 50, 51, 52, 53, 54, 55, 56, 57, 97, 98, 99, 100, 101, 102]⟩
theorem dig_get (j : Nat) (h : j < 16) : (⟨#[48, 49, 50, 51, 52, 53, 54, 55, 56, 57, 97, 98, 99, 100, 101, 102]⟩ : ByteArray)[j]'h = hexD j := by
  have : ∀ j : Fin 16, (⟨#[48, 49, 50, 51, 52, 53, 54, 55, 56, 57, 97, 98, 99, 100, 101, 102]⟩ : ByteArray)[j.val]'(j.isLt) = hexD j.val := by decide
  exact this ⟨j, h⟩
set_option maxRecDepth 20000 in
theorem hexw_any (A : Option Addr) (n c : Nat) (l : List UInt8) (w : World) (h : Row w A n c 1 1 (bys l)) (hn : n ≤ 1000000) :
    Calls Tryz.prog 40 #[.slice A n c] w fun e w' => e = .returned (.string ⟨(hexL l).toArray⟩) ∧ Below w.heap.size w w' := by
  have HR := Lib.hid h
  have hl : l.length = n := by have := h.len; rw [bys_length] at this; omega
  have HL := Lib.hid hl
  have hcm := h.cm
  unfold maxLen at hcm
  clear h hl
  go_enter Tryz.func40, Tryz.ntmps40
  go_wp2
  go_loopw [8] (fun i wr => ∃ k : Nat, i = .int .i64 k ∧ k ≤ n ∧ Below w.heap.size w wr ∧ Lib.IsBuilder 42 5 w.heap.size w.heap.size (Lib.byteCells (hexL (l.take k))) wr) (fun i _ => n - (intOf i).toNat)
  case atStart => exact ⟨0, rfl, Nat.zero_le _, (Below.refl _ w).alloc (Nat.le_refl _) _, Lib.fresh_isBuilder _ _ w⟩
  case round =>
    obtain ⟨k, rfl, hkn, hbr, hB⟩ := hrel
    have HB := Lib.hid hB
    clear hB
    by_cases hlt : k < n
    · have hk : k < l.length := by rw [HL.out]; exact hlt
      obtain ⟨ad, rfl, h2⟩ := (HR.out.rd.below hbr) k (.int .u8 (l[k].toNat : Int)) (by simp [bys, u8v, List.getElem?_map, List.getElem?_eq_getElem hk])
      obtain ⟨x, hx⟩ : ∃ x, l[k] = x := ⟨_, rfl⟩
      rw [hx] at h2
      have hx8 := x.toNat_lt
      have HX := Lib.hid hx
      clear hx
      have hlen : (Lib.byteCells (hexL (l.take k))).length = 2 * k := by simp [Lib.byteCells, hexL_length]; omega
      go_wp2_with (first
        | (go_at_call 57; refine (Tryz.Builder_WriteByte w.heap.size w.heap.size _ _ _ HB.out (by rw [hlen]; omega) hbr.size).mono ?_; rintro e w1 ⟨rfl, hb1, hbl1⟩)
        | (go_at_call 57; refine (Tryz.Builder_WriteByte w.heap.size w.heap.size _ _ _ (Or.inr hb1) (by rw [List.length_append, hlen]; simp; omega) (by have := hbr.size; have := hbl1.size; omega)).mono ?_; rintro e w2 ⟨rfl, hb2, hbl2⟩))
      clear HB
      refine ⟨⟨k + 1, rfl, by omega, (hbr.trans hbl1).trans hbl2, Or.inr ?_⟩, by simp [intOf]; omega⟩
      have e : hexL (l.take (k + 1)) = hexL (l.take k) ++ [hexD (x.toNat / 16), hexD (x.toNat % 16)] := by
        rw [List.take_succ_eq_append_getElem hk, hexL_append, HX.out]
        rfl
      rw [e]
      rw [dig_get (x.toNat / 16) (by omega), dig_get (x.toNat % 16) (by omega)] at hb2
      simpa [Lib.byteCells] using hb2
    · obtain rfl : k = n := by omega
      go_wp2_with (go_at_call 23; refine (Tryz.Builder_String_any w.heap.size w.heap.size (hexL (l.take k)) _ HB.out hbr.size).mono ?_; rintro e w1 ⟨rfl, hbl1⟩)
      go_ret
      refine ⟨?_, hbr.trans hbl1⟩
      have e : l.take k = l := List.take_of_length_le (by rw [HL.out]; exact Nat.le_refl _)
      exact congrArg (fun q : List UInt8 => Ending.returned (Value.string ⟨(hexL q).toArray⟩)) e
/-- A digit's number; below 0: it is none. -/
theorem unhex_cons (a b : UInt8) (t : List UInt8) : unhexL (a :: b :: t) = if unD a < 0 ∨ unD b < 0 then none else (unhexL t).map fun r => UInt8.ofNat (16 * (unD a).toNat + (unD b).toNat) :: r := by rw [unhexL]
theorem or_byte (x y : Nat) (hx : x < 16) (hy : y < 16) : bits .or .i64 ((x : Int) * 16) (y : Int) % 256 = ((UInt8.ofNat (16 * x + y)).toNat : Int) := by
  have : ∀ x y : Fin 16, bits .or .i64 ((x.val : Int) * 16) (y.val : Int) % 256 = ((UInt8.ofNat (16 * x.val + y.val)).toNat : Int) := by decide +kernel
  exact this ⟨x, hx⟩ ⟨y, hy⟩
theorem lit_rd8 (w : World) (n : UInt8) (z : Int) (hz : z = n.toNat) : Rd (w.alloc (.cells #[.int .u8 z] 5)) (some ⟨w.heap.size, 0, none⟩) (bys [n]) := by
  subst hz
  exact Rd.own (World.ownsRow_lit (base := 0) (e := 5) (size := 1) w #[.int .u8 n.toNat] 1 (Nat.zero_le _) (by unfold maxLen; omega) rfl)
theorem unD_range (x : UInt8) : unD x < 0 ∨ (0 ≤ unD x ∧ unD x < 16) := by
  have : ∀ j : Fin 256, unD (UInt8.ofNat j.val) < 0 ∨ (0 ≤ unD (UInt8.ofNat j.val) ∧ unD (UInt8.ofNat j.val) < 16) := by decide +kernel
  have h := this ⟨x.toNat, x.toNat_lt⟩
  simpa using h
theorem unhex_odd : ∀ l : List UInt8, l.length % 2 = 1 → unhexL l = none
  | [], h => by simp at h
  | [_], _ => rfl
  | a :: b :: t, h => by
    have ih := unhex_odd t (by simp at h; omega)
    unfold unhexL
    rw [ih]
    simp
set_option maxRecDepth 20000 in
theorem hexr_any (l : List UInt8) (w : World) (hn : l.length ≤ 281474976710656) :
    Calls Tryz.prog 64 #[.string ⟨l.toArray⟩] w fun e w' => ∃ A m c, e = .returned (.tuple #[.slice A m c, .bool (unhexL l).isSome]) ∧ Hid (((unhexL l).getD []).length = m) ∧ w'.ownsRow w.heap.size 5 1 (.slice A m c) m (bys ((unhexL l).getD [])) ∧ Below w.heap.size w w' := by
  obtain ⟨s, hs⟩ : ∃ s : ByteArray, ⟨l.toArray⟩ = s := ⟨_, rfl⟩
  have hsz : s.size = l.length := by subst hs; rfl
  have HS := Lib.hid hs
  have HZ := Lib.hid hsz
  rw [hs]
  by_cases ho : l.length % 2 = 1
  · have h1 : ((s.size : Int) % 2 == 1) = true := by rw [hsz]; simp; omega
    have HO := Lib.hid (unhex_odd l ho)
    rw [HO.out]
    clear hs hsz ho HO HS HZ
    go_enter Tryz.func64, Tryz.ntmps64
    go_wp2
    go_ret2
    exact ⟨none, 0, 0, rfl, rfl, World.ownsRow_nil _ _ _ _, Below.refl _ _⟩
  · have h1 : ((s.size : Int) % 2 == 1) = false := by rw [hsz]; simp; omega
    have HE := Lib.hid ho
    clear hs hsz ho
    go_enter Tryz.func64, Tryz.ntmps64
    go_wp2
    go_loopw [4, 5] (fun v i wr => ∃ (k : Nat) (A : Option Addr) (m c : Nat) (acc : List UInt8), i = .int .i64 (k : Int) ∧ v = .slice A m c ∧ k ≤ s.size ∧ Hid (k % 2 = 0) ∧ Hid (acc.length = m) ∧ wr.ownsRow w.heap.size 5 1 (.slice A m c) m (bys acc) ∧ Below w.heap.size w wr ∧ Hid (unhexL l = (unhexL (l.drop k)).map (fun r => acc ++ r)) ∧ 2 * m ≤ k) (fun _ i _ => s.size - (intOf i).toNat)
    case atStart => exact ⟨0, none, 0, 0, [], rfl, rfl, Nat.zero_le _, rfl, rfl, World.ownsRow_nil _ _ _ _, Below.refl _ _, by unfold Hid; simp, by omega⟩
    case round =>
      obtain ⟨k, A, m, c, acc, rfl, rfl, hks, hke, hm, hown, hbr, hun, hmk⟩ := hrel
      by_cases hlt : k < s.size
      · have hlt2 : k + 1 < s.size := by have := HE.out; have := HZ.out; have := hke.out; omega
        have hl1 : (k : Int) + 1 < (s.size : Int) := by omega
        obtain ⟨a, ha⟩ : ∃ a, s[k] = a := ⟨_, rfl⟩
        obtain ⟨b, hb⟩ : ∃ b, s[k + 1] = b := ⟨_, rfl⟩
        have c1 := Tryz.strings_IndexByte ⟨#[48, 49, 50, 51, 52, 53, 54, 55, 56, 57, 97, 98, 99, 100, 101, 102]⟩ (a.toNat : Int)
        have c2 := Tryz.strings_IndexByte ⟨#[48, 49, 50, 51, 52, 53, 54, 55, 56, 57, 97, 98, 99, 100, 101, 102]⟩ (b.toNat : Int)
        have e1 : Lib.indexByte (⟨#[48, 49, 50, 51, 52, 53, 54, 55, 56, 57, 97, 98, 99, 100, 101, 102]⟩ : ByteArray).data.toList (a.toNat : Int).toNat.toUInt8 = unD a := by simp [unD]
        have e2 : Lib.indexByte (⟨#[48, 49, 50, 51, 52, 53, 54, 55, 56, 57, 97, 98, 99, 100, 101, 102]⟩ : ByteArray).data.toList (b.toNat : Int).toNat.toUInt8 = unD b := by simp [unD]
        rw [e1] at c1
        rw [e2] at c2
        have C1 := Lib.hid c1
        have C2 := Lib.hid c2
        clear c1 c2 e1 e2
        have hkm : k + 1 < 281474976710656 := by have := HZ.out; omega
        go_upto_region 7 with fail
        go_cut [6, 7] from 18 to 27 (fun v6 v7 wx => v6 = .int .i64 (unD a) ∧ v7 = .int .i64 (unD b) ∧ wx = wr.drew)
        case rest =>
          obtain ⟨rfl, rfl, rfl⟩ := hcut
          have hdr : l.drop k = a :: b :: l.drop (k + 2) := by
            have hs := HS.out
            subst hs
            have h1 : k < l.length := hlt
            have h2 : k + 1 < l.length := hlt2
            rw [List.drop_eq_getElem_cons h1, List.drop_eq_getElem_cons h2]
            rw [← ha, ← hb]
            rfl
          have hun2 := hun.out
          rw [hdr] at hun2
          rw [unhex_cons] at hun2
          have HU := Lib.hid hun2
          have hb2 : Below w.heap.size w wr.drew := hbr.drew
          have hown2 := World.ownsRow.drew hown
          clear hun2 hdr hun ha hb C1 C2
          have hra := unD_range a
          have hrb := unD_range b
          generalize unD a = da at *
          generalize unD b = db at *
          by_cases hda : da < 0
          · have hU := HU.out
            rw [if_pos (Or.inl hda)] at hU
            have HV := Lib.hid hU
            clear hU HU
            go_wp2
            go_ret2
            rw [show unhexL l = none by rw [HV.out]; rfl]
            exact ⟨none, 0, 0, rfl, rfl, World.ownsRow_nil _ _ _ _, hb2⟩
          by_cases hdb : db < 0
          · have hU := HU.out
            rw [if_pos (Or.inr hdb)] at hU
            have HV := Lib.hid hU
            clear hU HU
            go_wp2
            go_ret2
            rw [show unhexL l = none by rw [HV.out]; rfl]
            exact ⟨none, 0, 0, rfl, rfl, World.ownsRow_nil _ _ _ _, hb2⟩
          have hU := HU.out
          rw [if_neg (by omega)] at hU
          have HV := Lib.hid hU
          clear hU HU
          rcases hra with hra | hra
          · exact absurd hra hda
          rcases hrb with hrb | hrb
          · exact absurd hrb hdb
          obtain ⟨x, rfl⟩ := Int.eq_ofNat_of_zero_le hra.1
          obtain ⟨y, rfl⟩ := Int.eq_ofNat_of_zero_le hrb.1
          have hz := or_byte x y (by omega) (by omega)
          have HQ := Lib.hid hz
          clear hz
          have hkb : (k : Int) + 2 ≤ 281474976710657 := by have := HZ.out; omega
          generalize wr.drew = wd at *
          go_wp2_with (at_builtin; refine wpList_app slU8 rfl _ _ rfl w.heap.size A m c (bys acc) rfl (hown2.alloc _) (some ⟨wd.heap.size, 0, none⟩) 1 1 (bys [UInt8.ofNat (16 * x + y)]) rfl rfl (lit_rd8 wd _ _ HQ.out) (bys_one _) (by have := HZ.out; omega) (by have := hb2.size; simp; omega) ?_; intro A4 c4 w4 ho4 hg4 hA4)
          rw [bys_append] at ho4
          refine ⟨⟨k + 2, A4, m + 1, c4, acc ++ [UInt8.ofNat (16 * x + y)], rfl, rfl, by omega, by have := hke.out; unfold Hid; omega, by have := hm.out; unfold Hid; simp; omega, ho4, ?_, ?_, by omega⟩, by simp [intOf]; omega⟩
          · exact (hb2.alloc hb2.size _).grown hg4 (by have := hb2.size; simp; omega) (own_from hown2)
          · unfold Hid
            rw [HV.out]
            simp [Option.map_map]
            rfl
        refine region_plan (calmB_sound _) (.check [0, 1, 4, 5] 6 (.fork [6] (.leaf [7, 2, 3, 8, 9, 10]) (.fork [2] (.leaf [7, 3, 8, 9, 10]) (.leaf [3, 7, 8, 9, 10])))) (by kernel_rfl) (by kernel_rfl) (by kernel_rfl) ?_
        refine wpPlan_check fun PL0 hPL0 => ?_
        simp only [List.filterMap_cons, List.filterMap_nil, List.getElem?_toArray, List.getElem?_cons_succ, List.getElem?_cons_zero]
        change wpList _ _ _ [_, _, _, _] _ _
        go_wp2_with (first | (go_at_call 75; (with_reducible refine (C1.out _).mono ?_); rintro e w1 ⟨rfl, rfl⟩) | (go_at_call 75; (with_reducible refine (C2.out _).mono ?_); rintro e w1 ⟨rfl, rfl⟩))
        refine hPL0 _ _ (by first | exact fun _ => .inl ⟨_, _, _, _, rfl, rfl⟩ | exact fun _ => ⟨_, _, rfl⟩) ?_
        refine wpPlan_fork fun PL1 hPL1 => ?_
        simp only [List.filterMap_cons, List.filterMap_nil, List.getElem?_toArray, List.getElem?_cons_succ, List.getElem?_cons_zero]
        change wpList _ _ _ [_] _ _
        go_wp2_with (first | (go_at_call 75; (with_reducible refine (C1.out _).mono ?_); rintro e w1 ⟨rfl, rfl⟩) | (go_at_call 75; (with_reducible refine (C2.out _).mono ?_); rintro e w1 ⟨rfl, rfl⟩))
        refine hPL1 _ _ ?_ ?_
        · refine wpPlan_leaf fun PL2 hPL2 => ?_
          simp only [List.filterMap_cons, List.filterMap_nil, List.getElem?_toArray, List.getElem?_cons_succ, List.getElem?_cons_zero]
          change wpList _ _ _ [_, _, _, _, _, _] _ _
          go_wp2_with (first | (go_at_call 75; (with_reducible refine (C1.out _).mono ?_); rintro e w1 ⟨rfl, rfl⟩) | (go_at_call 75; (with_reducible refine (C2.out _).mono ?_); rintro e w1 ⟨rfl, rfl⟩))
          go_meet
          exact ⟨rfl, rfl, rfl⟩
        · refine wpPlan_fork fun PL2 hPL2 => ?_
          simp only [List.filterMap_cons, List.filterMap_nil, List.getElem?_toArray, List.getElem?_cons_succ, List.getElem?_cons_zero]
          change wpList _ _ _ [_] _ _
          go_wp2_with (first | (go_at_call 75; (with_reducible refine (C1.out _).mono ?_); rintro e w1 ⟨rfl, rfl⟩) | (go_at_call 75; (with_reducible refine (C2.out _).mono ?_); rintro e w1 ⟨rfl, rfl⟩))
          refine hPL2 _ _ ?_ ?_
          · refine wpPlan_leaf fun PL3 hPL3 => ?_
            simp only [List.filterMap_cons, List.filterMap_nil, List.getElem?_toArray, List.getElem?_cons_succ, List.getElem?_cons_zero]
            change wpList _ _ _ [_, _, _, _, _] _ _
            go_wp2_with (first | (go_at_call 75; (with_reducible refine (C1.out _).mono ?_); rintro e w1 ⟨rfl, rfl⟩) | (go_at_call 75; (with_reducible refine (C2.out _).mono ?_); rintro e w1 ⟨rfl, rfl⟩))
            go_meet
            exact ⟨rfl, rfl, rfl⟩
          · refine wpPlan_leaf fun PL3 hPL3 => ?_
            simp only [List.filterMap_cons, List.filterMap_nil, List.getElem?_toArray, List.getElem?_cons_succ, List.getElem?_cons_zero]
            change wpList _ _ _ [_, _, _, _, _] _ _
            go_wp2_with (first | (go_at_call 75; (with_reducible refine (C1.out _).mono ?_); rintro e w1 ⟨rfl, rfl⟩) | (go_at_call 75; (with_reducible refine (C2.out _).mono ?_); rintro e w1 ⟨rfl, rfl⟩))
            go_meet
            exact ⟨rfl, rfl, rfl⟩
      · obtain rfl : k = s.size := by omega
        go_wp2
        go_ret2
        have hd : l.drop s.size = [] := List.drop_eq_nil_of_le (by rw [HZ.out]; exact Nat.le_refl _)
        have hu := hun.out
        rw [hd] at hu
        have hu2 : unhexL l = some acc := by rw [hu]; simp [unhexL]
        rw [hu2]
        exact ⟨A, m, c, rfl, hm, hown, hbr⟩
end Go.Proofs.YtaghecgjmkhpcaaGreatDoor
