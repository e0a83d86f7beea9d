/-
at, count, ssrcs of package text.
-/
import Derived.Test.YtaghecgjmkhpcaaGreatDoorTx9
import Derived.Lib.AtoiErrMem
namespace Go.Proofs.YtaghecgjmkhpcaaGreatDoor
set_option linter.unusedVariables false
set_option linter.unusedSimpArgs false
open Go Go.RowKit

theorem slU32T : SliceT Tryz.prog 24 36 (.int .u32 0) 1 4 := sliceT_of Tryz.underlying24 (by kernel_rfl) rfl (by omega) (by omega)
theorem wd_get (l : List (List UInt8)) (i : Nat) (h : i < l.length) : wd l i = l[i] := by simp [wd, h]
theorem wd_out (l : List (List UInt8)) (i : Nat) (h : l.length ≤ i) : wd l i = [] := by simp [wd, h]
theorem rd_str {w : World} {A : Option Addr} {n c : Nat} {l : List (List UInt8)} (h : Row w A n c 1 16 (strs l)) {i : Nat} (hi : i < n) : ∃ ad, A = some ad ∧ w.cell? (ad.add i) = some (.string ⟨(wd l i).toArray⟩) := by
  have hl : l.length = n := by have := h.len; rw [strs_length] at this; omega
  obtain ⟨ad, h1, h2⟩ := h.rd i _ (strs_get l i _ (List.getElem?_eq_getElem (by omega)))
  exact ⟨ad, h1, by rw [wd_get l i (by omega)]; exact h2⟩
theorem at_any (A : Option Addr) (n c : Nat) (l : List (List UInt8)) (w : World) (h : Row w A n c 1 16 (strs l)) (i : Nat) (I : Int) (hI : I = i) (hi : i ≤ 1000) :
    Calls Tryz.prog 65 #[.slice A n c, .int .i64 I] w fun e w' => e = .returned (.string ⟨(wd l i).toArray⟩) ∧ w = w' := by
  have hl : l.length = n := by have := h.len; rw [strs_length] at this; omega
  have hnc := h.nc
  have hcm := h.cm
  unfold maxLen at hcm
  subst hI
  by_cases hlt : i < n
  · obtain ⟨ad, rfl, hc⟩ := rd_str h hlt
    obtain ⟨x, hx⟩ : ∃ x, wd l i = x := ⟨_, rfl⟩
    rw [hx] at hc ⊢
    clear hl h hx
    have e1 : decide (n ≤ i) = false := decide_eq_false (by omega)
    go_enter Tryz.func65, Tryz.ntmps65
    go_wp2
    go_ret
    exact ⟨rfl, rfl⟩
  · rw [wd_out l i (by omega)]
    clear hl h
    have e1 : decide (n ≤ i) = true := decide_eq_true (by omega)
    go_enter Tryz.func65, Tryz.ntmps65
    go_wp2
    go_ret
    exact ⟨rfl, rfl⟩
theorem atoi_decF : ∀ m : Fin 1000, Lib.atoiAll (decL m.val) = .ok (m.val : Int) := by decide +kernel
theorem atoi_dec (m : Nat) (h : m ≤ 999) : Lib.atoiAll (decL m) = .ok (m : Int) := atoi_decF ⟨m, by omega⟩
theorem count_any (s : List UInt8) (w : World) (hl : s.length ≤ 281474976710656) (hT : LaidT w) :
    Calls Tryz.prog 66 #[.string ⟨s.toArray⟩] w fun e w' => ∃ n : Int, e = .returned (.int .i64 n) ∧ Hid (∀ m : Nat, m ≤ 999 → s = decL m → n = m) ∧ Below w.heap.size w w' := by
  have hsz : (⟨s.toArray⟩ : ByteArray).size = s.length := rfl
  obtain ⟨sv, hsv⟩ : ∃ x : ByteArray, ⟨s.toArray⟩ = x := ⟨_, rfl⟩
  have hd : sv.data.toList = s := by subst hsv; rfl
  rw [hsv] at hsz ⊢
  cases ha : Lib.atoiAll s with
  | ok v =>
    have c := Tryz.strconv_Atoi_ok sv (by omega) v (by rw [hd]; exact ha) w
    have C := Lib.hid c
    have HA := Lib.hid ha
    clear c ha hd hsv
    go_enter Tryz.func66, Tryz.ntmps66
    go_wp2_with (go_at_call 76; refine (C.out).mono ?_; rintro e w1 ⟨rfl, hw1⟩)
    go_ret
    refine ⟨v, rfl, Lib.hid ?_, ?_⟩
    · intro m hm e
      have := HA.out
      rw [e, atoi_dec m hm] at this
      injection this with this
      exact this.symm
    · rcases hw1 with rfl | ⟨t, rfl⟩
      · exact Below.refl _ _
      · exact Lib.bytesWorld_below _ _ _
  | «syntax» =>
    obtain ⟨ev, hev, hev2⟩ := hT.es
    have c := Tryz.strconv_Atoi_syntax sv (by omega) (by rw [hd]; exact ha) ev w hev hev2
    have C := Lib.hid c
    have HA := Lib.hid ha
    clear c ha hd hsv hev hev2
    go_enter Tryz.func66, Tryz.ntmps66
    go_wp2_with (go_at_call 76; refine (C.out).mono ?_; rintro e w1 ⟨N, rfl, hN, hb, hw1⟩)
    go_ret
    refine ⟨_, rfl, Lib.hid ?_, hw1⟩
    intro m hm e
    have := HA.out
    rw [e, atoi_dec m hm] at this
    cases this
  | range =>
    obtain ⟨ev, hev, hev2⟩ := hT.er
    have c := Tryz.strconv_Atoi_range sv (by omega) (by rw [hd]; exact ha) ev w hev hev2
    have C := Lib.hid c
    have HA := Lib.hid ha
    clear c ha hd hsv hev hev2
    go_enter Tryz.func66, Tryz.ntmps66
    go_wp2_with (go_at_call 76; refine (C.out).mono ?_; rintro e w1 ⟨N, rfl, hN, hb, hw1⟩)
    go_ret
    refine ⟨_, rfl, Lib.hid ?_, hw1⟩
    intro m hm e
    have := HA.out
    rw [e, atoi_dec m hm] at this
    cases this
theorem getN4_enc (q : Nat) (h : q < 4294967296) : getN (enc 4 q) 0 4 = q := by
  have hw : withinB (enc 4 q).length 0 4 = true := by rw [enc_length]; decide
  unfold getN
  rw [enc_length] at hw ⊢
  rw [if_pos hw]
  have e : part (enc 4 q) (0 : Int).toNat (4 : Int).toNat = enc 4 q := by
    unfold part
    rw [show (0 : Int).toNat = 0 from rfl, show (4 : Int).toNat = 4 from rfl, List.drop_zero, List.take_of_length_le (by rw [enc_length]; exact Nat.le_refl _)]
  rw [e, beN_enc 4 q (by simpa using h)]
set_option maxRecDepth 20000 in
set_option maxHeartbeats 1000000 in
/-- The SSRCs of words: of words that are SSRCs these. -/
theorem ssrcs_any (A : Option Addr) (n c : Nat) (l : List (List UInt8)) (w : World) (h : Row w A n c 1 16 (strs l)) (hlen : ∀ x ∈ l, x.length ≤ 281474976710656) (hn : n ≤ 1000000) :
    Calls Tryz.prog 67 #[.slice A n c] w fun e w' => ∃ (ss : List Nat) (B : Option Addr) (m d : Nat), e = .returned (.slice B m d) ∧ w'.ownsRow w.heap.size 36 1 (.slice B m d) m (u32s ss) ∧ (∀ x ∈ ss, x < 4294967296) ∧
      Hid (∀ qs : List Nat, (∀ x ∈ qs, x < 4294967296) → l = qs.map (fun x => hexL (enc 4 x)) → ss = qs) ∧ Below w.heap.size w w' := by
  have HR := Lib.hid h
  have hl : l.length = n := by have := h.len; rw [strs_length] at this; omega
  have HL := Lib.hid hl
  have HN := Lib.hid hlen
  have hnc := h.nc
  have hcm := h.cm
  unfold maxLen at hcm
  clear h hl hlen
  go_enter Tryz.func67, Tryz.ntmps67
  go_wp2
  go_loopw [3, 12] (fun v3 i wr => ∃ (j m d : Nat) (B : Option Addr) (ss : List Nat), i = .int .i64 j ∧ j ≤ n ∧ v3 = .slice B m d ∧ m = j ∧ wr.ownsRow w.heap.size 36 1 (.slice B m d) m (u32s ss) ∧ Hid (∀ x ∈ ss, x < 4294967296) ∧
      Hid (∀ qs : List Nat, (∀ x ∈ qs, x < 4294967296) → l = qs.map (fun x => hexL (enc 4 x)) → ss = qs.take j) ∧ Below w.heap.size w wr) (fun _ i _ => n - (intOf i).toNat)
  case atStart => exact ⟨0, 0, 0, none, [], rfl, Nat.zero_le _, rfl, rfl, World.ownsRow_nil _ _ _ _, Lib.hid (by simp), Lib.hid (fun qs _ _ => by simp), Below.refl _ _⟩
  case round =>
    obtain ⟨j, m, d, B, ss, rfl, hjn, rfl, rfl, ho, HX, HQ, hbr⟩ := hrel
    have HO := Lib.hid ho
    clear ho
    by_cases hlt : m < n
    · obtain ⟨ad, rfl, hc⟩ := rd_str (HR.out.below hbr) hlt
      have hj : m < l.length := by rw [HL.out]; exact hlt
      obtain ⟨x, hx⟩ : ∃ x, wd l m = x := ⟨_, rfl⟩
      rw [hx] at hc
      have hxl : x.length ≤ 281474976710656 := by rw [← hx, wd_get l m hj]; exact HN.out _ (List.getElem_mem hj)
      have HXW := Lib.hid hx
      have HRD := Lib.hid (hexr_any x)
      clear hx
      obtain ⟨b, hb⟩ : ∃ b, (unhexL x).getD [] = b := ⟨_, rfl⟩
      have HBB := Lib.hid hb
      have hbl : b.length ≤ x.length := by
        rw [← hb]
        clear hb HBB HXW
        have key : ∀ (k : Nat) (x : List UInt8), x.length ≤ k → ((unhexL x).getD []).length ≤ x.length := by
          intro k
          induction k with
          | zero =>
            intro x hx
            obtain rfl : x = [] := List.eq_nil_of_length_eq_zero (by omega)
            simp [unhexL]
          | succ k ih =>
            intro x hx
            match x with
            | [] => simp [unhexL]
            | [a] => simp [unhexL]
            | a :: b :: t =>
              rw [unhexL]
              split
              · simp
              · have := ih t (by simp at hx; omega)
                cases hu : unhexL t with
                | none => simp
                | some r =>
                  rw [hu] at this
                  simp at this ⊢
                  omega
        exact key x.length x (Nat.le_refl _)
      clear hb
      cases hwi : withinB b.length 0 4 with
      | false =>
        have HW := Lib.hid hwi
        clear hwi
        go_wp2_with (first
          | (go_at_call 64; (with_reducible refine (HRD.out _ hxl).mono ?_); rintro e w2 ⟨D, k, dc, rfl, HK, ho2, hb2⟩; rw [HBB.out] at ho2; have HKB : Hid (b.length = k) := Lib.hid (by have := HK.out; rw [HBB.out] at this; exact this); have HWK := Lib.hid (show withinB k 0 4 = false from (by rw [← HKB.out]; exact HW.out)); have HR2 := Lib.hid (own_rowT 1 ho2))
          | (go_at_call 77; (with_reducible refine (get_any D k dc b 0 4 _ HKB.out HR2.out.nc HR2.out.cm HR2.out.rd (by omega) (by omega)).mono ?_); rintro e w3 ⟨rfl, rfl⟩; rw [HWK.out]))
        go_ret
        refine ⟨[], none, 0, 0, rfl, World.ownsRow_nil _ _ _ _, by simp, Lib.hid ?_, hbr.trans (hb2.mono hbr.size)⟩
        intro qs hq e
        exfalso
        have hjq : m < qs.length := by have := congrArg List.length e; rw [List.length_map] at this; omega
        have e2 : x = hexL (enc 4 qs[m]) := by rw [← HXW.out, wd_get l m hj]; simp [e]
        have e3 : b = enc 4 qs[m] := by rw [← HBB.out, e2, unhex_hex]; rfl
        have := HW.out
        rw [e3, enc_length] at this
        cases this
      | true =>
        have HW := Lib.hid hwi
        have h4 : 4 ≤ b.length := by have := withinB_iff.1 hwi; omega
        clear hwi
        obtain ⟨v, hv⟩ : ∃ v, getN b 0 4 = v := ⟨_, rfl⟩
        have hv4 : v < 4294967296 := by
          rw [← hv]
          unfold getN
          split
          · have := beN_lt (part b (0 : Int).toNat (4 : Int).toNat)
            rw [part_length (by simp; omega)] at this
            simpa using this
          · decide
        have HV := Lib.hid hv
        clear hv
        go_wp2_with (first
          | (go_at_call 64; (with_reducible refine (HRD.out _ hxl).mono ?_); rintro e w2 ⟨D, k, dc, rfl, HK, ho2, hb2⟩; rw [HBB.out] at ho2; have HKB : Hid (b.length = k) := Lib.hid (by have := HK.out; rw [HBB.out] at this; exact this); have HWK := Lib.hid (show withinB k 0 4 = true from (by rw [← HKB.out]; exact HW.out)); have HR2 := Lib.hid (own_rowT 1 ho2); have HO2 := Lib.hid (HO.out.kept (own_below hb2) (own_none _)); have hbr2 := hbr.trans (hb2.mono hbr.size))
          | (go_at_call 77; (with_reducible refine (get_any D k dc b 0 4 _ HKB.out HR2.out.nc HR2.out.cm HR2.out.rd (by omega) (by omega)).mono ?_); rintro e w3 ⟨rfl, rfl⟩; rw [HWK.out, HV.out])
          | (at_builtin; (refine wpList_app slU32T rfl _ _ rfl w.heap.size B m d (u32s ss) rfl (HO2.out.alloc _) (some ⟨w2.heap.size, 0, none⟩) 1 1 (u32s [v]) rfl rfl (Rd.own (World.ownsRow_lit (base := 0) (e := 36) (size := 1) w2 #[.int .u32 (v : Int)] 1 (Nat.zero_le _) (by unfold maxLen; omega) rfl)) (fun u hu => by rw [List.mem_singleton.1 hu]; rfl) (by omega) (by have := hbr2.size; simp; omega) ?_); intro B3 d3 w3 ho3 hg3 hB3))
        refine ⟨⟨m + 1, m + 1, d3, B3, ss ++ [v], rfl, by omega, rfl, rfl, ?_, ?_, ?_, ?_⟩, by simp [intOf]; omega⟩
        · have e : u32s (ss ++ [v]) = u32s ss ++ u32s [v] := by simp [u32s]
          rw [e]
          exact ho3
        · refine Lib.hid ?_
          intro y hy
          rcases List.mem_append.1 hy with hy | hy
          · exact HX.out y hy
          · rw [List.mem_singleton.1 hy]; exact hv4
        · refine Lib.hid ?_
          intro qs hq e
          have hjq : m < qs.length := by have := congrArg List.length e; rw [List.length_map] at this; omega
          have e2 : x = hexL (enc 4 qs[m]) := by rw [← HXW.out, wd_get l m hj]; simp [e]
          have e3 : b = enc 4 qs[m] := by rw [← HBB.out, e2, unhex_hex]; rfl
          have e4 : v = qs[m] := by rw [← HV.out, e3, getN4_enc _ (hq _ (List.getElem_mem hjq))]
          rw [List.take_succ_eq_append_getElem hjq, HQ.out qs hq e, e4]
        · exact (hbr2.alloc hbr2.size _).grown hg3 (by have := hbr2.size; simp; omega) (fun k hk => own_from HO2.out k hk)
    · obtain rfl : m = n := by omega
      go_wp2
      go_ret
      refine ⟨ss, B, m, d, rfl, HO.out, HX.out, Lib.hid ?_, hbr⟩
      intro qs hq e
      rw [HQ.out qs hq e]
      refine List.take_of_length_le ?_
      have := congrArg List.length e
      rw [List.length_map] at this
      have := HL.out
      omega
end Go.Proofs.YtaghecgjmkhpcaaGreatDoor
