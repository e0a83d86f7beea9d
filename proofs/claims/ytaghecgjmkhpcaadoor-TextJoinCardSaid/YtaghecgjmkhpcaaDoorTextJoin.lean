/-
TextJoin: scripts one behind the other have their texts one behind the other; a wrong line behind a script is told with its number. For every pair of scripts and every text.
-/
import Derived.Test.YtaghecgjmkhpcaaDoorTxH
import Derived.Test.YtaghecgjmkhpcaaDoorTxFr
import Derived.Test.YtaghecgjmkhpcaaDoorCards
import Derived.Test.YtaghecgjmkhpcaaDoorTie
import Derived.SevenTiedAt
namespace Go.Proofs.YtaghecgjmkhpcaaDoor
set_option linter.unusedVariables false
set_option linter.unusedSimpArgs false
open Go Go.RowKit

namespace textJoin
theorem rowO_take (xs : List Sp) (k : Nat) : (rowO xs).take (k * 7) = rowO (xs.take k) := by
  induction xs generalizing k with
  | nil => simp [rowO]
  | cons b l ih =>
    rcases k with _ | k
    · simp [rowO]
    · rw [List.take_succ_cons, rowO, List.flatMap_cons, ← rowO, show (k + 1) * 7 = (spC b).length + k * 7 by simp [spC]; omega, List.take_length_add_append, ih k]
      rfl
theorem ops_take {w : World} {A : Option Addr} {n c m : Nat} {xs : List Sp} (h : Ops w A n c xs) (hm : m ≤ n) : Ops w A m c (xs.take m) :=
  ⟨by rw [List.length_take, h.len]; omega, Nat.le_trans hm h.nc, h.cm, by rw [← rowO_take]; exact h.rd.take _, fun x hx => h.rows x (List.mem_of_mem_take hx)⟩
theorem print_short {l : List Opx} (hn : l.length ≤ 100) : (printL l).length ≤ 110100 := by
  by_cases hp : printL l = []
  · rw [hp]; simp
  · have h1 := print_all hp
    rw [print_yes h1.1 h1.2]
    have := lines_len _ h1.2
    omega
theorem parse_num : ∀ (ls : List (List UInt8)) (acc : List Opx), acc.length ≤ 256 → 0 ≤ (parseA acc ls).2.1 ∧ (parseA acc ls).2.1 ≤ 257
  | [], acc, h => by rw [parseA]; exact ⟨by dsimp only; omega, by dsimp only; omega⟩
  | [x], acc, h => by
    rw [parseA]
    split
    · exact ⟨by dsimp only; omega, by dsimp only; omega⟩
    · split
      · exact ⟨by dsimp only; omega, by dsimp only; omega⟩
      · exact ⟨by dsimp only; omega, by dsimp only; omega⟩
  | x :: y :: r, acc, h => by
    rw [parseA]
    split
    · exact ⟨by dsimp only; omega, by dsimp only; omega⟩
    · split
      · exact parse_num (y :: r) _ (by rw [List.length_append, List.length_singleton]; omega)
      · exact ⟨by dsimp only; omega, by dsimp only; omega⟩
theorem text_num (s : List UInt8) : 0 ≤ (textL s).2.1 ∧ (textL s).2.1 ≤ 257 := by
  unfold textL
  split
  · exact ⟨by dsimp only; omega, by dsimp only; omega⟩
  · exact parse_num _ _ (by simp)
theorem opsJoined {w0 w' : World} {base n c m d c2 : Nat} {A B A2 : Option Addr} {xs ys : List Sp} (hx : Ops w0 A n c xs) (hy : Ops w0 B m d ys) (hb : Below w0.heap.size w0 w')
    (ho : w'.ownsRow base 28 7 (.slice A2 (n + m) c2) (n + m) (rowO xs ++ rowO ys)) : Ops w' A2 (n + m) c2 (xs ++ ys) := by
  refine ⟨by rw [List.length_append, hx.len, hy.len], (own_cap ho).1, (own_cap ho).2, ?_, fun x h => ?_⟩
  · rw [← rowO_append]
    exact (own_rowT 96 ho).rd
  · rcases List.mem_append.1 h with h | h
    · exact (hx.rows x h).below hb
    · exact (hy.rows x h).below hb
set_option maxRecDepth 20000 in
set_option maxHeartbeats 2000000 in
theorem textJoin_walk (A : Option Addr) (n c : Nat) (xs : List Sp) (B : Option Addr) (n' c' : Nat) (ys : List Sp) (bd : ByteArray) (w : World) (hx : Ops w A n c xs) (hb : n * 96 ≤ 140737488351232) (hA : A = none → n = 0 ∧ c = 0)
    (hy : Ops w B n' c' ys) (hb' : n' * 96 ≤ 140737488351232) (hB : B = none → n' = 0 ∧ c' = 0) (hs : bd.size ≤ 140737488351232) (hT : LaidT w) :
    Calls Tryd.prog 5 #[.slice A n c, .slice B n' c', .string bd] w fun e w' => e = .returned (.bool true) ∧ Below w.heap.size w w' := by
  obtain ⟨m, hm⟩ : ∃ m : Nat, m = min n 100 := ⟨_, rfl⟩
  obtain ⟨k, hk⟩ : ∃ k : Nat, k = min n' 100 := ⟨_, rfl⟩
  have hmn : m ≤ n := by omega
  have hm1 : m ≤ 100 := by omega
  have hkn : k ≤ n' := by omega
  have hk1 : k ≤ 100 := by omega
  have hmin : ∀ wz : World, (Builtin.min_ #[3, 3] 3 #[.int .i64 (n : Int), .int .i64 100]).run Tryd.prog wz = .ok (.int .i64 (m : Int)) wz := fun wz => by
    rw [hm]
    simp [Builtin.min_, Builtin.min2]
    split <;> omega
  have hmin' : ∀ wz : World, (Builtin.min_ #[3, 3] 3 #[.int .i64 (n' : Int), .int .i64 100]).run Tryd.prog wz = .ok (.int .i64 (k : Int)) wz := fun wz => by
    rw [hk]
    simp [Builtin.min_, Builtin.min2]
    split <;> omega
  have HX := Lib.hid (ops_take hx hmn)
  have HY := Lib.hid (ops_take hy hkn)
  have HT := Lib.hid hT
  have hnc := hx.nc
  have hcm := hx.cm
  have hnc' := hy.nc
  have hcm' := hy.cm
  unfold maxLen at hcm hcm'
  have hmc : m ≤ c := by omega
  have hkc : k ≤ c' := by omega
  obtain ⟨P, hP⟩ : ∃ P, printL (opl (xs.take m)) = P := ⟨_, rfl⟩
  obtain ⟨Q, hQ⟩ : ∃ Q, printL (opl (ys.take k)) = Q := ⟨_, rfl⟩
  have lx : (opl (xs.take m)).length = m := by rw [opl_length, List.length_take, hx.len]; omega
  have ly : (opl (ys.take k)).length = k := by rw [opl_length, List.length_take, hy.len]; omega
  have hPl : P.length ≤ 110100 := by rw [← hP]; exact print_short (by rw [lx]; exact hm1)
  have hQl : Q.length ≤ 110100 := by rw [← hQ]; exact print_short (by rw [ly]; exact hk1)
  have hSok := (ops_take hx hmn).sok
  obtain ⟨bl, hbl⟩ : ∃ l : List UInt8, ⟨l.toArray⟩ = bd := ⟨bd.data.toList, by simp⟩
  have hbll : bl.length ≤ 140737488351232 := by rw [← hbl] at hs; exact hs
  have hjoin : (m = 0 ∨ P ≠ []) → (k = 0 ∨ Q ≠ []) → printL (opl (xs.take m ++ ys.take k)) = P ++ Q := fun h1 h2 => by
    have e : opl (xs.take m ++ ys.take k) = opl (xs.take m) ++ opl (ys.take k) := by simp [opl]
    rw [e, print_app (by omega) (by omega) (h1.imp (fun h => List.eq_nil_of_length_eq_zero (by omega)) (fun h => by rw [hP]; exact h)) (h2.imp (fun h => List.eq_nil_of_length_eq_zero (by omega)) (fun h => by rw [hQ]; exact h)), hP, hQ]
  obtain ⟨O, N, E, ht⟩ : ∃ O N E, textL bl = (O, N, E) := ⟨_, _, _, rfl⟩
  have hNb : 0 ≤ N ∧ N ≤ 257 := by have := text_num bl; rw [ht] at this; exact this
  obtain ⟨O', N', E', ht'⟩ : ∃ O N E, textL (P ++ bl) = (O, N, E) := ⟨_, _, _, rfl⟩
  have htj : (m = 0 ∨ P ≠ []) → E ≠ 0 → E ≠ 5 → E' ≠ 5 → E' ≠ 3 → E' = E ∧ N' = N + m := fun h1 e0 e5 f5 f3 => by
    have := text_join (a := opl (xs.take m)) (bad := bl) (by omega) (h1.imp (fun h => List.eq_nil_of_length_eq_zero (by omega)) (fun h => by rw [hP]; exact h)) hSok (by rw [ht]; exact e0) (by rw [ht]; exact e5) (by rw [hP, ht']; exact f5) (by rw [hP, ht']; exact f3)
    rw [hP, ht', ht, lx] at this
    exact this
  have C1 := Lib.hid (fun w hT => parse_o bl w (by omega) hT O N E ht)
  have C2 := Lib.hid (fun w hT => parse_o (P ++ bl) w (by rw [List.length_append]; omega) hT O' N' E' ht')
  have hadd : ∀ wz : World, (Op.stringOp .add ⟨P.toArray⟩ ⟨Q.toArray⟩).run Tryd.prog wz = .ok (.string ⟨(P ++ Q).toArray⟩) wz := fun wz => by
    rw [run_string_add_sum wz _ _ (by show P.length + Q.length ≤ _; omega), ByteArray.mk_append_mk]
  have hadd' : ∀ wz : World, (Op.stringOp .add ⟨P.toArray⟩ ⟨bl.toArray⟩).run Tryd.prog wz = .ok (.string ⟨(P ++ bl).toArray⟩) wz := fun wz => by
    rw [run_string_add_sum wz _ _ (by show P.length + bl.length ≤ _; omega), ByteArray.mk_append_mk]
  have lxx : (xs.take m).length = m := by rw [← opl_length]; exact lx
  have lyy : (ys.take k).length = k := by rw [← opl_length]; exact ly
  obtain ⟨U, hU⟩ : ∃ U, P ++ Q = U := ⟨_, rfl⟩
  obtain ⟨V, hV⟩ : ∃ V, P ++ bl = V := ⟨_, rfl⟩
  rw [hU] at hjoin
  rw [hV] at C2
  simp only [hU] at hadd
  simp only [hV] at hadd'
  have HJ := Lib.hid hjoin
  have HTJ := Lib.hid htj
  have HP := Lib.hid hP
  have HQ := Lib.hid hQ
  have HLX := Lib.hid lxx
  have HLY := Lib.hid lyy
  subst hbl
  clear hx hy hT hA hB hm hk hP hQ lx ly hSok hjoin ht ht' htj lxx lyy hU hV
  go_enter Tryd.func5, Tryd.ntmps5
  go_upto_region 3 with (go_at_call 8; (with_reducible refine (shown_any _ HT.out).mono ?_); rintro e w1 ⟨rfl, hb1⟩)
  go_cut [0, 1] from 17 to 26 (fun v0 v1 wx => v0 = .slice A m c ∧ v1 = .slice B k c' ∧ Below w.heap.size w wx)
  case rest =>
    obtain ⟨rfl, rfl, hb2⟩ := hcut
    rename_i wx
    go_upto_region 5 with (first
      | (go_at_call 9; (with_reducible refine (print_any A m c (xs.take m) _ (HX.out.below hb2) (HT.out.below hb2)).mono ?_); rintro e w3 ⟨rfl, hb3⟩; rw [HP.out]; have B3 := below_nextT hb2 hb3)
      | (go_at_call 9; (with_reducible refine (print_any B k c' (ys.take k) _ (HY.out.below B3) (HT.out.below B3)).mono ?_); rintro e w4 ⟨rfl, hb4⟩; rw [HQ.out]; have B4 := below_nextT B3 hb4))
    go_cut [46] from 31 to 46 (fun v46 wx => v46 = .bool ((decide (0 < m) && P.isEmpty) || (decide (0 < k) && Q.isEmpty)) ∧ wx = w4)
    case rest =>
      obtain ⟨rfl, rfl⟩ := hcut
      cases hBB : ((decide (0 < m) && P.isEmpty) || (decide (0 < k) && Q.isEmpty)) with
      | true =>
        clear hBB
        go_wp2
        go_ret
        exact ⟨rfl, B4⟩
      | false =>
        have hm0 : m = 0 ∨ P ≠ [] := by
          rcases Nat.eq_zero_or_pos m with h | h
          · exact .inl h
          · refine .inr fun e => ?_
            rw [e] at hBB
            simp [h] at hBB
        have hk0 : k = 0 ∨ Q ≠ [] := by
          rcases Nat.eq_zero_or_pos k with h | h
          · exact .inl h
          · refine .inr fun e => ?_
            rw [e] at hBB
            simp [h] at hBB
        have HJ2 := Lib.hid (HJ.out hm0 hk0)
        have HTJ2 := Lib.hid (HTJ.out hm0)
        clear hBB hm0 hk0 HJ HTJ
        go_upto_region 11 with (first
          | (at_builtin; (refine wpList_app slOp rfl _ _ rfl w.heap.size none 0 0 [] rfl (World.ownsRow_nil _ _ _ _) A m c (rowO (xs.take m)) rfl (by rw [rowO_length, HLX.out]) (HX.out.below B4).rd (rowO_one _) (by omega) B4.size ?_); intro A2 c2 w5 ho5 hg5 hA5; rw [Nat.zero_add, List.nil_append] at ho5; rw [Nat.zero_add]; have HO5 := Lib.hid ho5; have HF5 := Lib.hid (own_from ho5); have B5 := B4.grown hg5 B4.size (fun q hq => by cases hq); clear ho5 hg5 hA5)
          | (at_builtin; ((refine wpList_app slOp rfl _ _ rfl w.heap.size A2 m c2 (rowO (xs.take m)) rfl HO5.out B k c' (rowO (ys.take k)) rfl (by rw [rowO_length, HLY.out]) (HY.out.below B5).rd (rowO_one _) (by omega) B5.size ?_); intro A3 c3 w6 ho6 hg6 hA6; have B6 := B5.grown hg6 B5.size HF5.out; have HO6 := Lib.hid (opsJoined HX.out HY.out B6 ho6); clear ho6 hg6 hA6))
          | (go_at_call 9; (with_reducible refine (print_any A3 (m + k) c3 (xs.take m ++ ys.take k) _ HO6.out (HT.out.below B6)).mono ?_); rintro e w7 ⟨rfl, hb7⟩; rw [HJ2.out]; have B7 := below_nextT B6 hb7)
          | (go_at_call 11; (with_reducible refine (C1.out _ (HT.out.below B7)).mono ?_); rintro e w8 ⟨G1, p1, q1, zs1, rfl, h81, h82, hb8⟩; have B8 := below_nextT B7 hb8; clear h81 h82)
          | (go_at_call 11; (with_reducible refine (C2.out _ (HT.out.below B8)).mono ?_); rintro e w9 ⟨G2, p2, q2, zs2, rfl, h91, h92, hb9⟩; have B9 := below_nextT B8 hb9; clear h91 h92))
        by_cases a0 : E = 0
        · have d0 : (E == 0) = true := by rw [a0]; rfl
          have f0 : decide (E = 0) = true := decide_eq_true a0
          clear a0 HTJ2
          go_wp2
          go_ret
          exact ⟨rfl, B9⟩
        have d0 : (E == 0) = false := by simpa using a0
        have f0 : decide (E = 0) = false := decide_eq_false a0
        by_cases a1 : E = 5
        · have d1 : (E == 5) = true := by rw [a1]; rfl
          have f1 : decide (E = 5) = true := decide_eq_true a1
          clear a0 a1 HTJ2
          go_wp2
          go_ret
          exact ⟨rfl, B9⟩
        have d1 : (E == 5) = false := by simpa using a1
        have f1 : decide (E = 5) = false := decide_eq_false a1
        by_cases a2 : E' = 5
        · have d2 : (E' == 5) = true := by rw [a2]; rfl
          have f2 : decide (E' = 5) = true := decide_eq_true a2
          clear a0 a1 a2 HTJ2
          go_wp2
          go_ret
          exact ⟨rfl, B9⟩
        have d2 : (E' == 5) = false := by simpa using a2
        have f2 : decide (E' = 5) = false := decide_eq_false a2
        by_cases a3 : E' = 3
        · have d3 : (E' == 3) = true := by rw [a3]; rfl
          have f3 : decide (E' = 3) = true := decide_eq_true a3
          clear a0 a1 a2 a3 HTJ2
          go_wp2
          go_ret
          exact ⟨rfl, B9⟩
        have d3 : (E' == 3) = false := by simpa using a3
        have f3 : decide (E' = 3) = false := decide_eq_false a3
        by_cases a4 : E = 3
        · have d4 : (E == 3) = true := by rw [a4]; rfl
          have f4 : decide (E = 3) = true := decide_eq_true a4
          clear a0 a1 a2 a3 a4 HTJ2
          go_wp2
          go_ret
          exact ⟨rfl, B9⟩
        have d4 : (E == 3) = false := by simpa using a4
        have f4 : decide (E = 3) = false := decide_eq_false a4
        obtain ⟨rfl, rfl⟩ := HTJ2.out a0 a1 a2 a3
        clear a0 a1 a2 a3 a4 HTJ2
        go_wp2
        go_ret
        exact ⟨rfl, B9⟩
    have hin : ∀ (R : List UInt8), (R.isEmpty = true ∧ R = []) ∨ (R.isEmpty = false ∧ R ≠ []) := fun R => by
      cases R with
      | nil => exact .inl ⟨rfl, rfl⟩
      | cons a l => exact .inr ⟨rfl, by simp⟩
    have hmm : (m = 0) ∨ (decide (0 < m) = true ∧ decide ((0 : Int) < (m : Int)) = true) := by
      rcases Nat.eq_zero_or_pos m with h | h
      · exact .inl h
      · exact .inr ⟨decide_eq_true h, decide_eq_true (by omega)⟩
    have hkk : (k = 0) ∨ (decide (0 < k) = true ∧ decide ((0 : Int) < (k : Int)) = true) := by
      rcases Nat.eq_zero_or_pos k with h | h
      · exact .inl h
      · exact .inr ⟨decide_eq_true h, decide_eq_true (by omega)⟩
    have HB4 := Lib.hid B4
    clear C1 C2 HJ HTJ HP HQ HX HY HLX HLY hadd hadd' hmin hmin' B3 hb3 hb4 B4
    rcases hmm with rfl | ⟨hm1, hm2⟩ <;> rcases hkk with rfl | ⟨hk1, hk2⟩ <;> rcases hin P with ⟨p1, p2⟩ | ⟨p1, p2⟩ <;> rcases hin Q with ⟨q1, q2⟩ | ⟨q1, q2⟩
    all_goals (have p3 := Lib.hid p2; have q3 := Lib.hid q2; clear p2 q2)
    all_goals go_wp2
    all_goals go_meet
    all_goals (refine ⟨congrArg Value.bool ?_, rfl⟩; first | simp [p1, q1, hm1, hk1] | simp [p1, q1])
  refine region_plan (calmB_sound _) (.fork [0, 1, 2, 5, 6, 7] (.leaf [8, 9, 3, 4, 10, 11]) (.leaf [3, 4, 10, 8, 9, 11])) (by kernel_rfl) (by kernel_rfl) (by kernel_rfl) ?_
  refine wpPlan_fork fun PL0 hPL0 => ?_
  simp only [List.filterMap_cons, List.filterMap_nil, List.getElem?_toArray, List.getElem?_cons_succ, List.getElem?_cons_zero]
  change wpList _ _ _ [_, _, _, _, _, _] _ _
  go_wp2_with (fail)
  refine hPL0 _ _ ?_ ?_
  · refine wpPlan_leaf fun PL1 hPL1 => ?_
    simp only [List.filterMap_cons, List.filterMap_nil, List.getElem?_toArray, List.getElem?_cons_succ, List.getElem?_cons_zero]
    change wpList _ _ _ [_, _, _, _, _, _] _ _
    go_wp2_with (fail)
    go_meet
    exact ⟨rfl, rfl, below_drewT hb1 1⟩
  · refine wpPlan_leaf fun PL1 hPL1 => ?_
    simp only [List.filterMap_cons, List.filterMap_nil, List.getElem?_toArray, List.getElem?_cons_succ, List.getElem?_cons_zero]
    change wpList _ _ _ [_, _, _, _, _, _] _ _
    go_wp2_with (fail)
    go_meet
    exact ⟨rfl, rfl, below_drewT hb1 1⟩
end textJoin
namespace textJoin
open Go.ChangeShapes Go.WideShapes Go.ChangeAt Go.RowKit
open Go.ChangeMaps (open_string shut_string)
set_option linter.unusedVariables false

theorem own : ownKnob Tryd.prog.godebug = none := by kernel_rfl
theorem laidOut : laidOutB Tryd.prog = true := by kernel_rfl

set_option maxRecDepth 100000 in
set_option maxHeartbeats 2000000 in
theorem lifted (os : Os) (started : os.Started) (H : Type) (enc : TypeId × Value → H) :
    ReturnsInHanded {} Tryd.checked os 5 .any (fun w args => (Rows.textJoinSpec.pre enc Tryd.prog Tryd.f5 Rows.textJoinRow.domain false w args ∧ laidMetH Tryd.prog laidL w) ∧ sizedMet enc Tryd.prog Tryd.f5 (OpenSpec.ofChange Rows.textJoinSpec) false w args) (Rows.textJoinSpec.post enc Tryd.prog Tryd.f5 false true false false) := by
  refine returnsInHanded_of_row (C := Tryd.checked) (s := OpenSpec.ofChange Rows.textJoinSpec) (F := fun _ _ _ => 0) own started (by kernel_rfl) Tryd.func5
    (ChangeSpec.witness_shaped (enc := enc) (C := Tryd.checked) (os := os) (X := fun w _ => laidMetH Tryd.prog laidL w) false (World.laidAll Tryd.prog os laidL) #[.slice none 0 0, .slice none 0 0, .string .empty] 8 (World.laidAll_os _ _ _)
      (World.shaped_of_ZipB (by kernel_rfl) (by kernel_rfl)) (by kernel_rfl) (by kernel_rfl) (by kernel_rfl)
      (by rw [MakeChecks.laidMetH_plain _ _ _ (by kernel_rfl)]; exact laidMet_laidAll _ (by kernel_rfl) (by kernel_rfl))) ?_
  intro W base args ds gs before hval0 hW hcnd hcnd2 hsz0 hL hsh _
  have hT : LaidT W := laid_of hL hsh
  clear hL hsh
  have hsz : (DataW.weightsEach Tryd.prog (Tryd.f5.params.toList ++ (OpenSpec.ofChange Rows.textJoinSpec).bare.plain.varTypes Tryd.prog) (ds ++ gs)).all (· ≤ reachBytes) = true := hsz0
  have hval : ∀ (j : Nat) t v, Tryd.f5.params[j]? = some t → args[j]? = some v → Value.okWide Tryd.prog W .any base t v := hval0
  have hW' := hW
  obtain ⟨p, q, hA0, hV, rfl, hfz, hnd⟩ := hW
  have hA : DataW.TrodAll enc Tryd.prog W 0 (fun _ => true) true Tryd.f5.params.toList args.toList ds p := hA0
  rw [Tryd.params5] at hA hval hsz
  obtain ⟨v0, vs0, d0, ds0, p0, q0, hargs, rfl, rfl, h0, r0⟩ := trodAll_cons hA
  obtain ⟨v1, vs1, d1, ds1, p1, q1, rfl, rfl, rfl, h1, r1⟩ := trodAll_cons r0
  obtain ⟨v2, vs2, d2, ds2, p2, q2, rfl, rfl, rfl, h2, r2⟩ := trodAll_cons r1
  obtain ⟨rfl, rfl, rfl⟩ := trodAll_nil r2
  obtain rfl : args = #[v0, v1, v2] := by cases args; simp_all
  obtain ⟨rfl, rfl⟩ := trodVars_none hV
  obtain ⟨a0, len0, cap0, rfl⟩ := okWide_slice Tryd.underlying22 (hval 0 22 v0 rfl rfl)
  have k0 := h0
  have lt0 : ∀ x ∈ p0, x.block < W.heap.size := by obtain ⟨m, hm⟩ := k0; exact DataW.trod_lt m _ _ _ hm
  obtain ⟨xs0, it0, nl0⟩ : ∃ xs, Ops W a0 len0 cap0 xs ∧ (a0 = none → len0 = 0 ∧ cap0 = 0) := by obtain ⟨fuel, hf⟩ := h0; exact open_ops hf (fun x hx => by have := List.all_eq_true.1 hsz _ (DataW.weights_mem_each (j := 0) rfl rfl x hx); simpa using this)
  have hl0 : len0 = 0 ∨ ∃ es sp, d0 = .slice es sp ∧ es.length = len0 := by obtain ⟨fuel, hf⟩ := h0; exact slice_len Tryd.underlying22 hf
  have hb0 : len0 * 96 ≤ 140737488351232 := reach_slice hsz (j := 0) rfl rfl Tryd.underlying22 (by kernel_rfl) hl0
  obtain ⟨a1, len1, cap1, rfl⟩ := okWide_slice Tryd.underlying22 (hval 1 22 v1 rfl rfl)
  have k1 := h1
  have lt1 : ∀ x ∈ p1, x.block < W.heap.size := by obtain ⟨m, hm⟩ := k1; exact DataW.trod_lt m _ _ _ hm
  obtain ⟨xs1, it1, nl1⟩ : ∃ xs, Ops W a1 len1 cap1 xs ∧ (a1 = none → len1 = 0 ∧ cap1 = 0) := by obtain ⟨fuel, hf⟩ := h1; exact open_ops hf (fun x hx => by have := List.all_eq_true.1 hsz _ (DataW.weights_mem_each (j := 1) rfl rfl x hx); simpa using this)
  have hl1 : len1 = 0 ∨ ∃ es sp, d1 = .slice es sp ∧ es.length = len1 := by obtain ⟨fuel, hf⟩ := h1; exact slice_len Tryd.underlying22 hf
  have hb1 : len1 * 96 ≤ 140737488351232 := reach_slice hsz (j := 1) rfl rfl Tryd.underlying22 (by kernel_rfl) hl1
  obtain ⟨s2, rfl, rfl, rfl, ws2⟩ := open_string Tryd.underlying9 (hval 2 9 v2 rfl rfl) h2
  have hs2 : s2.size ≤ 140737488351232 := by
    have := sized_string hsz (j := 2) rfl rfl
    have e : s2.data.toList.length = s2.size := by rw [Array.length_toList]; rfl
    have e2 : reachBytes = 140737488351232 := rfl
    omega
  clear hA0 hval0 hsz0
  refine (textJoin_walk a0 len0 cap0 xs0 a1 len1 cap1 xs1 s2 W it0 hb0 nl0 it1 hb1 nl1 hs2 hT).mono fun e W' ⟨he, bel⟩ => ?_
  subst he
  exact ⟨_, rfl, _, _, _, [], _, [], hW', trodAll_mk1 (shut_bool Tryd.underlying4 _), (trodAll_cons_mk (Below.trod laidOut (by kernel_rfl) (of_decide_eq_true (by kernel_rfl)) k0 bel lt0) (trodAll_cons_mk (Below.trod laidOut (by kernel_rfl) (of_decide_eq_true (by kernel_rfl)) k1 bel lt1) (trodAll_cons_mk (shut_string Tryd.underlying9 ws2) trodAll_mk0))), rfl, bel.frame _, fun h => by cases h⟩

/-- The row's statement. -/
theorem said : Rows.TextJoinSaid :=
  OpenClaim.holds_of_wide 5 Tryd.f5 rfl rfl rfl rfl rfl rfl rfl ⟨rfl, rfl, rfl, rfl, rfl⟩ rfl rfl rfl rfl rfl (by kernel_rfl) Tryd.func5 (by kernel_rfl)
    (of_decide_eq_true (by kernel_rfl)) (by unfold Func.isWrapper; rw [if_neg (of_decide_eq_false (by kernel_rfl))]; exact ⟨rfl, rfl⟩)
    (fun os started H enc _ => lifted os started H enc)
/-- The statement: the tied card. -/
theorem proved : Rows.TextJoinCardSaid :=
  Claim7.holds_tied_plain_at .later [] Rows.textJoinCard.laidKinds true Rows.textJoinCard.stood.harness true said (fun _ h => by cases h) (by kernel_rfl) (fun _ h => by cases h) textJoin_row_tie rfl ⟨rfl, rfl⟩ (by kernel_rfl) rfl
    (fun f fn hf hfn => by
      obtain rfl : f = 5 := Option.some.inj ((show Tryd.prog.funcNamed "sluicegate/sluicegatelaw30.TextJoin" = some 5 by kernel_rfl).symm.trans hf) |>.symm
      obtain rfl : fn = Tryd.f5 := (Option.some.inj (Tryd.func5.symm.trans hfn)).symm
      exact ⟨by kernel_rfl, fun j t ht => by
        rw [Tryd.params5] at ht
        have hm : t ∈ [22, 22, 9] := by simpa using Array.mem_of_getElem? ht
        have hall : ([22, 22, 9].all fun u => !Tryd.prog.wantsStandIn u) = true := by kernel_rfl
        exact (show Tryd.prog.wantsStandIn t = false by simpa using List.all_eq_true.1 hall t hm)⟩)
    (by kernel_rfl)
#print axioms proved
end textJoin

end Go.Proofs.YtaghecgjmkhpcaaDoor
