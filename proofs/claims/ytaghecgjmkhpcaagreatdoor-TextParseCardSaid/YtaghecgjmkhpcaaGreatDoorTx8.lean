/-
line of package text.
-/
import Derived.Test.YtaghecgjmkhpcaaGreatDoorTx7
namespace Go.Proofs.YtaghecgjmkhpcaaGreatDoor
set_option linter.unusedVariables false
set_option linter.unusedSimpArgs false
open Go Go.RowKit

theorem slStr : SliceT Tryz.prog 53 9 (.string .empty) 1 16 := sliceT_of Tryz.underlying53 (by kernel_rfl) rfl (by omega) (by omega)
def strV (x : List UInt8) : Value := .string ⟨x.toArray⟩
def strs (l : List (List UInt8)) : List Value := l.map strV
theorem strs_length (l : List (List UInt8)) : (strs l).length = l.length := by simp [strs]
theorem strs_append (l m : List (List UInt8)) : strs l ++ strs m = strs (l ++ m) := by simp [strs]
theorem strs_one (l : List (List UInt8)) : ∀ u ∈ strs l, u.oneCell' = true := by
  intro u hu
  obtain ⟨x, _, rfl⟩ := List.mem_map.1 hu
  rfl
theorem lit_str (w : World) (x : List UInt8) : Rd (w.alloc (.cells #[.string ⟨x.toArray⟩] 9)) (some ⟨w.heap.size, 0, none⟩) (strs [x]) :=
  Rd.own (World.ownsRow_lit (base := 0) (e := 9) (size := 1) w #[.string ⟨x.toArray⟩] 1 (Nat.zero_le _) (by unfold maxLen; omega) rfl)
/-- The words of a line, ahead of the layer's; ahead of the SSRCs. -/
def preW (o : Opx) : List (List UInt8) := [wordL o.k, decL o.p.toNat] ++ (if o.k = 1 then (if o.bs = [] then [] else [hexL o.bs]) else if o.k = 2 then [o.nm] else if o.k = 3 then [] else [decL o.s.toNat])
def midW (o : Opx) : List (List UInt8) := preW o ++ (if layB o.k then [decL o.y.toNat] else [])
theorem mid_ss {o : Opx} (h : mayO o = true) : midW o ++ o.ss.map (fun x => hexL (enc 4 x)) = wrdsL o := by
  obtain ⟨hp, hs', hy, hc⟩ := may_cases h
  unfold midW preW
  rcases hc with ⟨hk, h1, h2, h3, h4, h5⟩ | ⟨hk, h1, h2, h3, h4, h5⟩ | ⟨hk, h1, h2, h3, h4, h5⟩ | ⟨hk, h1, h2, h3, h4, h5⟩ | ⟨hk, h1, h2, h3⟩ | ⟨hk, h1, h2, h3, h4⟩
  · rw [wrds_1 hk h4, if_pos hk, h4, hk]
    simp [layB]
  · rw [wrds_2 hk h3 h4, if_neg (by omega), if_pos hk, h3, hk]
    simp [layB]
  · rw [wrds_3 hk h4 h5, if_neg (by omega), if_neg (by omega), if_pos hk, h4, hk]
    simp [layB]
  · rw [wrds_4 hk h3, if_neg (by omega), if_neg (by omega), if_neg (by omega), hk]
    simp [layB]
  · rw [wrds_6 hk h2 h3, if_neg (by omega), if_neg (by omega), if_neg (by omega), h2]
    rcases hk with hk | hk <;> rw [hk] <;> simp [layB]
  · rw [wrds_5 hk h3 h4, if_neg (by omega), if_neg (by omega), if_neg (by omega), h3]
    have b : (o.k == 6) = false := by simp; omega
    have c : (o.k == 12) = false := by simp; omega
    simp [layB, b, c]
theorem words_o (w : World) : Calls Tryz.prog 38 #[] w fun e w' => ∃ g, e = .returned (.slice (some ⟨g, 0, none⟩) 13 13) ∧ w'.heap[g]? = some (.cells wordsV 9 (0, 0)) ∧ Below w.heap.size w w' := by
  refine (words_any w).mono ?_
  rintro e w' ⟨rfl, rfl⟩
  exact ⟨_, rfl, heap_alloc_new w _, (Below.refl _ w).alloc (Nat.le_refl _) _⟩
theorem words_cell {w : World} {g : Nat} (h : w.heap[g]? = some (.cells wordsV 9 (0, 0))) {k : Nat} (hk : k ≤ 12) : w.cell? ⟨g, k, none⟩ = some (.string ⟨(wordL (k : Int)).toArray⟩) := by
  have e : wordsV[k]? = some (.string ⟨(wordL (k : Int)).toArray⟩) := by
    have : k = 0 ∨ k = 1 ∨ k = 2 ∨ k = 3 ∨ k = 4 ∨ k = 5 ∨ k = 6 ∨ k = 7 ∨ k = 8 ∨ k = 9 ∨ k = 10 ∨ k = 11 ∨ k = 12 := by omega
    rcases this with rfl | rfl | rfl | rfl | rfl | rfl | rfl | rfl | rfl | rfl | rfl | rfl | rfl <;> rfl
  simp [World.cell?, h, e]
/-- A row of strings that a call has made since w0. -/
structure Ws (w0 w : World) (A : Option Addr) (n c : Nat) (l : List (List UInt8)) : Prop where
  own : w.ownsRow w0.heap.size 9 1 (.slice A n c) n (strs l)
  b : Below w0.heap.size w0 w
theorem Ws.below {w0 w w' : World} {A : Option Addr} {n c : Nat} {l : List (List UInt8)} (h : Ws w0 w A n c l) (hb : Below w.heap.size w w') : Ws w0 w' A n c l :=
  ⟨h.own.kept (own_below hb) (own_none _), below_nextT h.b hb⟩
theorem Ws.alloc {w0 w : World} {A : Option Addr} {n c : Nat} {l : List (List UInt8)} (h : Ws w0 w A n c l) (o : Obj) : Ws w0 (w.alloc o) A n c l := h.below ((Below.refl _ w).alloc (Nat.le_refl _) _)
theorem Ws.app {w0 w w2 : World} {A A2 : Option Addr} {n c c2 : Nat} {l m : List (List UInt8)} {k : Nat} (h : Ws w0 w A n c l) (ho : w2.ownsRow w0.heap.size 9 1 (.slice A2 k c2) k (strs l ++ strs m)) (hg : w.grownBy w2 (A.map Addr.block)) : Ws w0 w2 A2 k c2 (l ++ m) :=
  ⟨by rw [← strs_append]; exact ho, h.b.grown hg h.b.size (fun q hq => own_from h.own q hq)⟩
theorem Ws.len {w0 w : World} {A : Option Addr} {n c : Nat} {l : List (List UInt8)} (h : Ws w0 w A n c l) : l.length = n := by
  have := h.own.1
  rw [strs_length] at this
  omega
theorem own_nilT {w : World} {base : Nat} {e : TypeId} {size : Nat} {A : Option Addr} {n c : Nat} {xs : List Value} (h : w.ownsRow base e size (.slice A n c) n xs) : A = none → n = 0 ∧ c = 0 := by
  rintro rfl
  rcases h.2 with ⟨h1, h2⟩ | ⟨g, cap, cur, h1, _⟩
  · injection h1 with _ h1 h2
    exact ⟨h1, h2⟩
  · injection h1 with h1
    cases h1
theorem own_rowT {w : World} {base : Nat} {e : TypeId} {size : Nat} {A : Option Addr} {n c : Nat} {xs : List Value} (bytes : Nat) (h : w.ownsRow base e size (.slice A n c) n xs) : Row w A n c size bytes xs := by
  have hc := own_cap h
  refine ⟨h.1, hc.1, hc.2, own_nilT h, fun j u hu => ?_⟩
  rcases h.2 with ⟨h1, h2⟩ | ⟨g, cap, cur, h1, h2, h3, h4, h5, h6⟩
  · have h9 := h.1
    rw [h2, Nat.zero_mul] at h9
    have := List.eq_nil_of_length_eq_zero h9
    subst this
    simp at hu
  · injection h1 with hA
    subst hA
    exact ⟨_, rfl, h.cells (g := g) rfl j u hu⟩
theorem joinT_eq (c : UInt8) : ∀ (x : List UInt8) (r : List (List UInt8)), joinL c (x :: r) = x ++ Lib.joinTail [c] r
  | x, [] => by simp [joinL, Lib.joinTail]
  | x, y :: r => by
    rw [joinL, joinT_eq c y r]
    simp [Lib.joinTail]
theorem join_eq (l : List (List UInt8)) (c : UInt8) (h : l ≠ []) : Lib.join l [c] = joinL c l := by
  cases l with
  | nil => exact absurd rfl h
  | cons x r => rw [Lib.join_cons, joinT_eq]
theorem join_len (l : List (List UInt8)) : l.length ≤ (joinL 32 l).length + 1 := by
  cases l with
  | nil => simp
  | cons x r =>
    rw [joinT_eq]
    have : r.length ≤ (Lib.joinTail [32] r).length := by
      induction r with
      | nil => simp
      | cons y r ih =>
        simp only [Lib.joinTail, List.map_cons, List.flatten_cons, List.length_append, List.length_cons] at ih ⊢
        omega
    rw [List.length_append, List.length_cons]
    omega
theorem strs_get (l : List (List UInt8)) (j : Nat) (x : List UInt8) (h : l[j]? = some x) : (strs l)[j]? = some (.string ⟨x.toArray⟩) := by
  unfold strs strV
  rw [List.getElem?_map, h]
  rfl
/-- strings.Join of a row of the call's own. -/
theorem join_any {w0 w : World} {A : Option Addr} {n c : Nat} {l : List (List UInt8)} (h : Ws w0 w A n c l) (hne : l ≠ []) (hN : l.length ≤ 140737488355328) (hl : (joinL 32 l).length ≤ 140737488355328) :
    Calls Tryz.prog 42 #[.slice A n c, .string ⟨#[32]⟩] w fun e w' => e = .returned (.string ⟨(joinL 32 l).toArray⟩) ∧ Below w.heap.size w w' := by
  have hn := h.len
  have r := own_rowT 16 h.own
  have hp : 0 < l.length := List.length_pos_iff.2 hne
  have hform : ∃ g, A = some ⟨g, 0, none⟩ ∧ g < w.heap.size := by
    rcases h.own.2 with ⟨h1, h2⟩ | ⟨g, cap, cur, h1, h2, h3, h4, h5, h6⟩
    · omega
    · injection h1 with hA
      exact ⟨g, hA, by have := h.own.lt g (by rw [hA]; rfl); exact this.2⟩
  obtain ⟨g, rfl, hg⟩ := hform
  have e : (l.map fun x => (⟨x.toArray⟩ : ByteArray)).map (·.data.toList) = l := by simp [Function.comp_def]
  have c := Tryz.strings_Join g 0 c (l.map fun x => (⟨x.toArray⟩ : ByteArray)) ⟨#[32]⟩ w (fun j x hx => ?_) hg ?_ ?_ ?_
  · rw [e, List.length_map, hn] at c
    have e2 : Lib.join l (⟨#[32]⟩ : ByteArray).data.toList = joinL 32 l := join_eq l 32 hne
    rw [e2] at c
    exact c
  · rw [List.getElem?_map] at hx
    obtain ⟨y, hy, rfl⟩ := Option.map_eq_some_iff.1 hx
    obtain ⟨ad, h1, h2⟩ := r.rd j _ (strs_get l j y hy)
    injection h1 with h1
    subst h1
    rw [Nat.zero_add]
    rwa [add_lit] at h2
  · rw [List.length_map]
    exact hN
  · rw [List.length_map, hn]
    exact (own_cap h.own).1
  · have e2 : Lib.join l (⟨#[32]⟩ : ByteArray).data.toList = joinL 32 l := join_eq l 32 hne
    rw [e, e2]
    exact hl
theorem app4_enc (x : Nat) (h : x < 4294967296) : appL [] 4 ((x : Int).toNat) = enc 4 x := by
  have hf : fitsB 4 x = true := fitsB_iff.2 ⟨by omega, by omega, by simpa using h⟩
  unfold appL
  rw [Int.toNat_natCast, if_pos hf]
  rfl
theorem decL_len (n : Nat) (h : n ≤ 999) : (decL n).length ≤ 3 := (decL_ok n h).2.2
theorem word_lenF : ∀ k : Fin 13, (wordL (k.val : Int)).length ≤ 11 := by decide
theorem word_len (k : Int) (h : 1 ≤ k ∧ k ≤ 12) : (wordL k).length ≤ 11 := by
  obtain ⟨n, rfl⟩ := Int.eq_ofNat_of_zero_le (show 0 ≤ k by omega)
  exact word_lenF ⟨n, by omega⟩
theorem join_line_len {q : Opx} (h : mayO q = true) : (joinL 32 (wrdsL q)).length ≤ 1100 ∧ (wrdsL q).length ≤ 6 := by
  obtain ⟨hp, hs', hy, hc⟩ := may_cases h
  have dp := decL_len q.p.toNat (by omega)
  have ds := decL_len q.s.toNat (by omega)
  have dy := decL_len q.y.toNat (by omega)
  have hk : 1 ≤ q.k ∧ q.k ≤ 12 := by omega
  have dw := word_len q.k hk
  rcases hc with ⟨hk, h1, h2, h3, h4, h5⟩ | ⟨hk, h1, h2, h3, h4, h5⟩ | ⟨hk, h1, h2, h3, h4, h5⟩ | ⟨hk, h1, h2, h3, h4, h5⟩ | ⟨hk, h1, h2, h3⟩ | ⟨hk, h1, h2, h3, h4⟩
  · rw [wrds_1 hk h4]
    rw [hk] at dw
    by_cases hb : q.bs = []
    · rw [if_pos hb]
      simp [joinL]
      omega
    · rw [if_neg hb]
      simp [joinL, hexL_length]
      omega
  · rw [wrds_2 hk h3 h4]
    rw [hk] at dw
    have := labB_len h5
    simp [joinL]
    omega
  · rw [wrds_3 hk h4 h5]
    rw [hk] at dw
    simp [joinL]
    omega
  · rw [wrds_4 hk h3]
    rw [hk] at dw
    have e : ∀ x, (hexL (enc 4 x)).length = 8 := fun x => by rw [hexL_length, enc_length]
    match hss : q.ss, h4, h5 with
    | [a], _, _ => simp [joinL, e]; omega
    | [a, b], _, _ => simp [joinL, e]; omega
    | [a, b, c], _, _ => simp [joinL, e]; omega
  · rw [wrds_6 hk h2 h3]
    simp [joinL]
    omega
  · rw [wrds_5 hk h3 h4]
    simp [joinL]
    omega
theorem mid_len (o : Opx) : (midW o).length ≤ 4 := by
  unfold midW preW
  split
  · split <;> split <;> simp
  · split
    · split <;> simp
    · split
      · split <;> simp
      · split <;> simp
set_option maxRecDepth 20000 in
set_option maxHeartbeats 4000000 in
theorem line_any (k : Nat) (p s y : Int) (nm : List UInt8) (ss : List Nat) (bs : List UInt8) (A : Option Addr) (an ac : Nat) (B : Option Addr) (bn bc : Nat) (w : World) (hm : mayO ⟨k, p, s, y, nm, ss, bs⟩ = true) (hs : ssOk ⟨k, p, s, y, nm, ss, bs⟩)
    (hA : Row w A an ac 1 4 (u32s ss)) (hB : Row w B bn bc 1 1 (bys bs)) (hT : LaidT w) :
    Calls Tryz.prog 22 #[opA k p s y nm A an ac B bn bc] w fun e w' => e = .returned (.string ⟨(lineL ⟨k, p, s, y, nm, ss, bs⟩).toArray⟩) ∧ Below w.heap.size w w' := by
  obtain ⟨hp, hs', hy, hc⟩ := may_cases hm
  dsimp only at hp hs' hy hc
  have hk : 1 ≤ k ∧ k ≤ 12 := by omega
  have HM := Lib.hid hm
  have HS := Lib.hid hs
  have HA := Lib.hid hA
  have HB := Lib.hid hB
  have HC := Lib.hid hc
  have HT := Lib.hid hT
  have sp : smlB p = true := by simp [smlB]; omega
  have s1 : smlB s = true := by simp [smlB]; omega
  have sy : smlB y = true := by simp [smlB]; omega
  have SP := Lib.hid sp
  have SS := Lib.hid s1
  have SY := Lib.hid sy
  obtain ⟨q, hq⟩ : ∃ q : Opx, ⟨k, p, s, y, nm, ss, bs⟩ = q := ⟨_, rfl⟩
  have HQ := Lib.hid hq
  have hb0 : Below w.heap.size w (w.alloc (.cells (opC k p s y nm A an ac B bn bc) 27)) := (Below.refl _ w).alloc (Nat.le_refl _) _
  have hi0 : (w.alloc (.cells (opC k p s y nm A an ac B bn bc) 27)).heap[w.heap.size]? = some (.cells (opC k p s y nm A an ac B bn bc) 27 (0, 0)) := heap_alloc_new w _
  rw [hq]
  clear hm hs hA hB hc hT sp s1 sy hq
  go_enter Tryz.func22, Tryz.ntmps22
  go_upto_region 1 with fail
  generalize w.alloc _ = w1 at *
  go_cut [3] from 6 to 14 (fun v3 wx => ∃ A1 c1, v3 = .slice A1 2 c1 ∧ Ws w1 wx A1 2 c1 [wordL k, decL p.toNat])
  case rest =>
    obtain ⟨A1, c1, rfl, hw1⟩ := hcut
    have hic := blk_below hi0 hw1.b
    have HW1 := Lib.hid hw1
    have hTc := Lib.hid ((HT.out.below hb0).below hw1.b)
    clear hw1
    obtain ⟨x0, x1, x2, x3, x4, x5, x6⟩ := seven_cells hic
    go_upto_block 0 with fail
    go_cut [3] from 17 to 43 (fun v3 wx => ∃ A1 n1 c1, v3 = .slice A1 n1 c1 ∧ Ws w1 wx A1 n1 c1 (preW q))
    case rest =>
      obtain ⟨A2, n2, c2, rfl, hw2⟩ := hcut
      have hi2 := blk_below hi0 hw2.b
      have HW2 := Lib.hid hw2
      have hT2 := Lib.hid ((HT.out.below hb0).below hw2.b)
      clear hw2 hic hTc HW1 x0 x1 x2 x3 x4 x5 x6
      obtain ⟨x0, x1, x2, x3, x4, x5, x6⟩ := seven_cells hi2
      rename_i K hK
      refine hK _ _ ?_
      refine wp_seq_k fun K2 hK2 => ?_
      go_cut [3] from 44 to 57 (fun v3 wx => ∃ A1 n1 c1, v3 = .slice A1 n1 c1 ∧ Ws w1 wx A1 n1 c1 (midW q))
      case rest =>
        obtain ⟨A3, n3, c3, rfl, hw3⟩ := hcut
        have hi3 := blk_below hi0 hw3.b
        have HW3 := Lib.hid hw3
        clear hw3 hi2 hT2 HW2 x0 x1 x2 x3 x4 x5 x6
        obtain ⟨x0, x1, x2, x3, x4, x5, x6⟩ := seven_cells hi3
        have la := row_len4 HA.out
        have han : an ≤ 3 := by
          rw [← la]
          rcases HC.out with h | h | h | h | h | h
          · rw [h.2.2.2.2.1]; simp
          · rw [h.2.2.2.1]; simp
          · rw [h.2.2.2.2.1]; simp
          · exact h.2.2.2.2.2
          · rw [h.2.2.1]; simp
          · rw [h.2.2.2.1]; simp
        have LA := Lib.hid la
        clear la
        have HA1 := Lib.hid (HA.out.below hb0)
        have hcm := HA.out.cm
        unfold maxLen at hcm
        have hnc := HA.out.nc
        have HL := Lib.hid (join_line_len (HQ.out ▸ HM.out : mayO q = true))
        obtain ⟨J, hJ⟩ : ∃ J, joinL 32 (wrdsL q) = J := ⟨_, rfl⟩
        have hadd : ∀ wz : World, (Op.stringOp .add ⟨J.toArray⟩ ⟨#[10]⟩).run Tryz.prog wz = .ok (.string ⟨(lineL q).toArray⟩) wz := fun wz => by
          have := run_string_add_lists (P := Tryz.prog) wz J [10] (by have := HL.out.1; rw [hJ] at this; omega) (by decide)
          unfold lineL
          rw [hJ]
          exact this
        have HJ := Lib.hid hJ
        clear hJ
        cases A with
        | none =>
          obtain ⟨rfl, rfl⟩ := HA.out.nil rfl
          go_wp2
          go_loopw [3, 61] (fun v3 i wr => ∃ (j n : Nat) (A4 : Option Addr) (c4 : Nat), i = .int .i64 j ∧ j ≤ 0 ∧ v3 = .slice A4 n c4 ∧ Ws w1 wr A4 n c4 (midW q ++ (ss.take j).map (fun x => hexL (enc 4 x)))) (fun _ _ _ => 0)
          case atStart => exact ⟨0, n3, A3, c3, rfl, Nat.zero_le _, rfl, by simpa using HW3.out⟩
          case round =>
            obtain ⟨j, n, A4, c4, rfl, hja, rfl, hw4⟩ := hrel
            have HW4 := Lib.hid hw4
            clear hw4
            by_cases hlt : j < 0
            · exact absurd hlt (by omega)
            · obtain rfl : j = 0 := by omega
              have e : midW q ++ (ss.take 0).map (fun x => hexL (enc 4 x)) = wrdsL q := by
                rw [List.take_of_length_le (by rw [LA.out]; exact Nat.le_refl _)]
                have := mid_ss (HQ.out ▸ HM.out)
                rw [← HQ.out] at this ⊢
                exact this
              have hj := join_any (e ▸ HW4.out) (wrds_ne q) (by have := HL.out.2; omega) (by have := HL.out.1; omega)
              rw [HJ.out] at hj
              have CJ := Lib.hid hj
              clear hj e
              go_wp2_with (go_at_call 42; (with_reducible refine (CJ.out).mono ?_); rintro e w6 ⟨rfl, hb6⟩)
              go_ret
              exact ⟨rfl, hb0.trans (((HW4.out.b).trans (hb6.mono HW4.out.b.size)).mono hb0.size)⟩
        | some ad =>
          go_wp2
          go_loopw [3, 61] (fun v3 i wr => ∃ (j n : Nat) (A4 : Option Addr) (c4 : Nat), i = .int .i64 j ∧ j ≤ an ∧ v3 = .slice A4 n c4 ∧ Ws w1 wr A4 n c4 (midW q ++ (ss.take j).map (fun x => hexL (enc 4 x)))) (fun _ i _ => an - (intOf i).toNat)
          case atStart => exact ⟨0, n3, A3, c3, rfl, Nat.zero_le _, rfl, by simpa using HW3.out⟩
          case round =>
            obtain ⟨j, n, A4, c4, rfl, hja, rfl, hw4⟩ := hrel
            have HW4 := Lib.hid hw4
            clear hw4
            by_cases hlt : j < an
            · have hj : j < ss.length := by rw [LA.out]; exact hlt
              obtain ⟨ad', h1, h2⟩ := ((HA1.out.below HW4.out.b).rd) j (.int .u32 (ss[j] : Int)) (by simp [u32s, List.getElem?_map, List.getElem?_eq_getElem hj])
              injection h1 with h1
              subst h1
              have hx4 : ss[j] < 4294967296 := HS.out _ (List.getElem_mem hj)
              obtain ⟨x, hx⟩ : ∃ x, ss[j] = x := ⟨_, rfl⟩
              rw [hx] at h2 hx4
              have HX := Lib.hid hx
              have hn4 : n ≤ 4 + j := by
                have := HW4.out.len
                rw [List.length_append, List.length_map, List.length_take] at this
                have := mid_len q
                omega
              clear hx
              go_wp2_with (first
                | (go_at_call 41; (with_reducible refine (append_any none 0 0 [] 4 (x : Int) _ rfl (by omega) (fun _ => ⟨rfl, rfl⟩) (Rd.nil _ _) (by omega) (by omega) (by omega)).mono ?_); rintro e w5 ⟨B5, m5, c5, rfl, HM5, ho5, hb5⟩; rw [app4_enc x hx4] at ho5; have HR5 := Lib.hid (own_rowT 1 ho5); have hm5 : m5 ≤ 8 := (by have := row_len1 HR5.out; rw [enc_length] at this; omega); have HW5 := Lib.hid (HW4.out.below hb5))
                | (go_at_call 40; (with_reducible refine (hexw_any B5 m5 c5 (enc 4 x) _ HR5.out (by omega)).mono ?_); rintro e w6 ⟨rfl, hb6⟩; have HW6 := Lib.hid (HW5.out.below hb6))
                | (at_builtin; (refine wpList_app slStr rfl _ _ rfl w1.heap.size A4 n c4 (strs (midW q ++ (ss.take j).map (fun x => hexL (enc 4 x)))) rfl (HW6.out.alloc _).own (some ⟨w6.heap.size, 0, none⟩) 1 1 (strs [hexL (enc 4 x)]) rfl rfl (lit_str _ _) (strs_one _) (by omega) (HW6.out.alloc _).b.size ?_); intro A7 c7 w7 ho7 hg7 hA7; have HW7 := Lib.hid ((HW6.out.alloc _).app ho7 hg7)))
              refine ⟨⟨j + 1, n + 1, A7, c7, rfl, by omega, rfl, ?_⟩, by simp [intOf]; omega⟩
              have hj : j < ss.length := by rw [LA.out]; exact hlt
              rw [List.take_succ_eq_append_getElem hj, HX.out, List.map_append, ← List.append_assoc]
              exact HW7.out
            · obtain rfl : j = an := by omega
              have e : midW q ++ (ss.take j).map (fun x => hexL (enc 4 x)) = wrdsL q := by
                rw [List.take_of_length_le (by rw [LA.out]; exact Nat.le_refl _)]
                have := mid_ss (HQ.out ▸ HM.out)
                rw [← HQ.out] at this ⊢
                exact this
              have hj := join_any (e ▸ HW4.out) (wrds_ne q) (by have := HL.out.2; omega) (by have := HL.out.1; omega)
              rw [HJ.out] at hj
              have CJ := Lib.hid hj
              clear hj e
              go_wp2_with (go_at_call 42; (with_reducible refine (CJ.out).mono ?_); rintro e w6 ⟨rfl, hb6⟩)
              go_ret
              exact ⟨rfl, hb0.trans (((HW4.out.b).trans (hb6.mono HW4.out.b.size)).mono hb0.size)⟩
      have hn2 : n2 ≤ 3 := by
        have := HW2.out.len
        rw [← this, ← HQ.out]
        unfold preW
        dsimp only
        split
        · split <;> simp
        · split
          · simp
          · split <;> simp
      by_cases k6 : k = 6
      · have e1 : (((k : Nat) : Int) == 6) = true := by subst k6; rfl
        have HK := Lib.hid k6
        clear k6
        go_wp2_with (first
          | (go_at_call 39; (with_reducible refine (itoa_any y SY.out _ hT2.out).mono ?_); rintro e w3 ⟨rfl, hb3⟩; have HW3 := Lib.hid (HW2.out.below hb3))
          | (at_builtin; (refine wpList_app slStr rfl _ _ rfl w1.heap.size A2 n2 c2 (strs (preW q)) rfl (HW3.out.alloc _).own (some ⟨w3.heap.size, 0, none⟩) 1 1 (strs [decL y.toNat]) rfl rfl (lit_str _ _) (strs_one _) (by omega) (HW3.out.alloc _).b.size ?_); intro A4 c4 w4 ho4 hg4 hA4; have HW4 := Lib.hid ((HW3.out.alloc _).app ho4 hg4)))
        go_meet
        refine ⟨_, _, _, rfl, ?_⟩
        have e : midW q = preW q ++ [decL y.toNat] := by rw [← HQ.out]; simp [midW, layB, HK.out]
        rw [e]
        exact HW4.out
      by_cases k12 : k = 12
      · have e1 : (((k : Nat) : Int) == 6) = false := by subst k12; rfl
        have e2 : (((k : Nat) : Int) == 12) = true := by subst k12; rfl
        have HK := Lib.hid k12
        clear k12 k6
        go_wp2_with (first
          | (go_at_call 39; (with_reducible refine (itoa_any y SY.out _ hT2.out).mono ?_); rintro e w3 ⟨rfl, hb3⟩; have HW3 := Lib.hid (HW2.out.below hb3))
          | (at_builtin; (refine wpList_app slStr rfl _ _ rfl w1.heap.size A2 n2 c2 (strs (preW q)) rfl (HW3.out.alloc _).own (some ⟨w3.heap.size, 0, none⟩) 1 1 (strs [decL y.toNat]) rfl rfl (lit_str _ _) (strs_one _) (by omega) (HW3.out.alloc _).b.size ?_); intro A4 c4 w4 ho4 hg4 hA4; have HW4 := Lib.hid ((HW3.out.alloc _).app ho4 hg4)))
        go_meet
        refine ⟨_, _, _, rfl, ?_⟩
        have e : midW q = preW q ++ [decL y.toNat] := by rw [← HQ.out]; simp [midW, layB, HK.out]
        rw [e]
        exact HW4.out
      have e1 : (((k : Nat) : Int) == 6) = false := by simp; omega
      have e2 : (((k : Nat) : Int) == 12) = false := by simp; omega
      clear k12 k6
      have E1 := Lib.hid e1
      have E2 := Lib.hid e2
      go_wp2_with fail
      go_meet
      refine ⟨_, _, _, rfl, ?_⟩
      have e : midW q = preW q := by
        rw [← HQ.out]
        unfold midW layB
        dsimp only
        rw [E1.out, E2.out]
        simp
      rw [e]
      exact HW2.out
    by_cases k1 : k = 1
    · have e1 : (((k : Nat) : Int) == 1) = true := by subst k1; rfl
      have HK := Lib.hid k1
      clear k1
      have lb := row_len1 HB.out
      have hbs : bs.length ≤ 512 := by
        have := HK.out
        rcases HC.out with h | h | h | h | h | h
        · exact h.2.2.2.2.2
        all_goals omega
      by_cases hb : bs = []
      · have e2 : decide (0 < bn) = false := by rw [← lb, hb]; rfl
        have HBS := Lib.hid hb
        clear hb
        go_wp2_with fail
        go_meet
        refine ⟨_, _, _, rfl, ?_⟩
        have e : preW q = [wordL k, decL p.toNat] := by rw [← HQ.out]; simp [preW, HK.out, HBS.out]
        rw [e]
        exact HW1.out
      · have e2 : decide (0 < bn) = true := by
          have := List.length_pos_iff.2 hb
          exact decide_eq_true (by omega)
        have HBS := Lib.hid hb
        clear hb
        have hrb := Lib.hid ((HB.out.below hb0).below HW1.out.b)
        go_wp2_with (first
          | (go_at_call 40; (with_reducible refine (hexw_any B bn bc bs _ hrb.out (by omega)).mono ?_); rintro e w3 ⟨rfl, hb3⟩; have HW3 := Lib.hid (HW1.out.below hb3))
          | (at_builtin; (refine wpList_app slStr rfl _ _ rfl w1.heap.size A1 2 c1 (strs [wordL k, decL p.toNat]) rfl (HW3.out.alloc _).own (some ⟨w3.heap.size, 0, none⟩) 1 1 (strs [hexL bs]) rfl rfl (lit_str _ _) (strs_one _) (by omega) (HW3.out.alloc _).b.size ?_); intro A2 c2 w4 ho4 hg4 hA4; have HW4 := Lib.hid ((HW3.out.alloc _).app ho4 hg4)))
        go_meet
        refine ⟨_, _, _, rfl, ?_⟩
        have e : preW q = [wordL k, decL p.toNat] ++ [hexL bs] := by rw [← HQ.out]; simp [preW, HK.out, HBS.out]
        rw [e]
        exact HW4.out
    by_cases k2 : k = 2
    · have e1 : (((k : Nat) : Int) == 1) = false := by subst k2; rfl
      have e2 : (((k : Nat) : Int) == 2) = true := by subst k2; rfl
      have HK := Lib.hid k2
      clear k2 k1
      go_wp2_with ((at_builtin; (refine wpList_app slStr rfl _ _ rfl w1.heap.size A1 2 c1 (strs [wordL k, decL p.toNat]) rfl (HW1.out.alloc _).own (some ⟨wc.heap.size, 0, none⟩) 1 1 (strs [nm]) rfl rfl (lit_str _ _) (strs_one _) (by omega) (HW1.out.alloc _).b.size ?_); intro A2 c2 w4 ho4 hg4 hA4; have HW4 := Lib.hid ((HW1.out.alloc _).app ho4 hg4)))
      go_meet
      refine ⟨_, _, _, rfl, ?_⟩
      have e : preW q = [wordL k, decL p.toNat] ++ [nm] := by rw [← HQ.out]; simp [preW, HK.out]
      rw [e]
      exact HW4.out
    by_cases k3 : k = 3
    · have e1 : (((k : Nat) : Int) == 1) = false := by subst k3; rfl
      have e2 : (((k : Nat) : Int) == 2) = false := by subst k3; rfl
      have e3 : (((k : Nat) : Int) == 3) = true := by subst k3; rfl
      have HK := Lib.hid k3
      clear k3 k2 k1
      go_wp2_with fail
      go_meet
      refine ⟨_, _, _, rfl, ?_⟩
      have e : preW q = [wordL k, decL p.toNat] := by rw [← HQ.out]; simp [preW, HK.out]
      rw [e]
      exact HW1.out
    have e1 : (((k : Nat) : Int) == 1) = false := by simp; omega
    have e2 : (((k : Nat) : Int) == 2) = false := by simp; omega
    have e3 : (((k : Nat) : Int) == 3) = false := by simp; omega
    have HK := Lib.hid (show 4 ≤ k by omega)
    clear k3 k2 k1
    go_wp2_with (first
      | (go_at_call 39; (with_reducible refine (itoa_any s SS.out _ hTc.out).mono ?_); rintro e w3 ⟨rfl, hb3⟩; have HW3 := Lib.hid (HW1.out.below hb3))
      | (at_builtin; (refine wpList_app slStr rfl _ _ rfl w1.heap.size A1 2 c1 (strs [wordL k, decL p.toNat]) rfl (HW3.out.alloc _).own (some ⟨w3.heap.size, 0, none⟩) 1 1 (strs [decL s.toNat]) rfl rfl (lit_str _ _) (strs_one _) (by omega) (HW3.out.alloc _).b.size ?_); intro A2 c2 w4 ho4 hg4 hA4; have HW4 := Lib.hid ((HW3.out.alloc _).app ho4 hg4)))
    go_meet
    refine ⟨_, _, _, rfl, ?_⟩
    have e : preW q = [wordL k, decL p.toNat] ++ [decL s.toNat] := by
      have := HK.out
      rw [← HQ.out]
      simp [preW]
      rw [if_neg (by omega), if_neg (by omega), if_neg (by omega)]
    rw [e]
    exact HW4.out
  go_wp2_with fail
  refine region_plan (calmB_sound _) (.fork [1, 5] (.fork [2] (.fork [6, 0, 3] (.leaf [7, 4, 8, 9]) (.leaf [4, 7, 8, 9])) (.fork [0, 3, 6] (.leaf [7, 4, 8, 9]) (.leaf [4, 7, 8, 9]))) (.fork [] (.fork [6] (.fork [2, 0, 3] (.leaf [7, 4, 8, 9]) (.leaf [4, 7, 8, 9])) (.fork [0] (.leaf [7, 2, 3, 4, 8, 9]) (.fork [2, 3] (.leaf [7, 4, 8, 9]) (.leaf [4, 7, 8, 9])))) (.fork [0, 6] (.leaf [7, 2, 3, 4, 8, 9]) (.fork [2, 3] (.leaf [7, 4, 8, 9]) (.leaf [4, 7, 8, 9]))))) (by kernel_rfl) (by kernel_rfl) (by kernel_rfl) ?_
  have hid := blk_below hi0 (Below.refl _ w1).drew
  have hbd := (Below.refl w1.heap.size w1).drew
  have HTd := Lib.hid ((HT.out.below hb0).below hbd)
  generalize w1.drew = wd at *
  obtain ⟨x0, x1, x2, x3, x4, x5, x6⟩ := seven_cells hid
  refine wpPlan_fork fun PL0 hPL0 => ?_
  simp only [List.filterMap_cons, List.filterMap_nil, List.getElem?_toArray, List.getElem?_cons_succ, List.getElem?_cons_zero]
  change wpList _ _ _ [_, _] _ _
  go_wp2_with (first

      | (go_at_call 38; (with_reducible refine (words_o _).mono ?_); rintro e wa ⟨g, rfl, hga, hba⟩; have hia := (by first | exact blk_below hib hba | exact blk_below hid hba); obtain ⟨a0, a1, a2, a3, a4, a5, a6⟩ := seven_cells hia; have hca := words_cell hga (k := k) (by omega); have HTa := Lib.hid (by first | exact HTb.out.below hba | exact HTd.out.below hba))

      | (go_at_call 39; (with_reducible refine (itoa_any p SP.out _ (by first | exact HTa.out | exact HTd.out)).mono ?_); rintro e wb ⟨rfl, hbb⟩; have hib := (by first | exact blk_below hia hbb | exact blk_below hid hbb); obtain ⟨b0, b1, b2, b3, b4, b5, b6⟩ := seven_cells hib; have HTb := Lib.hid (by first | exact HTa.out.below hbb | exact HTd.out.below hbb); try have hcc := words_cell (blk_below hga hbb) (k := k) (by omega)))
  refine hPL0 _ _ ?_ ?_
  · refine wpPlan_fork fun PL1 hPL1 => ?_
    simp only [List.filterMap_cons, List.filterMap_nil, List.getElem?_toArray, List.getElem?_cons_succ, List.getElem?_cons_zero]
    change wpList _ _ _ [_] _ _
    go_wp2_with (first

      | (go_at_call 38; (with_reducible refine (words_o _).mono ?_); rintro e wa ⟨g, rfl, hga, hba⟩; have hia := (by first | exact blk_below hib hba | exact blk_below hid hba); obtain ⟨a0, a1, a2, a3, a4, a5, a6⟩ := seven_cells hia; have hca := words_cell hga (k := k) (by omega); have HTa := Lib.hid (by first | exact HTb.out.below hba | exact HTd.out.below hba))

      | (go_at_call 39; (with_reducible refine (itoa_any p SP.out _ (by first | exact HTa.out | exact HTd.out)).mono ?_); rintro e wb ⟨rfl, hbb⟩; have hib := (by first | exact blk_below hia hbb | exact blk_below hid hbb); obtain ⟨b0, b1, b2, b3, b4, b5, b6⟩ := seven_cells hib; have HTb := Lib.hid (by first | exact HTa.out.below hbb | exact HTd.out.below hbb); try have hcc := words_cell (blk_below hga hbb) (k := k) (by omega)))
    refine hPL1 _ _ ?_ ?_
    · refine wpPlan_fork fun PL2 hPL2 => ?_
      simp only [List.filterMap_cons, List.filterMap_nil, List.getElem?_toArray, List.getElem?_cons_succ, List.getElem?_cons_zero]
      change wpList _ _ _ [_, _, _] _ _
      go_wp2_with (first

      | (go_at_call 38; (with_reducible refine (words_o _).mono ?_); rintro e wa ⟨g, rfl, hga, hba⟩; have hia := (by first | exact blk_below hib hba | exact blk_below hid hba); obtain ⟨a0, a1, a2, a3, a4, a5, a6⟩ := seven_cells hia; have hca := words_cell hga (k := k) (by omega); have HTa := Lib.hid (by first | exact HTb.out.below hba | exact HTd.out.below hba))

      | (go_at_call 39; (with_reducible refine (itoa_any p SP.out _ (by first | exact HTa.out | exact HTd.out)).mono ?_); rintro e wb ⟨rfl, hbb⟩; have hib := (by first | exact blk_below hia hbb | exact blk_below hid hbb); obtain ⟨b0, b1, b2, b3, b4, b5, b6⟩ := seven_cells hib; have HTb := Lib.hid (by first | exact HTa.out.below hbb | exact HTd.out.below hbb); try have hcc := words_cell (blk_below hga hbb) (k := k) (by omega)))
      refine hPL2 _ _ ?_ ?_
      · refine wpPlan_leaf fun PL3 hPL3 => ?_
        simp only [List.filterMap_cons, List.filterMap_nil, List.getElem?_toArray, List.getElem?_cons_succ, List.getElem?_cons_zero]
        change wpList _ _ _ [_, _, _, _] _ _
        go_wp2_with (first

      | (go_at_call 38; (with_reducible refine (words_o _).mono ?_); rintro e wa ⟨g, rfl, hga, hba⟩; have hia := (by first | exact blk_below hib hba | exact blk_below hid hba); obtain ⟨a0, a1, a2, a3, a4, a5, a6⟩ := seven_cells hia; have hca := words_cell hga (k := k) (by omega); have HTa := Lib.hid (by first | exact HTb.out.below hba | exact HTd.out.below hba))

      | (go_at_call 39; (with_reducible refine (itoa_any p SP.out _ (by first | exact HTa.out | exact HTd.out)).mono ?_); rintro e wb ⟨rfl, hbb⟩; have hib := (by first | exact blk_below hia hbb | exact blk_below hid hbb); obtain ⟨b0, b1, b2, b3, b4, b5, b6⟩ := seven_cells hib; have HTb := Lib.hid (by first | exact HTa.out.below hbb | exact HTd.out.below hbb); try have hcc := words_cell (blk_below hga hbb) (k := k) (by omega)))
        go_meet
        refine ⟨_, _, rfl, World.ownsRow_lit (base := w1.heap.size) (e := 9) (size := 1) _ #[.string ⟨(wordL (k : Int)).toArray⟩, .string ⟨(decL p.toNat).toArray⟩] 2 ?_ (by unfold maxLen; omega) rfl, ?_⟩
        · have h2 := hbd.size
          have h3 := hba.size
          have h4 := hbb.size
          omega
        · first
          | exact (below_nextT (below_nextT hbd hba) hbb).alloc (by have h2 := hbd.size; have h3 := hba.size; have h4 := hbb.size; omega) _
          | exact (below_nextT (below_nextT hbd hbb) hba).alloc (by have h2 := hbd.size; have h3 := hba.size; have h4 := hbb.size; omega) _
      · refine wpPlan_leaf fun PL3 hPL3 => ?_
        simp only [List.filterMap_cons, List.filterMap_nil, List.getElem?_toArray, List.getElem?_cons_succ, List.getElem?_cons_zero]
        change wpList _ _ _ [_, _, _, _] _ _
        go_wp2_with (first

      | (go_at_call 38; (with_reducible refine (words_o _).mono ?_); rintro e wa ⟨g, rfl, hga, hba⟩; have hia := (by first | exact blk_below hib hba | exact blk_below hid hba); obtain ⟨a0, a1, a2, a3, a4, a5, a6⟩ := seven_cells hia; have hca := words_cell hga (k := k) (by omega); have HTa := Lib.hid (by first | exact HTb.out.below hba | exact HTd.out.below hba))

      | (go_at_call 39; (with_reducible refine (itoa_any p SP.out _ (by first | exact HTa.out | exact HTd.out)).mono ?_); rintro e wb ⟨rfl, hbb⟩; have hib := (by first | exact blk_below hia hbb | exact blk_below hid hbb); obtain ⟨b0, b1, b2, b3, b4, b5, b6⟩ := seven_cells hib; have HTb := Lib.hid (by first | exact HTa.out.below hbb | exact HTd.out.below hbb); try have hcc := words_cell (blk_below hga hbb) (k := k) (by omega)))
        go_meet
        refine ⟨_, _, rfl, World.ownsRow_lit (base := w1.heap.size) (e := 9) (size := 1) _ #[.string ⟨(wordL (k : Int)).toArray⟩, .string ⟨(decL p.toNat).toArray⟩] 2 ?_ (by unfold maxLen; omega) rfl, ?_⟩
        · have h2 := hbd.size
          have h3 := hba.size
          have h4 := hbb.size
          omega
        · first
          | exact (below_nextT (below_nextT hbd hba) hbb).alloc (by have h2 := hbd.size; have h3 := hba.size; have h4 := hbb.size; omega) _
          | exact (below_nextT (below_nextT hbd hbb) hba).alloc (by have h2 := hbd.size; have h3 := hba.size; have h4 := hbb.size; omega) _
    · refine wpPlan_fork fun PL2 hPL2 => ?_
      simp only [List.filterMap_cons, List.filterMap_nil, List.getElem?_toArray, List.getElem?_cons_succ, List.getElem?_cons_zero]
      change wpList _ _ _ [_, _, _] _ _
      go_wp2_with (first

      | (go_at_call 38; (with_reducible refine (words_o _).mono ?_); rintro e wa ⟨g, rfl, hga, hba⟩; have hia := (by first | exact blk_below hib hba | exact blk_below hid hba); obtain ⟨a0, a1, a2, a3, a4, a5, a6⟩ := seven_cells hia; have hca := words_cell hga (k := k) (by omega); have HTa := Lib.hid (by first | exact HTb.out.below hba | exact HTd.out.below hba))

      | (go_at_call 39; (with_reducible refine (itoa_any p SP.out _ (by first | exact HTa.out | exact HTd.out)).mono ?_); rintro e wb ⟨rfl, hbb⟩; have hib := (by first | exact blk_below hia hbb | exact blk_below hid hbb); obtain ⟨b0, b1, b2, b3, b4, b5, b6⟩ := seven_cells hib; have HTb := Lib.hid (by first | exact HTa.out.below hbb | exact HTd.out.below hbb); try have hcc := words_cell (blk_below hga hbb) (k := k) (by omega)))
      refine hPL2 _ _ ?_ ?_
      · refine wpPlan_leaf fun PL3 hPL3 => ?_
        simp only [List.filterMap_cons, List.filterMap_nil, List.getElem?_toArray, List.getElem?_cons_succ, List.getElem?_cons_zero]
        change wpList _ _ _ [_, _, _, _] _ _
        go_wp2_with (first

      | (go_at_call 38; (with_reducible refine (words_o _).mono ?_); rintro e wa ⟨g, rfl, hga, hba⟩; have hia := (by first | exact blk_below hib hba | exact blk_below hid hba); obtain ⟨a0, a1, a2, a3, a4, a5, a6⟩ := seven_cells hia; have hca := words_cell hga (k := k) (by omega); have HTa := Lib.hid (by first | exact HTb.out.below hba | exact HTd.out.below hba))

      | (go_at_call 39; (with_reducible refine (itoa_any p SP.out _ (by first | exact HTa.out | exact HTd.out)).mono ?_); rintro e wb ⟨rfl, hbb⟩; have hib := (by first | exact blk_below hia hbb | exact blk_below hid hbb); obtain ⟨b0, b1, b2, b3, b4, b5, b6⟩ := seven_cells hib; have HTb := Lib.hid (by first | exact HTa.out.below hbb | exact HTd.out.below hbb); try have hcc := words_cell (blk_below hga hbb) (k := k) (by omega)))
        go_meet
        refine ⟨_, _, rfl, World.ownsRow_lit (base := w1.heap.size) (e := 9) (size := 1) _ #[.string ⟨(wordL (k : Int)).toArray⟩, .string ⟨(decL p.toNat).toArray⟩] 2 ?_ (by unfold maxLen; omega) rfl, ?_⟩
        · have h2 := hbd.size
          have h3 := hba.size
          have h4 := hbb.size
          omega
        · first
          | exact (below_nextT (below_nextT hbd hba) hbb).alloc (by have h2 := hbd.size; have h3 := hba.size; have h4 := hbb.size; omega) _
          | exact (below_nextT (below_nextT hbd hbb) hba).alloc (by have h2 := hbd.size; have h3 := hba.size; have h4 := hbb.size; omega) _
      · refine wpPlan_leaf fun PL3 hPL3 => ?_
        simp only [List.filterMap_cons, List.filterMap_nil, List.getElem?_toArray, List.getElem?_cons_succ, List.getElem?_cons_zero]
        change wpList _ _ _ [_, _, _, _] _ _
        go_wp2_with (first

      | (go_at_call 38; (with_reducible refine (words_o _).mono ?_); rintro e wa ⟨g, rfl, hga, hba⟩; have hia := (by first | exact blk_below hib hba | exact blk_below hid hba); obtain ⟨a0, a1, a2, a3, a4, a5, a6⟩ := seven_cells hia; have hca := words_cell hga (k := k) (by omega); have HTa := Lib.hid (by first | exact HTb.out.below hba | exact HTd.out.below hba))

      | (go_at_call 39; (with_reducible refine (itoa_any p SP.out _ (by first | exact HTa.out | exact HTd.out)).mono ?_); rintro e wb ⟨rfl, hbb⟩; have hib := (by first | exact blk_below hia hbb | exact blk_below hid hbb); obtain ⟨b0, b1, b2, b3, b4, b5, b6⟩ := seven_cells hib; have HTb := Lib.hid (by first | exact HTa.out.below hbb | exact HTd.out.below hbb); try have hcc := words_cell (blk_below hga hbb) (k := k) (by omega)))
        go_meet
        refine ⟨_, _, rfl, World.ownsRow_lit (base := w1.heap.size) (e := 9) (size := 1) _ #[.string ⟨(wordL (k : Int)).toArray⟩, .string ⟨(decL p.toNat).toArray⟩] 2 ?_ (by unfold maxLen; omega) rfl, ?_⟩
        · have h2 := hbd.size
          have h3 := hba.size
          have h4 := hbb.size
          omega
        · first
          | exact (below_nextT (below_nextT hbd hba) hbb).alloc (by have h2 := hbd.size; have h3 := hba.size; have h4 := hbb.size; omega) _
          | exact (below_nextT (below_nextT hbd hbb) hba).alloc (by have h2 := hbd.size; have h3 := hba.size; have h4 := hbb.size; omega) _
  · refine wpPlan_fork fun PL1 hPL1 => ?_
    simp only [List.filterMap_cons, List.filterMap_nil, List.getElem?_toArray, List.getElem?_cons_succ, List.getElem?_cons_zero]
    go_wp2_with (first

      | (go_at_call 38; (with_reducible refine (words_o _).mono ?_); rintro e wa ⟨g, rfl, hga, hba⟩; have hia := (by first | exact blk_below hib hba | exact blk_below hid hba); obtain ⟨a0, a1, a2, a3, a4, a5, a6⟩ := seven_cells hia; have hca := words_cell hga (k := k) (by omega); have HTa := Lib.hid (by first | exact HTb.out.below hba | exact HTd.out.below hba))

      | (go_at_call 39; (with_reducible refine (itoa_any p SP.out _ (by first | exact HTa.out | exact HTd.out)).mono ?_); rintro e wb ⟨rfl, hbb⟩; have hib := (by first | exact blk_below hia hbb | exact blk_below hid hbb); obtain ⟨b0, b1, b2, b3, b4, b5, b6⟩ := seven_cells hib; have HTb := Lib.hid (by first | exact HTa.out.below hbb | exact HTd.out.below hbb); try have hcc := words_cell (blk_below hga hbb) (k := k) (by omega)))
    refine hPL1 _ _ ?_ ?_
    · refine wpPlan_fork fun PL2 hPL2 => ?_
      simp only [List.filterMap_cons, List.filterMap_nil, List.getElem?_toArray, List.getElem?_cons_succ, List.getElem?_cons_zero]
      change wpList _ _ _ [_] _ _
      go_wp2_with (first

      | (go_at_call 38; (with_reducible refine (words_o _).mono ?_); rintro e wa ⟨g, rfl, hga, hba⟩; have hia := (by first | exact blk_below hib hba | exact blk_below hid hba); obtain ⟨a0, a1, a2, a3, a4, a5, a6⟩ := seven_cells hia; have hca := words_cell hga (k := k) (by omega); have HTa := Lib.hid (by first | exact HTb.out.below hba | exact HTd.out.below hba))

      | (go_at_call 39; (with_reducible refine (itoa_any p SP.out _ (by first | exact HTa.out | exact HTd.out)).mono ?_); rintro e wb ⟨rfl, hbb⟩; have hib := (by first | exact blk_below hia hbb | exact blk_below hid hbb); obtain ⟨b0, b1, b2, b3, b4, b5, b6⟩ := seven_cells hib; have HTb := Lib.hid (by first | exact HTa.out.below hbb | exact HTd.out.below hbb); try have hcc := words_cell (blk_below hga hbb) (k := k) (by omega)))
      refine hPL2 _ _ ?_ ?_
      · refine wpPlan_fork fun PL3 hPL3 => ?_
        simp only [List.filterMap_cons, List.filterMap_nil, List.getElem?_toArray, List.getElem?_cons_succ, List.getElem?_cons_zero]
        change wpList _ _ _ [_, _, _] _ _
        go_wp2_with (first

      | (go_at_call 38; (with_reducible refine (words_o _).mono ?_); rintro e wa ⟨g, rfl, hga, hba⟩; have hia := (by first | exact blk_below hib hba | exact blk_below hid hba); obtain ⟨a0, a1, a2, a3, a4, a5, a6⟩ := seven_cells hia; have hca := words_cell hga (k := k) (by omega); have HTa := Lib.hid (by first | exact HTb.out.below hba | exact HTd.out.below hba))

      | (go_at_call 39; (with_reducible refine (itoa_any p SP.out _ (by first | exact HTa.out | exact HTd.out)).mono ?_); rintro e wb ⟨rfl, hbb⟩; have hib := (by first | exact blk_below hia hbb | exact blk_below hid hbb); obtain ⟨b0, b1, b2, b3, b4, b5, b6⟩ := seven_cells hib; have HTb := Lib.hid (by first | exact HTa.out.below hbb | exact HTd.out.below hbb); try have hcc := words_cell (blk_below hga hbb) (k := k) (by omega)))
        refine hPL3 _ _ ?_ ?_
        · refine wpPlan_leaf fun PL4 hPL4 => ?_
          simp only [List.filterMap_cons, List.filterMap_nil, List.getElem?_toArray, List.getElem?_cons_succ, List.getElem?_cons_zero]
          change wpList _ _ _ [_, _, _, _] _ _
          go_wp2_with (first

      | (go_at_call 38; (with_reducible refine (words_o _).mono ?_); rintro e wa ⟨g, rfl, hga, hba⟩; have hia := (by first | exact blk_below hib hba | exact blk_below hid hba); obtain ⟨a0, a1, a2, a3, a4, a5, a6⟩ := seven_cells hia; have hca := words_cell hga (k := k) (by omega); have HTa := Lib.hid (by first | exact HTb.out.below hba | exact HTd.out.below hba))

      | (go_at_call 39; (with_reducible refine (itoa_any p SP.out _ (by first | exact HTa.out | exact HTd.out)).mono ?_); rintro e wb ⟨rfl, hbb⟩; have hib := (by first | exact blk_below hia hbb | exact blk_below hid hbb); obtain ⟨b0, b1, b2, b3, b4, b5, b6⟩ := seven_cells hib; have HTb := Lib.hid (by first | exact HTa.out.below hbb | exact HTd.out.below hbb); try have hcc := words_cell (blk_below hga hbb) (k := k) (by omega)))
          go_meet
          refine ⟨_, _, rfl, World.ownsRow_lit (base := w1.heap.size) (e := 9) (size := 1) _ #[.string ⟨(wordL (k : Int)).toArray⟩, .string ⟨(decL p.toNat).toArray⟩] 2 ?_ (by unfold maxLen; omega) rfl, ?_⟩
          · have h2 := hbd.size
            have h3 := hba.size
            have h4 := hbb.size
            omega
          · first
            | exact (below_nextT (below_nextT hbd hba) hbb).alloc (by have h2 := hbd.size; have h3 := hba.size; have h4 := hbb.size; omega) _
            | exact (below_nextT (below_nextT hbd hbb) hba).alloc (by have h2 := hbd.size; have h3 := hba.size; have h4 := hbb.size; omega) _
        · refine wpPlan_leaf fun PL4 hPL4 => ?_
          simp only [List.filterMap_cons, List.filterMap_nil, List.getElem?_toArray, List.getElem?_cons_succ, List.getElem?_cons_zero]
          change wpList _ _ _ [_, _, _, _] _ _
          go_wp2_with (first

      | (go_at_call 38; (with_reducible refine (words_o _).mono ?_); rintro e wa ⟨g, rfl, hga, hba⟩; have hia := (by first | exact blk_below hib hba | exact blk_below hid hba); obtain ⟨a0, a1, a2, a3, a4, a5, a6⟩ := seven_cells hia; have hca := words_cell hga (k := k) (by omega); have HTa := Lib.hid (by first | exact HTb.out.below hba | exact HTd.out.below hba))

      | (go_at_call 39; (with_reducible refine (itoa_any p SP.out _ (by first | exact HTa.out | exact HTd.out)).mono ?_); rintro e wb ⟨rfl, hbb⟩; have hib := (by first | exact blk_below hia hbb | exact blk_below hid hbb); obtain ⟨b0, b1, b2, b3, b4, b5, b6⟩ := seven_cells hib; have HTb := Lib.hid (by first | exact HTa.out.below hbb | exact HTd.out.below hbb); try have hcc := words_cell (blk_below hga hbb) (k := k) (by omega)))
          go_meet
          refine ⟨_, _, rfl, World.ownsRow_lit (base := w1.heap.size) (e := 9) (size := 1) _ #[.string ⟨(wordL (k : Int)).toArray⟩, .string ⟨(decL p.toNat).toArray⟩] 2 ?_ (by unfold maxLen; omega) rfl, ?_⟩
          · have h2 := hbd.size
            have h3 := hba.size
            have h4 := hbb.size
            omega
          · first
            | exact (below_nextT (below_nextT hbd hba) hbb).alloc (by have h2 := hbd.size; have h3 := hba.size; have h4 := hbb.size; omega) _
            | exact (below_nextT (below_nextT hbd hbb) hba).alloc (by have h2 := hbd.size; have h3 := hba.size; have h4 := hbb.size; omega) _
      · refine wpPlan_fork fun PL3 hPL3 => ?_
        simp only [List.filterMap_cons, List.filterMap_nil, List.getElem?_toArray, List.getElem?_cons_succ, List.getElem?_cons_zero]
        change wpList _ _ _ [_] _ _
        go_wp2_with (first

      | (go_at_call 38; (with_reducible refine (words_o _).mono ?_); rintro e wa ⟨g, rfl, hga, hba⟩; have hia := (by first | exact blk_below hib hba | exact blk_below hid hba); obtain ⟨a0, a1, a2, a3, a4, a5, a6⟩ := seven_cells hia; have hca := words_cell hga (k := k) (by omega); have HTa := Lib.hid (by first | exact HTb.out.below hba | exact HTd.out.below hba))

      | (go_at_call 39; (with_reducible refine (itoa_any p SP.out _ (by first | exact HTa.out | exact HTd.out)).mono ?_); rintro e wb ⟨rfl, hbb⟩; have hib := (by first | exact blk_below hia hbb | exact blk_below hid hbb); obtain ⟨b0, b1, b2, b3, b4, b5, b6⟩ := seven_cells hib; have HTb := Lib.hid (by first | exact HTa.out.below hbb | exact HTd.out.below hbb); try have hcc := words_cell (blk_below hga hbb) (k := k) (by omega)))
        refine hPL3 _ _ ?_ ?_
        · refine wpPlan_leaf fun PL4 hPL4 => ?_
          simp only [List.filterMap_cons, List.filterMap_nil, List.getElem?_toArray, List.getElem?_cons_succ, List.getElem?_cons_zero]
          change wpList _ _ _ [_, _, _, _, _, _] _ _
          go_wp2_with (first

      | (go_at_call 38; (with_reducible refine (words_o _).mono ?_); rintro e wa ⟨g, rfl, hga, hba⟩; have hia := (by first | exact blk_below hib hba | exact blk_below hid hba); obtain ⟨a0, a1, a2, a3, a4, a5, a6⟩ := seven_cells hia; have hca := words_cell hga (k := k) (by omega); have HTa := Lib.hid (by first | exact HTb.out.below hba | exact HTd.out.below hba))

      | (go_at_call 39; (with_reducible refine (itoa_any p SP.out _ (by first | exact HTa.out | exact HTd.out)).mono ?_); rintro e wb ⟨rfl, hbb⟩; have hib := (by first | exact blk_below hia hbb | exact blk_below hid hbb); obtain ⟨b0, b1, b2, b3, b4, b5, b6⟩ := seven_cells hib; have HTb := Lib.hid (by first | exact HTa.out.below hbb | exact HTd.out.below hbb); try have hcc := words_cell (blk_below hga hbb) (k := k) (by omega)))
          go_meet
          refine ⟨_, _, rfl, World.ownsRow_lit (base := w1.heap.size) (e := 9) (size := 1) _ #[.string ⟨(wordL (k : Int)).toArray⟩, .string ⟨(decL p.toNat).toArray⟩] 2 ?_ (by unfold maxLen; omega) rfl, ?_⟩
          · have h2 := hbd.size
            have h3 := hba.size
            have h4 := hbb.size
            omega
          · first
            | exact (below_nextT (below_nextT hbd hba) hbb).alloc (by have h2 := hbd.size; have h3 := hba.size; have h4 := hbb.size; omega) _
            | exact (below_nextT (below_nextT hbd hbb) hba).alloc (by have h2 := hbd.size; have h3 := hba.size; have h4 := hbb.size; omega) _
        · refine wpPlan_fork fun PL4 hPL4 => ?_
          simp only [List.filterMap_cons, List.filterMap_nil, List.getElem?_toArray, List.getElem?_cons_succ, List.getElem?_cons_zero]
          change wpList _ _ _ [_, _] _ _
          go_wp2_with (first

      | (go_at_call 38; (with_reducible refine (words_o _).mono ?_); rintro e wa ⟨g, rfl, hga, hba⟩; have hia := (by first | exact blk_below hib hba | exact blk_below hid hba); obtain ⟨a0, a1, a2, a3, a4, a5, a6⟩ := seven_cells hia; have hca := words_cell hga (k := k) (by omega); have HTa := Lib.hid (by first | exact HTb.out.below hba | exact HTd.out.below hba))

      | (go_at_call 39; (with_reducible refine (itoa_any p SP.out _ (by first | exact HTa.out | exact HTd.out)).mono ?_); rintro e wb ⟨rfl, hbb⟩; have hib := (by first | exact blk_below hia hbb | exact blk_below hid hbb); obtain ⟨b0, b1, b2, b3, b4, b5, b6⟩ := seven_cells hib; have HTb := Lib.hid (by first | exact HTa.out.below hbb | exact HTd.out.below hbb); try have hcc := words_cell (blk_below hga hbb) (k := k) (by omega)))
          refine hPL4 _ _ ?_ ?_
          · refine wpPlan_leaf fun PL5 hPL5 => ?_
            simp only [List.filterMap_cons, List.filterMap_nil, List.getElem?_toArray, List.getElem?_cons_succ, List.getElem?_cons_zero]
            change wpList _ _ _ [_, _, _, _] _ _
            go_wp2_with (first

      | (go_at_call 38; (with_reducible refine (words_o _).mono ?_); rintro e wa ⟨g, rfl, hga, hba⟩; have hia := (by first | exact blk_below hib hba | exact blk_below hid hba); obtain ⟨a0, a1, a2, a3, a4, a5, a6⟩ := seven_cells hia; have hca := words_cell hga (k := k) (by omega); have HTa := Lib.hid (by first | exact HTb.out.below hba | exact HTd.out.below hba))

      | (go_at_call 39; (with_reducible refine (itoa_any p SP.out _ (by first | exact HTa.out | exact HTd.out)).mono ?_); rintro e wb ⟨rfl, hbb⟩; have hib := (by first | exact blk_below hia hbb | exact blk_below hid hbb); obtain ⟨b0, b1, b2, b3, b4, b5, b6⟩ := seven_cells hib; have HTb := Lib.hid (by first | exact HTa.out.below hbb | exact HTd.out.below hbb); try have hcc := words_cell (blk_below hga hbb) (k := k) (by omega)))
            go_meet
            refine ⟨_, _, rfl, World.ownsRow_lit (base := w1.heap.size) (e := 9) (size := 1) _ #[.string ⟨(wordL (k : Int)).toArray⟩, .string ⟨(decL p.toNat).toArray⟩] 2 ?_ (by unfold maxLen; omega) rfl, ?_⟩
            · have h2 := hbd.size
              have h3 := hba.size
              have h4 := hbb.size
              omega
            · first
              | exact (below_nextT (below_nextT hbd hba) hbb).alloc (by have h2 := hbd.size; have h3 := hba.size; have h4 := hbb.size; omega) _
              | exact (below_nextT (below_nextT hbd hbb) hba).alloc (by have h2 := hbd.size; have h3 := hba.size; have h4 := hbb.size; omega) _
          · refine wpPlan_leaf fun PL5 hPL5 => ?_
            simp only [List.filterMap_cons, List.filterMap_nil, List.getElem?_toArray, List.getElem?_cons_succ, List.getElem?_cons_zero]
            change wpList _ _ _ [_, _, _, _] _ _
            go_wp2_with (first

      | (go_at_call 38; (with_reducible refine (words_o _).mono ?_); rintro e wa ⟨g, rfl, hga, hba⟩; have hia := (by first | exact blk_below hib hba | exact blk_below hid hba); obtain ⟨a0, a1, a2, a3, a4, a5, a6⟩ := seven_cells hia; have hca := words_cell hga (k := k) (by omega); have HTa := Lib.hid (by first | exact HTb.out.below hba | exact HTd.out.below hba))

      | (go_at_call 39; (with_reducible refine (itoa_any p SP.out _ (by first | exact HTa.out | exact HTd.out)).mono ?_); rintro e wb ⟨rfl, hbb⟩; have hib := (by first | exact blk_below hia hbb | exact blk_below hid hbb); obtain ⟨b0, b1, b2, b3, b4, b5, b6⟩ := seven_cells hib; have HTb := Lib.hid (by first | exact HTa.out.below hbb | exact HTd.out.below hbb); try have hcc := words_cell (blk_below hga hbb) (k := k) (by omega)))
            go_meet
            refine ⟨_, _, rfl, World.ownsRow_lit (base := w1.heap.size) (e := 9) (size := 1) _ #[.string ⟨(wordL (k : Int)).toArray⟩, .string ⟨(decL p.toNat).toArray⟩] 2 ?_ (by unfold maxLen; omega) rfl, ?_⟩
            · have h2 := hbd.size
              have h3 := hba.size
              have h4 := hbb.size
              omega
            · first
              | exact (below_nextT (below_nextT hbd hba) hbb).alloc (by have h2 := hbd.size; have h3 := hba.size; have h4 := hbb.size; omega) _
              | exact (below_nextT (below_nextT hbd hbb) hba).alloc (by have h2 := hbd.size; have h3 := hba.size; have h4 := hbb.size; omega) _
    · refine wpPlan_fork fun PL2 hPL2 => ?_
      simp only [List.filterMap_cons, List.filterMap_nil, List.getElem?_toArray, List.getElem?_cons_succ, List.getElem?_cons_zero]
      change wpList _ _ _ [_, _] _ _
      go_wp2_with (first

      | (go_at_call 38; (with_reducible refine (words_o _).mono ?_); rintro e wa ⟨g, rfl, hga, hba⟩; have hia := (by first | exact blk_below hib hba | exact blk_below hid hba); obtain ⟨a0, a1, a2, a3, a4, a5, a6⟩ := seven_cells hia; have hca := words_cell hga (k := k) (by omega); have HTa := Lib.hid (by first | exact HTb.out.below hba | exact HTd.out.below hba))

      | (go_at_call 39; (with_reducible refine (itoa_any p SP.out _ (by first | exact HTa.out | exact HTd.out)).mono ?_); rintro e wb ⟨rfl, hbb⟩; have hib := (by first | exact blk_below hia hbb | exact blk_below hid hbb); obtain ⟨b0, b1, b2, b3, b4, b5, b6⟩ := seven_cells hib; have HTb := Lib.hid (by first | exact HTa.out.below hbb | exact HTd.out.below hbb); try have hcc := words_cell (blk_below hga hbb) (k := k) (by omega)))
      refine hPL2 _ _ ?_ ?_
      · refine wpPlan_leaf fun PL3 hPL3 => ?_
        simp only [List.filterMap_cons, List.filterMap_nil, List.getElem?_toArray, List.getElem?_cons_succ, List.getElem?_cons_zero]
        change wpList _ _ _ [_, _, _, _, _, _] _ _
        go_wp2_with (first

      | (go_at_call 38; (with_reducible refine (words_o _).mono ?_); rintro e wa ⟨g, rfl, hga, hba⟩; have hia := (by first | exact blk_below hib hba | exact blk_below hid hba); obtain ⟨a0, a1, a2, a3, a4, a5, a6⟩ := seven_cells hia; have hca := words_cell hga (k := k) (by omega); have HTa := Lib.hid (by first | exact HTb.out.below hba | exact HTd.out.below hba))

      | (go_at_call 39; (with_reducible refine (itoa_any p SP.out _ (by first | exact HTa.out | exact HTd.out)).mono ?_); rintro e wb ⟨rfl, hbb⟩; have hib := (by first | exact blk_below hia hbb | exact blk_below hid hbb); obtain ⟨b0, b1, b2, b3, b4, b5, b6⟩ := seven_cells hib; have HTb := Lib.hid (by first | exact HTa.out.below hbb | exact HTd.out.below hbb); try have hcc := words_cell (blk_below hga hbb) (k := k) (by omega)))
        go_meet
        refine ⟨_, _, rfl, World.ownsRow_lit (base := w1.heap.size) (e := 9) (size := 1) _ #[.string ⟨(wordL (k : Int)).toArray⟩, .string ⟨(decL p.toNat).toArray⟩] 2 ?_ (by unfold maxLen; omega) rfl, ?_⟩
        · have h2 := hbd.size
          have h3 := hba.size
          have h4 := hbb.size
          omega
        · first
          | exact (below_nextT (below_nextT hbd hba) hbb).alloc (by have h2 := hbd.size; have h3 := hba.size; have h4 := hbb.size; omega) _
          | exact (below_nextT (below_nextT hbd hbb) hba).alloc (by have h2 := hbd.size; have h3 := hba.size; have h4 := hbb.size; omega) _
      · refine wpPlan_fork fun PL3 hPL3 => ?_
        simp only [List.filterMap_cons, List.filterMap_nil, List.getElem?_toArray, List.getElem?_cons_succ, List.getElem?_cons_zero]
        change wpList _ _ _ [_, _] _ _
        go_wp2_with (first

      | (go_at_call 38; (with_reducible refine (words_o _).mono ?_); rintro e wa ⟨g, rfl, hga, hba⟩; have hia := (by first | exact blk_below hib hba | exact blk_below hid hba); obtain ⟨a0, a1, a2, a3, a4, a5, a6⟩ := seven_cells hia; have hca := words_cell hga (k := k) (by omega); have HTa := Lib.hid (by first | exact HTb.out.below hba | exact HTd.out.below hba))

      | (go_at_call 39; (with_reducible refine (itoa_any p SP.out _ (by first | exact HTa.out | exact HTd.out)).mono ?_); rintro e wb ⟨rfl, hbb⟩; have hib := (by first | exact blk_below hia hbb | exact blk_below hid hbb); obtain ⟨b0, b1, b2, b3, b4, b5, b6⟩ := seven_cells hib; have HTb := Lib.hid (by first | exact HTa.out.below hbb | exact HTd.out.below hbb); try have hcc := words_cell (blk_below hga hbb) (k := k) (by omega)))
        refine hPL3 _ _ ?_ ?_
        · refine wpPlan_leaf fun PL4 hPL4 => ?_
          simp only [List.filterMap_cons, List.filterMap_nil, List.getElem?_toArray, List.getElem?_cons_succ, List.getElem?_cons_zero]
          change wpList _ _ _ [_, _, _, _] _ _
          go_wp2_with (first

      | (go_at_call 38; (with_reducible refine (words_o _).mono ?_); rintro e wa ⟨g, rfl, hga, hba⟩; have hia := (by first | exact blk_below hib hba | exact blk_below hid hba); obtain ⟨a0, a1, a2, a3, a4, a5, a6⟩ := seven_cells hia; have hca := words_cell hga (k := k) (by omega); have HTa := Lib.hid (by first | exact HTb.out.below hba | exact HTd.out.below hba))

      | (go_at_call 39; (with_reducible refine (itoa_any p SP.out _ (by first | exact HTa.out | exact HTd.out)).mono ?_); rintro e wb ⟨rfl, hbb⟩; have hib := (by first | exact blk_below hia hbb | exact blk_below hid hbb); obtain ⟨b0, b1, b2, b3, b4, b5, b6⟩ := seven_cells hib; have HTb := Lib.hid (by first | exact HTa.out.below hbb | exact HTd.out.below hbb); try have hcc := words_cell (blk_below hga hbb) (k := k) (by omega)))
          go_meet
          refine ⟨_, _, rfl, World.ownsRow_lit (base := w1.heap.size) (e := 9) (size := 1) _ #[.string ⟨(wordL (k : Int)).toArray⟩, .string ⟨(decL p.toNat).toArray⟩] 2 ?_ (by unfold maxLen; omega) rfl, ?_⟩
          · have h2 := hbd.size
            have h3 := hba.size
            have h4 := hbb.size
            omega
          · first
            | exact (below_nextT (below_nextT hbd hba) hbb).alloc (by have h2 := hbd.size; have h3 := hba.size; have h4 := hbb.size; omega) _
            | exact (below_nextT (below_nextT hbd hbb) hba).alloc (by have h2 := hbd.size; have h3 := hba.size; have h4 := hbb.size; omega) _
        · refine wpPlan_leaf fun PL4 hPL4 => ?_
          simp only [List.filterMap_cons, List.filterMap_nil, List.getElem?_toArray, List.getElem?_cons_succ, List.getElem?_cons_zero]
          change wpList _ _ _ [_, _, _, _] _ _
          go_wp2_with (first

      | (go_at_call 38; (with_reducible refine (words_o _).mono ?_); rintro e wa ⟨g, rfl, hga, hba⟩; have hia := (by first | exact blk_below hib hba | exact blk_below hid hba); obtain ⟨a0, a1, a2, a3, a4, a5, a6⟩ := seven_cells hia; have hca := words_cell hga (k := k) (by omega); have HTa := Lib.hid (by first | exact HTb.out.below hba | exact HTd.out.below hba))

      | (go_at_call 39; (with_reducible refine (itoa_any p SP.out _ (by first | exact HTa.out | exact HTd.out)).mono ?_); rintro e wb ⟨rfl, hbb⟩; have hib := (by first | exact blk_below hia hbb | exact blk_below hid hbb); obtain ⟨b0, b1, b2, b3, b4, b5, b6⟩ := seven_cells hib; have HTb := Lib.hid (by first | exact HTa.out.below hbb | exact HTd.out.below hbb); try have hcc := words_cell (blk_below hga hbb) (k := k) (by omega)))
          go_meet
          refine ⟨_, _, rfl, World.ownsRow_lit (base := w1.heap.size) (e := 9) (size := 1) _ #[.string ⟨(wordL (k : Int)).toArray⟩, .string ⟨(decL p.toNat).toArray⟩] 2 ?_ (by unfold maxLen; omega) rfl, ?_⟩
          · have h2 := hbd.size
            have h3 := hba.size
            have h4 := hbb.size
            omega
          · first
            | exact (below_nextT (below_nextT hbd hba) hbb).alloc (by have h2 := hbd.size; have h3 := hba.size; have h4 := hbb.size; omega) _
            | exact (below_nextT (below_nextT hbd hbb) hba).alloc (by have h2 := hbd.size; have h3 := hba.size; have h4 := hbb.size; omega) _
end Go.Proofs.YtaghecgjmkhpcaaGreatDoor
