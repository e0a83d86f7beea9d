/-
Scripts as texts, in plain words: what is read of a line, what is read of a text; turn, back, join, cut.
-/
import Derived.Test.YtaghecgjmkhpcaaGreatDoorTxU
import Derived.Lib.Bytealg
namespace Go.Proofs.YtaghecgjmkhpcaaGreatDoor
set_option linter.unusedVariables false
set_option linter.unusedSimpArgs false
open Go

/-- What stands in an operation's line by its kind. -/
def tailO (k : Int) (nm : List UInt8) (an bn : Nat) : Bool := if k = 1 then decide (bn ≤ 512) else if k = 2 then labB nm else if k = 4 then decide (1 ≤ an) && decide (an ≤ 3) else true
def sameO (o : Opx) : Bool := (o.s == 0 || srcB o.k) && (o.y == 0 || layB o.k) && (o.nm == [] || o.k == 2) && (o.ss == [] || o.k == 4) && (o.bs == [] || o.k == 1)
def mayO (o : Opx) : Bool := decide (1 ≤ o.k ∧ o.k ≤ 12) && sameO o && smlB o.p && smlB o.s && smlB o.y && tailO o.k o.nm o.ss.length o.bs.length
/-- An operation's SSRCs have 32 bits. -/
def ssOk (o : Opx) : Prop := ∀ x ∈ o.ss, x < 4294967296
def splitL (c : UInt8) : List UInt8 → List (List UInt8)
  | [] => [[]]
  | x :: t => if x = c then [] :: splitL c t else match splitL c t with
    | [] => [[x]]
    | w :: ws => (x :: w) :: ws
theorem splitL_ne (c : UInt8) (l : List UInt8) : splitL c l ≠ [] := by
  cases l with
  | nil => simp [splitL]
  | cons x t =>
    rw [splitL]
    split
    · simp
    · split <;> simp
theorem splitL_hit (c : UInt8) (t : List UInt8) : splitL c (c :: t) = [] :: splitL c t := by rw [splitL, if_pos rfl]
theorem splitL_step (c x : UInt8) (t : List UInt8) (h : x ≠ c) (w : List UInt8) (ws : List (List UInt8)) (e : splitL c t = w :: ws) : splitL c (x :: t) = (x :: w) :: ws := by
  rw [splitL, if_neg h, e]
theorem splitL_word (c : UInt8) : ∀ (w : List UInt8), (∀ x ∈ w, x ≠ c) → splitL c w = [w]
  | [], _ => rfl
  | x :: t, h => splitL_step c x t (h x (by simp)) _ _ (splitL_word c t fun y hy => h y (by simp [hy]))
theorem splitL_app (c : UInt8) : ∀ (w m : List UInt8), (∀ x ∈ w, x ≠ c) → splitL c (w ++ c :: m) = w :: splitL c m
  | [], m, _ => splitL_hit c m
  | x :: t, m, h => by
    rw [List.cons_append, splitL_step c x _ (h x (by simp)) _ _ (splitL_app c t m fun y hy => h y (by simp [hy]))]
theorem splitL_join (c : UInt8) : ∀ (ws : List (List UInt8)), ws ≠ [] → (∀ w ∈ ws, ∀ x ∈ w, x ≠ c) → splitL c (joinL c ws) = ws
  | [], h, _ => absurd rfl h
  | [w], _, h => splitL_word c w (h w (by simp))
  | w :: v :: r, _, h => by
    rw [joinL, splitL_app c w _ (h w (by simp)), splitL_join c (v :: r) (by simp) fun u hu => h u (by simp [hu])]
theorem joinL_split (c : UInt8) : ∀ l : List UInt8, joinL c (splitL c l) = l
  | [] => rfl
  | x :: t => by
    have ih := joinL_split c t
    by_cases hx : x = c
    · subst hx
      rw [splitL_hit]
      cases e : splitL x t with
      | nil => exact absurd e (splitL_ne x t)
      | cons w ws =>
        rw [joinL, ← e, ih]
        rfl
    · cases e : splitL c t with
      | nil => exact absurd e (splitL_ne c t)
      | cons w ws =>
        rw [splitL_step c x t hx _ _ e]
        rw [e] at ih
        cases ws with
        | nil =>
          rw [joinL] at ih ⊢
          rw [ih]
        | cons v r =>
          rw [joinL] at ih ⊢
          rw [← ih]
          rfl
/-- What stands in a text's pieces has no such byte. -/
theorem splitL_no (c : UInt8) : ∀ l : List UInt8, ∀ w ∈ splitL c l, ∀ x ∈ w, x ≠ c
  | [], w, hw, x, hx => by
    simp [splitL] at hw
    subst hw
    cases hx
  | y :: t, w, hw, x, hx => by
    by_cases hy : y = c
    · subst hy
      rw [splitL_hit] at hw
      rcases List.mem_cons.1 hw with rfl | hw
      · cases hx
      · exact splitL_no y t w hw x hx
    · cases e : splitL c t with
      | nil => exact absurd e (splitL_ne c t)
      | cons v r =>
        rw [splitL_step c y t hy _ _ e] at hw
        have ih := splitL_no c t
        rw [e] at ih
        rcases List.mem_cons.1 hw with rfl | hw
        · rcases List.mem_cons.1 hx with rfl | hx
          · exact hy
          · exact ih v (by simp) x hx
        · exact ih w (by simp [hw]) x hx
def digB (x : UInt8) : Bool := decide (48 ≤ x.toNat ∧ x.toNat ≤ 57)
/-- A number of at most three digits; -1. -/
def numL (l : List UInt8) : Int := if l.length < 1 ∨ 3 < l.length ∨ l.all digB = false then -1 else ((l.foldl (fun n x => 10 * n + (x.toNat - 48)) 0 : Nat) : Int)
theorem numL_decF : ∀ n : Fin 1000, numL (decL n.val) = n.val := by decide +kernel
theorem numL_dec (n : Nat) (h : n ≤ 999) : numL (decL n) = n := numL_decF ⟨n, by omega⟩
theorem decL_asciiF : ∀ n : Fin 1000, (decL n.val).all (fun x => digB x) = true ∧ (decL n.val) ≠ [] ∧ (decL n.val).length ≤ 3 := by decide +kernel
theorem decL_ok (n : Nat) (h : n ≤ 999) : (∀ x ∈ decL n, 48 ≤ x.toNat ∧ x.toNat ≤ 57) ∧ decL n ≠ [] ∧ (decL n).length ≤ 3 := by
  have := decL_asciiF ⟨n, by omega⟩
  refine ⟨fun x hx => ?_, this.2⟩
  have h1 := List.all_eq_true.1 this.1 x hx
  simpa [digB] using h1
theorem hexD_F : ∀ n : Fin 16, 48 ≤ (hexD n.val).toNat ∧ (hexD n.val).toNat ≤ 102 ∧ Lib.indexByte [48, 49, 50, 51, 52, 53, 54, 55, 56, 57, 97, 98, 99, 100, 101, 102] (hexD n.val) = n.val := by decide +kernel
theorem hexL_ok (l : List UInt8) : ∀ x ∈ hexL l, 48 ≤ x.toNat ∧ x.toNat ≤ 102 := by
  intro x hx
  obtain ⟨b, _, h⟩ := List.mem_flatMap.1 hx
  have hb := b.toNat_lt
  rcases List.mem_cons.1 h with rfl | h
  · exact ⟨(hexD_F ⟨b.toNat / 16, by omega⟩).1, (hexD_F ⟨b.toNat / 16, by omega⟩).2.1⟩
  · rcases List.mem_cons.1 h with rfl | h
    · exact ⟨(hexD_F ⟨b.toNat % 16, by omega⟩).1, (hexD_F ⟨b.toNat % 16, by omega⟩).2.1⟩
    · cases h
theorem hexL_cons (b : UInt8) (l : List UInt8) : hexL (b :: l) = hexD (b.toNat / 16) :: hexD (b.toNat % 16) :: hexL l := rfl
def unD (x : UInt8) : Int := Lib.indexByte [48, 49, 50, 51, 52, 53, 54, 55, 56, 57, 97, 98, 99, 100, 101, 102] x
def unhexL : List UInt8 → Option (List UInt8)
  | [] => some []
  | [_] => none
  | a :: b :: t => if unD a < 0 ∨ unD b < 0 then none else (unhexL t).map fun r => UInt8.ofNat (16 * (unD a).toNat + (unD b).toNat) :: r
theorem unD_hexD (n : Nat) (h : n < 16) : unD (hexD n) = n := (hexD_F ⟨n, h⟩).2.2
theorem unhex_hex : ∀ l : List UInt8, unhexL (hexL l) = some l
  | [] => rfl
  | b :: l => by
    have hb := b.toNat_lt
    rw [hexL_cons, unhexL, unD_hexD _ (by omega), unD_hexD _ (by omega), if_neg (by omega), unhex_hex l]
    simp only [Option.map_some, Option.some.injEq, List.cons.injEq, and_true]
    apply UInt8.toNat.inj
    rw [UInt8.toNat_ofNat']
    simp
    omega
theorem hexL_inj {l m : List UInt8} (h : hexL l = hexL m) : l = m := by
  have h1 := unhex_hex l
  rw [h, unhex_hex m] at h1
  injection h1 with h1
  exact h1.symm
theorem decL_inj {m n : Nat} (hm : m ≤ 999) (hn : n ≤ 999) (h : decL m = decL n) : m = n := by
  have h1 := numL_dec m hm
  rw [h, numL_dec n hn] at h1
  omega
theorem enc4_inj {m n : Nat} (hm : m < 4294967296) (hn : n < 4294967296) (h : enc 4 m = enc 4 n) : m = n := by
  have h1 := beN_enc 4 m (by simpa using hm)
  rw [h, beN_enc 4 n (by simpa using hn)] at h1
  exact h1.symm
/-- The kind of a first word; 0: none. -/
def kindL (w : List UInt8) : Nat := ((List.range 13).find? fun k => wordsT.getD k [] == w && decide (1 ≤ k)).getD 0
theorem kind_wordF : ∀ k : Fin 13, 1 ≤ k.val → kindL (wordL (k.val : Int)) = k.val ∧ wordL (k.val : Int) ≠ [] ∧ ∀ x ∈ wordL (k.val : Int), 97 ≤ x.toNat ∧ x.toNat ≤ 122 := by decide +kernel
theorem kind_word (k : Int) (h : 1 ≤ k ∧ k ≤ 12) : (kindL (wordL k) : Int) = k ∧ wordL k ≠ [] ∧ ∀ x ∈ wordL k, 97 ≤ x.toNat ∧ x.toNat ≤ 122 := by
  obtain ⟨n, rfl⟩ := Int.eq_ofNat_of_zero_le (show 0 ≤ k by omega)
  have := kind_wordF ⟨n, by omega⟩ (by simp; omega)
  exact ⟨by rw [this.1], this.2⟩
theorem kindL_of (w : List UInt8) (k : Nat) (h : kindL w = k) (h0 : k ≠ 0) : 1 ≤ k ∧ k ≤ 12 ∧ wordL (k : Int) = w := by
  unfold kindL at h
  cases e : (List.range 13).find? (fun k => wordsT.getD k [] == w && decide (1 ≤ k)) with
  | none => rw [e] at h; simp at h; omega
  | some j =>
    rw [e] at h
    simp at h
    subst h
    have h1 := List.find?_some e
    have h2 := List.mem_of_find?_eq_some e
    simp at h1 h2
    refine ⟨by omega, by omega, ?_⟩
    simpa [wordL, List.getD_eq_getElem?_getD] using h1.1
theorem kindL_no (w : List UInt8) (h : kindL w = 0) (k : Nat) (h1 : 1 ≤ k) (h2 : k ≤ 12) : wordL (k : Int) ≠ w := by
  intro e
  have := (kind_word k (by omega)).1
  rw [e, h] at this
  omega
theorem may_cases {q : Opx} (h : mayO q = true) : (0 ≤ q.p ∧ q.p ≤ 999) ∧ (0 ≤ q.s ∧ q.s ≤ 999) ∧ (0 ≤ q.y ∧ q.y ≤ 999) ∧
    ((q.k = 1 ∧ q.s = 0 ∧ q.y = 0 ∧ q.nm = [] ∧ q.ss = [] ∧ q.bs.length ≤ 512) ∨ (q.k = 2 ∧ q.s = 0 ∧ q.y = 0 ∧ q.ss = [] ∧ q.bs = [] ∧ labB q.nm = true) ∨ (q.k = 3 ∧ q.s = 0 ∧ q.y = 0 ∧ q.nm = [] ∧ q.ss = [] ∧ q.bs = []) ∨
     (q.k = 4 ∧ q.y = 0 ∧ q.nm = [] ∧ q.bs = [] ∧ 1 ≤ q.ss.length ∧ q.ss.length ≤ 3) ∨ ((q.k = 6 ∨ q.k = 12) ∧ q.nm = [] ∧ q.ss = [] ∧ q.bs = []) ∨ ((q.k = 5 ∨ (7 ≤ q.k ∧ q.k ≤ 11)) ∧ q.y = 0 ∧ q.nm = [] ∧ q.ss = [] ∧ q.bs = [])) := by
  simp only [mayO, sameO, smlB, srcB, layB, Bool.and_eq_true, Bool.or_eq_true, decide_eq_true_eq, beq_iff_eq] at h
  obtain ⟨⟨⟨⟨⟨hk, ⟨⟨⟨hs, hy⟩, hn⟩, hu⟩, hb⟩, h1⟩, h2⟩, h3⟩, ht⟩ := h
  refine ⟨h1, h2, h3, ?_⟩
  unfold tailO at ht
  by_cases k1 : q.k = 1
  · rw [if_pos k1] at ht
    left
    refine ⟨k1, ?_, ?_, ?_, ?_, by simpa using ht⟩
    · omega
    · omega
    · rcases hn with h | h
      · exact h
      · omega
    · rcases hu with h | h
      · exact h
      · omega
  right
  rw [if_neg k1] at ht
  have hb : q.bs = [] := hb.resolve_right k1
  by_cases k2 : q.k = 2
  · rw [if_pos k2] at ht
    left
    exact ⟨k2, by omega, by omega, hu.resolve_right (by omega), hb, ht⟩
  right
  rw [if_neg k2] at ht
  have hn : q.nm = [] := hn.resolve_right k2
  by_cases k3 : q.k = 3
  · left
    exact ⟨k3, by omega, by omega, hn, hu.resolve_right (by omega), hb⟩
  right
  by_cases k4 : q.k = 4
  · rw [if_pos k4] at ht
    left
    simp only [Bool.and_eq_true, decide_eq_true_eq] at ht
    exact ⟨k4, by omega, hn, hb, ht⟩
  right
  have hu : q.ss = [] := hu.resolve_right k4
  by_cases k6 : q.k = 6 ∨ q.k = 12
  · left
    exact ⟨k6, hn, hu, hb⟩
  · right
    exact ⟨by omega, by omega, hn, hu, hb⟩
/-- A word of a row of words; none: empty. -/
def wd (ws : List (List UInt8)) (i : Nat) : List UInt8 := ws.getD i []
def readW (ws : List (List UInt8)) : Opx :=
  ⟨(kindL (wd ws 0) : Nat), numL (wd ws 1), if 4 ≤ kindL (wd ws 0) then numL (wd ws 2) else 0, if kindL (wd ws 0) = 6 ∨ kindL (wd ws 0) = 12 then numL (wd ws 3) else 0, if kindL (wd ws 0) = 2 then wd ws 2 else [],
    if kindL (wd ws 0) = 4 then (ws.drop 3).map (fun w => beN ((unhexL w).getD []) % 4294967296) else [], if kindL (wd ws 0) = 1 then (unhexL (wd ws 2)).getD [] else []⟩
theorem readW_ssOk (ws : List (List UInt8)) : ssOk (readW ws) := by
  intro x hx
  unfold readW at hx
  dsimp only at hx
  split at hx
  · obtain ⟨w, _, rfl⟩ := List.mem_map.1 hx
    exact Nat.mod_lt _ (by decide)
  · cases hx
theorem wrds_1 {q : Opx} (h : q.k = 1) (h2 : q.ss = []) : wrdsL q = [wordL 1, decL q.p.toNat] ++ (if q.bs = [] then [] else [hexL q.bs]) := by
  simp [wrdsL, h, h2, srcB, layB]
theorem wrds_2 {q : Opx} (h : q.k = 2) (h2 : q.ss = []) (h3 : q.bs = []) : wrdsL q = [wordL 2, decL q.p.toNat, q.nm] := by
  simp [wrdsL, h, h2, h3, srcB, layB]
theorem wrds_3 {q : Opx} (h : q.k = 3) (h2 : q.ss = []) (h3 : q.bs = []) : wrdsL q = [wordL 3, decL q.p.toNat] := by
  simp [wrdsL, h, h2, h3, srcB, layB]
theorem wrds_4 {q : Opx} (h : q.k = 4) (h3 : q.bs = []) : wrdsL q = [wordL 4, decL q.p.toNat, decL q.s.toNat] ++ q.ss.map (fun x => hexL (enc 4 x)) := by
  simp [wrdsL, h, h3, srcB, layB]
theorem wrds_6 {q : Opx} (h : q.k = 6 ∨ q.k = 12) (h2 : q.ss = []) (h3 : q.bs = []) : wrdsL q = [wordL q.k, decL q.p.toNat, decL q.s.toNat, decL q.y.toNat] := by
  rcases h with h | h <;> simp [wrdsL, h, h2, h3, srcB, layB]
theorem wrds_5 {q : Opx} (h : q.k = 5 ∨ (7 ≤ q.k ∧ q.k ≤ 11)) (h2 : q.ss = []) (h3 : q.bs = []) : wrdsL q = [wordL q.k, decL q.p.toNat, decL q.s.toNat] := by
  have a : decide (4 ≤ q.k) = true := decide_eq_true (by omega)
  have b : (q.k == 6) = false := by simp; omega
  have c : (q.k == 12) = false := by simp; omega
  have d : ¬ q.k = 2 := by omega
  simp [wrdsL, h2, h3, srcB, layB, a, b, c, d]
theorem wrds_head (q : Opx) : wd (wrdsL q) 0 = wordL q.k := rfl
theorem num_back {n : Int} (h : 0 ≤ n ∧ n ≤ 999) : numL (decL n.toNat) = n := by
  rw [numL_dec _ (by omega)]
  omega
theorem kind_head {q : Opx} (h : mayO q = true) : kindL (wd (wrdsL q) 0) = q.k.toNat := by
  have hk : 1 ≤ q.k ∧ q.k ≤ 12 := by
    have := may_cases h
    omega
  have := (kind_word q.k hk).1
  rw [wrds_head]
  omega
theorem ss_back : ∀ l : List Nat, (∀ x ∈ l, x < 4294967296) → (l.map (fun x => hexL (enc 4 x))).map (fun w => beN ((unhexL w).getD []) % 4294967296) = l
  | [], _ => rfl
  | x :: l, h => by
    have hx := h x (by simp)
    rw [List.map_cons, List.map_cons, ss_back l fun y hy => h y (by simp [hy]), unhex_hex, Option.getD_some, beN_enc 4 x (by simpa using hx), Nat.mod_eq_of_lt hx]
theorem readW_wrds {q : Opx} (h : mayO q = true) (hs : ssOk q) : readW (wrdsL q) = q := by
  have hk := kind_head h
  obtain ⟨hp, hs', hy, hc⟩ := may_cases h
  unfold readW
  rw [hk]
  obtain ⟨k, p, s, y, nm, ss, bs⟩ := q
  simp only at hp hs' hy hc hk ⊢
  rcases hc with ⟨rfl, rfl, rfl, rfl, rfl, hb⟩ | ⟨rfl, rfl, rfl, rfl, rfl, hb⟩ | ⟨rfl, rfl, rfl, rfl, rfl, rfl⟩ | ⟨rfl, rfl, rfl, rfl, hb⟩ | ⟨hk6, rfl, rfl, rfl⟩ | ⟨hk5, rfl, rfl, rfl, rfl⟩
  · rw [wrds_1 rfl rfl]
    by_cases hbs : bs = []
    · subst hbs
      simp [wd, num_back hp]
      rfl
    · simp [wd, hbs, num_back hp, unhex_hex]
  · rw [wrds_2 rfl rfl rfl]
    simp [wd, num_back hp]
  · rw [wrds_3 rfl rfl rfl]
    simp [wd, num_back hp]
  · rw [wrds_4 rfl rfl]
    have e := ss_back ss hs
    simp only [List.map_map] at e
    simp [wd, num_back hp, num_back hs', e]
  · rw [wrds_6 hk6 rfl rfl]
    rcases hk6 with rfl | rfl
    all_goals simp [wd, num_back hp, num_back hs', num_back hy]
  · rw [wrds_5 hk5 rfl rfl]
    have a1 : 4 ≤ k.toNat := by omega
    have a2 : ¬ (k.toNat = 6 ∨ k.toNat = 12) := by omega
    have a3 : ¬ k.toNat = 2 := by omega
    have a4 : ¬ k.toNat = 4 := by omega
    have a5 : ¬ k.toNat = 1 := by omega
    have a6 : ((k.toNat : Nat) : Int) = k := by omega
    simp [wd, num_back hp, num_back hs', a1, a2, a3, a4, a5]
    omega
theorem wrds_bytes {q : Opx} (h : mayO q = true) : ∀ w ∈ wrdsL q, ∀ x ∈ w, 33 ≤ x.toNat := by
  obtain ⟨hp, hs', hy, hc⟩ := may_cases h
  have dp := (decL_ok q.p.toNat (by omega)).1
  have ds := (decL_ok q.s.toNat (by omega)).1
  have dy := (decL_ok q.y.toNat (by omega)).1
  have hk : 1 ≤ q.k ∧ q.k ≤ 12 := by omega
  have dw := (kind_word q.k hk).2.2
  intro w hw x hx
  unfold wrdsL at hw
  simp only [List.mem_append, List.mem_cons, List.not_mem_nil, or_false] at hw
  rcases hw with (rfl | rfl) | hw | hw | hw | hw | hw
  · have := dw x hx; omega
  · have := dp x hx; omega
  · split at hw
    · obtain rfl := List.mem_singleton.1 hw
      have := ds x hx; omega
    · cases hw
  · split at hw
    · obtain rfl := List.mem_singleton.1 hw
      have := dy x hx; omega
    · cases hw
  · split at hw
    · rename_i k2
      obtain rfl := List.mem_singleton.1 hw
      have hl : labB q.nm = true := by
        rcases hc with hc | hc | hc | hc | hc | hc
        · omega
        · exact hc.2.2.2.2.2
        · omega
        · omega
        · omega
        · omega
      exact labB_bytes hl x hx
    · cases hw
  · obtain ⟨n, _, rfl⟩ := List.mem_map.1 hw
    have := hexL_ok _ x hx
    omega
  · split at hw
    · cases hw
    · obtain rfl := List.mem_singleton.1 hw
      have := hexL_ok _ x hx
      omega
theorem wrds_ne (q : Opx) : wrdsL q ≠ [] := by simp [wrdsL]
theorem line_split {q : Opx} (h : mayO q = true) : splitL 32 (joinL 32 (wrdsL q)) = wrdsL q := by
  refine splitL_join 32 _ (wrds_ne q) fun w hw x hx e => ?_
  have := wrds_bytes h w hw x hx
  rw [e] at this
  exact absurd this (by decide)
theorem join_all {p : UInt8 → Prop} (c : UInt8) (hc : p c) : ∀ ws : List (List UInt8), (∀ w ∈ ws, ∀ x ∈ w, p x) → ∀ x ∈ joinL c ws, p x
  | [], _, x, hx => by cases hx
  | [w], h, x, hx => h w (by simp) x hx
  | w :: v :: r, h, x, hx => by
    rw [joinL, List.mem_append, List.mem_cons] at hx
    rcases hx with hx | rfl | hx
    · exact h w (by simp) x hx
    · exact hc
    · exact join_all c hc (v :: r) (fun u hu => h u (by simp [hu])) x hx
theorem line_bytes {q : Opx} (h : mayO q = true) : ∀ x ∈ joinL 32 (wrdsL q), x ≠ 10 := by
  intro x hx e
  have := join_all (p := fun x => 32 ≤ x.toNat) 32 (by decide) _ (fun w hw x hx => by have := wrds_bytes h w hw x hx; omega) x hx
  rw [e] at this
  exact absurd this (by decide)
theorem valid_pre (a b : List UInt8) (h : ∀ x ∈ a, x.toNat < 128) : Lib.validD (a ++ b) = Lib.validD b := by
  have := Lib.validD_ascii a.length (a ++ b) (by rw [List.take_left]; exact h)
  rwa [List.drop_left] at this
theorem valid_ascii (a : List UInt8) (h : ∀ x ∈ a, x.toNat < 128) : Lib.validD a = true := by
  have := valid_pre a [] h
  rw [List.append_nil] at this
  rw [this]
  rfl
theorem line_valid {q : Opx} (h : mayO q = true) : Lib.validD (joinL 32 (wrdsL q)) = true := by
  obtain ⟨hp, hs', hy, hc⟩ := may_cases h
  have dp := (decL_ok q.p.toNat (by omega)).1
  have ds := (decL_ok q.s.toNat (by omega)).1
  have dy := (decL_ok q.y.toNat (by omega)).1
  have hk : 1 ≤ q.k ∧ q.k ≤ 12 := by omega
  have dw := (kind_word q.k hk).2.2
  by_cases k2 : q.k = 2
  · have hc2 : q.ss = [] ∧ q.bs = [] ∧ labB q.nm = true := by
      rcases hc with hc | hc | hc | hc | hc | hc
      · omega
      · exact ⟨hc.2.2.2.1, hc.2.2.2.2.1, hc.2.2.2.2.2⟩
      · omega
      · omega
      · omega
      · omega
    rw [wrds_2 k2 hc2.1 hc2.2.1]
    have e : joinL 32 [wordL 2, decL q.p.toNat, q.nm] = (wordL 2 ++ 32 :: (decL q.p.toNat ++ [32])) ++ q.nm := by simp [joinL]
    rw [e, valid_pre]
    · exact labB_valid hc2.2.2
    · intro x hx
      simp only [List.mem_append, List.mem_cons, List.not_mem_nil, or_false] at hx
      rw [← k2] at hx
      rcases hx with hx | rfl | hx | rfl
      · have := dw x hx; omega
      · decide
      · have := dp x hx; omega
      · decide
  · refine valid_ascii _ (join_all 32 (by decide) _ fun w hw x hx => ?_)
    unfold wrdsL at hw
    simp only [List.mem_append, List.mem_cons, List.not_mem_nil, or_false] at hw
    rcases hw with (rfl | rfl) | hw | hw | hw | hw | hw
    · have := dw x hx; omega
    · have := dp x hx; omega
    · split at hw
      · obtain rfl := List.mem_singleton.1 hw
        have := ds x hx; omega
      · cases hw
    · split at hw
      · obtain rfl := List.mem_singleton.1 hw
        have := dy x hx; omega
      · cases hw
    · rw [if_neg k2] at hw
      cases hw
    · obtain ⟨n, _, rfl⟩ := List.mem_map.1 hw
      have := hexL_ok _ x hx
      omega
    · split at hw
      · cases hw
      · obtain rfl := List.mem_singleton.1 hw
        have := hexL_ok _ x hx
        omega
def zeroO : Opx := ⟨0, 0, 0, 0, [], [], []⟩
/-- The operation of a line, or what is wrong. -/
def oneL (s : List UInt8) : Int × Opx :=
  if Lib.validD s = false then (1, zeroO) else if kindL (wd (splitL 32 s) 0) = 0 then (4, zeroO)
  else if mayO (readW (splitL 32 s)) && (lineL (readW (splitL 32 s)) == s ++ [10]) then (0, readW (splitL 32 s)) else (1, zeroO)
theorem line_join {q : Opx} {s : List UInt8} (h : lineL q = s ++ [10]) : joinL 32 (wrdsL q) = s := by
  unfold lineL at h
  exact List.append_cancel_right h
theorem one_yes {s : List UInt8} {o : Opx} (hv : Lib.validD s = true) (hk : kindL (wd (splitL 32 s) 0) ≠ 0) (ho : ssOk o) (h : (mayO o && (lineL o == s ++ [10])) = true) : oneL s = (0, o) := by
  rw [Bool.and_eq_true, beq_iff_eq] at h
  have e := line_join h.2
  have e2 : splitL 32 s = wrdsL o := by rw [← e, line_split h.1]
  have e3 : readW (splitL 32 s) = o := by rw [e2, readW_wrds h.1 ho]
  unfold oneL
  rw [if_neg (by rw [hv]; decide), if_neg hk, e3, if_pos]
  rw [Bool.and_eq_true, beq_iff_eq]
  exact h
theorem one_not {s : List UInt8} {o : Opx} (hv : Lib.validD s = true) (hk : kindL (wd (splitL 32 s) 0) ≠ 0) (hq : ∀ q, mayO q = true → ssOk q → splitL 32 s = wrdsL q → o = q) (h : (mayO o && (lineL o == s ++ [10])) = false) : oneL s = (1, zeroO) := by
  unfold oneL
  rw [if_neg (by rw [hv]; decide), if_neg hk, if_neg]
  intro h2
  rw [Bool.and_eq_true, beq_iff_eq] at h2
  have e2 : splitL 32 s = wrdsL (readW (splitL 32 s)) := by
    have := line_split h2.1
    rw [line_join h2.2] at this
    exact this
  have := hq _ h2.1 (readW_ssOk _) e2
  rw [this, h2.1, h2.2] at h
  simp at h
theorem one_bad {s : List UInt8} (hv : Lib.validD s = false) : oneL s = (1, zeroO) := by
  unfold oneL
  rw [if_pos hv]
theorem one_kind {s : List UInt8} (hv : Lib.validD s = true) (hk : kindL (wd (splitL 32 s) 0) = 0) : oneL s = (4, zeroO) := by
  unfold oneL
  rw [if_neg (by rw [hv]; decide), if_pos hk]
theorem one_line {q : Opx} (h : mayO q = true) (hs : ssOk q) : oneL (joinL 32 (wrdsL q)) = (0, q) := by
  refine one_yes (line_valid h) ?_ hs ?_
  · rw [line_split h, kind_head h]
    have := may_cases h
    omega
  · rw [h]
    simp [lineL]
theorem one_cases (s : List UInt8) : (oneL s = (0, (oneL s).2) ∧ mayO (oneL s).2 = true ∧ ssOk (oneL s).2 ∧ lineL (oneL s).2 = s ++ [10]) ∨ oneL s = (1, zeroO) ∨ oneL s = (4, zeroO) := by
  unfold oneL
  split
  · exact .inr (.inl rfl)
  · split
    · exact .inr (.inr rfl)
    · split
      · rename_i h
        rw [Bool.and_eq_true, beq_iff_eq] at h
        exact .inl ⟨rfl, h.1, readW_ssOk _, h.2⟩
      · exact .inr (.inl rfl)
def printL (l : List Opx) : List UInt8 := if l.length ≤ 256 ∧ l.all mayO = true then l.flatMap lineL else []
/-- Lines behind operations that were read. -/
def parseA (acc : List Opx) : List (List UInt8) → List Opx × Int × Int
  | [] => (acc, 0, 0)
  | [l] => if l = [] then (acc, 0, 0) else if acc.length = 256 then ([], 257, 3) else ([], acc.length + 1, if (oneL l).1 = 0 then 2 else (oneL l).1)
  | l :: m :: rest => if acc.length = 256 then ([], 257, 3) else if (oneL l).1 = 0 then parseA (acc ++ [(oneL l).2]) (m :: rest) else ([], acc.length + 1, (oneL l).1)
def textL (s : List UInt8) : List Opx × Int × Int := if 262144 < s.length then ([], 0, 5) else parseA [] (splitL 10 s)
theorem parseA_ok (acc : List Opx) (l : List UInt8) (ls : List (List UInt8)) (hl : ls ≠ []) (ha : acc.length ≠ 256) (h : (oneL l).1 = 0) : parseA acc (l :: ls) = parseA (acc ++ [(oneL l).2]) ls := by
  cases ls with
  | nil => exact absurd rfl hl
  | cons m rest => rw [parseA, if_neg ha, if_pos h]
theorem parseA_bad (acc : List Opx) (l : List UInt8) (ls : List (List UInt8)) (hl : ls ≠ []) (ha : acc.length ≠ 256) (h : (oneL l).1 ≠ 0) : parseA acc (l :: ls) = (([] : List Opx), (acc.length : Int) + 1, (oneL l).1) := by
  cases ls with
  | nil => exact absurd rfl hl
  | cons m rest => rw [parseA, if_neg ha, if_neg h]
theorem parseA_many (acc : List Opx) (l : List UInt8) (ls : List (List UInt8)) (hl : ls ≠ []) (ha : acc.length = 256) : parseA acc (l :: ls) = ([], 257, 3) := by
  cases ls with
  | nil => exact absurd rfl hl
  | cons m rest => rw [parseA, if_pos ha]
theorem parse_lines : ∀ (l : List Opx) (acc : List Opx) (rest : List UInt8), (∀ q ∈ l, mayO q = true ∧ ssOk q) → acc.length + l.length ≤ 256 → parseA acc (splitL 10 (l.flatMap lineL ++ rest)) = parseA (acc ++ l) (splitL 10 rest)
  | [], acc, rest, _, _ => by simp
  | q :: l, acc, rest, h, hn => by
    have hq := h q (by simp)
    have e : (q :: l).flatMap lineL ++ rest = joinL 32 (wrdsL q) ++ 10 :: (l.flatMap lineL ++ rest) := by simp [lineL]
    rw [List.length_cons] at hn
    rw [e, splitL_app 10 _ _ (line_bytes hq.1), parseA_ok _ _ _ (splitL_ne 10 _) (by omega) (by rw [one_line hq.1 hq.2]), one_line hq.1 hq.2, parse_lines l (acc ++ [q]) rest (fun r hr => h r (by simp [hr])) (by simp; omega)]
    simp
theorem parse_nil (acc : List Opx) : parseA acc (splitL 10 []) = (acc, 0, 0) := rfl
theorem parse_back : ∀ (ls : List (List UInt8)) (acc : List Opx), ls ≠ [] → (parseA acc ls).2.2 = 0 → acc.length ≤ 256 → ∃ l, (parseA acc ls).1 = acc ++ l ∧ (parseA acc ls).2.1 = 0 ∧ (∀ q ∈ l, mayO q = true ∧ ssOk q) ∧ joinL 10 ls = l.flatMap lineL ∧ (acc ++ l).length ≤ 256
  | [], acc, h, _, _ => absurd rfl h
  | [x], acc, _, h, ha => by
    rw [parseA] at h ⊢
    by_cases hx : x = []
    · subst hx
      rw [if_pos rfl]
      exact ⟨[], by simp, rfl, by simp, rfl, by simpa using ha⟩
    · rw [if_neg hx] at h
      split at h
      · cases h
      · dsimp only at h
        split at h
        · cases h
        · omega
  | x :: m :: rest, acc, _, h, ha => by
    by_cases hc : acc.length = 256
    · rw [parseA, if_pos hc] at h
      cases h
    · by_cases h0 : (oneL x).1 = 0
      · rw [parseA_ok acc x _ (by simp) hc h0] at h ⊢
        obtain ⟨l, h1, h2, h3, h4, h5⟩ := parse_back (m :: rest) (acc ++ [(oneL x).2]) (by simp) h (by simp; omega)
        have hone : mayO (oneL x).2 = true ∧ ssOk (oneL x).2 ∧ lineL (oneL x).2 = x ++ [10] := by
          rcases one_cases x with h | h | h
          · exact h.2
          · rw [h] at h0; cases h0
          · rw [h] at h0; cases h0
        refine ⟨(oneL x).2 :: l, by rw [h1]; simp, h2, ?_, ?_, ?_⟩
        · intro q hq
          rcases List.mem_cons.1 hq with rfl | hq
          · exact ⟨hone.1, hone.2.1⟩
          · exact h3 q hq
        · rw [joinL, h4, List.flatMap_cons, hone.2.2]
          simp
        · have : acc ++ (oneL x).2 :: l = acc ++ [(oneL x).2] ++ l := by simp
          rw [this]
          exact h5
      · rw [parseA_bad acc x _ (by simp) hc h0] at h
        exact absurd h h0
theorem parse_err : ∀ (ls : List (List UInt8)) (acc : List Opx), (parseA acc ls).2.2 ≠ 0 → (parseA acc ls).1 = [] ∧ 1 ≤ (parseA acc ls).2.1 ∧ (parseA acc ls).2.2 ≠ 5
  | [], acc, h => absurd rfl h
  | [x], acc, h => by
    rw [parseA] at h ⊢
    split
    · rename_i hx
      rw [if_pos hx] at h
      exact absurd rfl h
    · split
      · exact ⟨rfl, by decide, by decide⟩
      · refine ⟨rfl, by dsimp only; omega, ?_⟩
        dsimp only
        rcases one_cases x with h | h | h
        · rw [h.1]; simp
        · rw [h]; decide
        · rw [h]; decide
  | x :: m :: rest, acc, h => by
    by_cases hc : acc.length = 256
    · rw [parseA, if_pos hc]
      exact ⟨rfl, by decide, by decide⟩
    · by_cases h0 : (oneL x).1 = 0
      · rw [parseA_ok acc x _ (by simp) hc h0] at h ⊢
        exact parse_err (m :: rest) _ h
      · rw [parseA_bad acc x _ (by simp) hc h0]
        refine ⟨rfl, by dsimp only; omega, ?_⟩
        dsimp only
        rcases one_cases x with h | h | h
        · rw [h.1]; simp
        · rw [h]; decide
        · rw [h]; decide
theorem parse_shift (d : Nat) : ∀ (ls : List (List UInt8)) (acc acc' : List Opx), acc'.length = acc.length + d → acc'.length ≤ 256 → (parseA acc' ls).2.2 = 3 ∨ ((parseA acc' ls).2.2 = (parseA acc ls).2.2 ∧ ((parseA acc ls).2.2 ≠ 0 → (parseA acc' ls).2.1 = (parseA acc ls).2.1 + d))
  | [], acc, acc', _, _ => .inr ⟨rfl, fun h => absurd rfl h⟩
  | [x], acc, acc', hd, h6 => by
    rw [parseA, parseA]
    by_cases hx : x = []
    · rw [if_pos hx, if_pos hx]
      exact .inr ⟨rfl, fun h => absurd rfl h⟩
    · rw [if_neg hx, if_neg hx]
      by_cases hc : acc'.length = 256
      · rw [if_pos hc]
        exact .inl rfl
      · rw [if_neg hc, if_neg (show ¬ acc.length = 256 by omega)]
        exact .inr ⟨rfl, fun _ => by dsimp only; omega⟩
  | x :: m :: rest, acc, acc', hd, h6 => by
    by_cases hc : acc'.length = 256
    · rw [parseA_many acc' x _ (by simp) hc]
      exact .inl rfl
    · by_cases h0 : (oneL x).1 = 0
      · rw [parseA_ok acc x _ (by simp) (by omega) h0, parseA_ok acc' x _ (by simp) hc h0]
        exact parse_shift d (m :: rest) _ _ (by simp; omega) (by simp; omega)
      · rw [parseA_bad acc x _ (by simp) (by omega) h0, parseA_bad acc' x _ (by simp) hc h0]
        exact .inr ⟨rfl, fun _ => by dsimp only; omega⟩
theorem print_yes {l : List Opx} (hn : l.length ≤ 256) (h : ∀ q ∈ l, mayO q = true) : printL l = l.flatMap lineL := by
  unfold printL
  rw [if_pos ⟨hn, List.all_eq_true.2 h⟩]
theorem line_ne (q : Opx) : lineL q ≠ [] := by simp [lineL]
/-- What is written is read as it was. -/
theorem text_turn {l : List Opx} (hn : l.length ≤ 256) (h : ∀ q ∈ l, mayO q = true ∧ ssOk q) (hs : (printL l).length ≤ 262144) : textL (printL l) = (l, 0, 0) := by
  unfold textL
  rw [if_neg (by omega), print_yes hn fun q hq => (h q hq).1]
  have := parse_lines l [] [] h (by simpa using hn)
  rw [List.append_nil] at this
  rw [this, parse_nil]
  simp
/-- What is read is written as it was. -/
theorem text_back {s : List UInt8} (h : (textL s).2.2 = 0) : (textL s).2.1 = 0 ∧ printL (textL s).1 = s ∧ (∀ q ∈ (textL s).1, mayO q = true ∧ ssOk q) := by
  unfold textL at h ⊢
  split
  · rename_i hl
    rw [if_pos hl] at h
    cases h
  · rename_i hl
    rw [if_neg hl] at h
    obtain ⟨l, h1, h2, h3, h4, h5⟩ := parse_back (splitL 10 s) [] (splitL_ne 10 s) h (by simp)
    rw [List.nil_append] at h1 h5
    rw [h1]
    refine ⟨h2, ?_, h3⟩
    rw [print_yes h5 fun q hq => (h3 q hq).1, ← h4, joinL_split]
theorem text_err {s : List UInt8} (h : (textL s).2.2 ≠ 0) : (textL s).1 = [] ∧ (0 < (textL s).2.1 ↔ (textL s).2.2 ≠ 5) := by
  unfold textL at h ⊢
  split
  · simp
  · rename_i hl
    rw [if_neg hl] at h
    have := parse_err _ _ h
    exact ⟨this.1, fun _ => this.2.2, fun _ => by omega⟩
theorem print_all {l : List Opx} (h : printL l ≠ []) : l.length ≤ 256 ∧ ∀ q ∈ l, mayO q = true := by
  unfold printL at h
  split at h
  · rename_i h2
    exact ⟨h2.1, List.all_eq_true.1 h2.2⟩
  · exact absurd rfl h
theorem print_app {a b : List Opx} (ha : a.length ≤ 100) (hb : b.length ≤ 100) (h1 : a = [] ∨ printL a ≠ []) (h2 : b = [] ∨ printL b ≠ []) : printL (a ++ b) = printL a ++ printL b := by
  have key : ∀ l : List Opx, l = [] ∨ printL l ≠ [] → ∀ q ∈ l, mayO q = true := by
    rintro l (rfl | h)
    · simp
    · exact (print_all h).2
  have ka := key a h1
  have kb := key b h2
  rw [print_yes (by omega) ka, print_yes (by omega) kb, print_yes (by simp; omega) (by intro q hq; rcases List.mem_append.1 hq with h | h; exact ka q h; exact kb q h), List.flatMap_append]
theorem text_join {a : List Opx} {bad : List UInt8} (ha : a.length ≤ 100) (h1 : a = [] ∨ printL a ≠ []) (hs : ∀ q ∈ a, ssOk q) (e0 : (textL bad).2.2 ≠ 0) (e5 : (textL bad).2.2 ≠ 5)
    (f5 : (textL (printL a ++ bad)).2.2 ≠ 5) (f3 : (textL (printL a ++ bad)).2.2 ≠ 3) : (textL (printL a ++ bad)).2.2 = (textL bad).2.2 ∧ (textL (printL a ++ bad)).2.1 = (textL bad).2.1 + a.length := by
  have ka : ∀ q ∈ a, mayO q = true := by
    rcases h1 with rfl | h
    · simp
    · exact (print_all h).2
  unfold textL at *
  by_cases l1 : 262144 < bad.length
  · rw [if_pos l1] at e5
    exact absurd rfl e5
  · by_cases l2 : 262144 < (printL a ++ bad).length
    · rw [if_pos l2] at f5
      exact absurd rfl f5
    · rw [if_neg l1] at e0 ⊢
      rw [if_neg l2] at f3 ⊢
      rw [print_yes (by omega) ka] at f3 ⊢
      rw [parse_lines a [] bad (fun q hq => ⟨ka q hq, hs q hq⟩) (by simp; omega), List.nil_append] at f3 ⊢
      rcases parse_shift a.length (splitL 10 bad) [] a (by simp) (by omega) with h | h
      · exact absurd h f3
      · exact ⟨h.1, h.2 e0⟩
theorem line_count {q : Opx} (h : mayO q = true) : (lineL q).count 10 = 1 := by
  unfold lineL
  rw [List.count_append, List.count_eq_zero_of_not_mem (fun hm => line_bytes h 10 hm rfl)]
  rfl
theorem lines_cut : ∀ (l : List Opx) (i : Nat), (∀ q ∈ l, mayO q = true) → i ≤ (l.flatMap lineL).length → ∃ j part, j ≤ l.length ∧ (l.flatMap lineL).take i = (l.take j).flatMap lineL ++ part ∧ (∀ x ∈ part, x ≠ 10) ∧ ((l.flatMap lineL).take i).count 10 = j
  | [], i, _, _ => ⟨0, [], by simp, by simp, by simp, by simp⟩
  | q :: l, i, h, hi => by
    have hq := h q (by simp)
    by_cases hc : i < (lineL q).length
    · have e : ((q :: l).flatMap lineL).take i = (joinL 32 (wrdsL q)).take i := by
        rw [List.flatMap_cons, List.take_append_of_le_length (by omega)]
        unfold lineL at hc ⊢
        rw [List.length_append, List.length_singleton] at hc
        rw [List.take_append_of_le_length (by omega)]
      have hno : ∀ x ∈ (joinL 32 (wrdsL q)).take i, x ≠ 10 := fun x hx => line_bytes hq x (List.mem_of_mem_take hx)
      exact ⟨0, (joinL 32 (wrdsL q)).take i, by simp, by rw [e]; simp, hno, by rw [e, List.count_eq_zero_of_not_mem (fun hm => hno 10 hm rfl)]⟩
    · rw [List.flatMap_cons, List.length_append] at hi
      obtain ⟨j, part, h1, h2, h3, h4⟩ := lines_cut l (i - (lineL q).length) (fun r hr => h r (by simp [hr])) (by omega)
      have e : ((q :: l).flatMap lineL).take i = lineL q ++ (l.flatMap lineL).take (i - (lineL q).length) := by
        rw [List.flatMap_cons, List.take_append, List.take_of_length_le (by omega)]
      refine ⟨j + 1, part, by simp; omega, ?_, h3, ?_⟩
      · rw [e, h2]
        simp
      · rw [e, List.count_append, line_count hq, h4]
        omega
/-- A text cut. -/
theorem text_cut {l : List Opx} (hn : l.length ≤ 100) (h : ∀ q ∈ l, mayO q = true ∧ ssOk q) {i : Nat} (hi : i ≤ (l.flatMap lineL).length) (hs : (l.flatMap lineL).length ≤ 262144) :
    if i = 0 ∨ ((l.flatMap lineL).take i).getLast? = some 10 then (textL ((l.flatMap lineL).take i)).2.2 = 0 ∧ (textL ((l.flatMap lineL).take i)).2.1 = 0 ∧ (textL ((l.flatMap lineL).take i)).1.length = ((l.flatMap lineL).take i).count 10
    else (textL ((l.flatMap lineL).take i)).2.2 ≠ 0 ∧ (textL ((l.flatMap lineL).take i)).2.1 = ((l.flatMap lineL).take i).count 10 + 1 ∧ (textL ((l.flatMap lineL).take i)).1 = [] := by
  obtain ⟨j, part, h1, h2, h3, h4⟩ := lines_cut l i (fun q hq => (h q hq).1) hi
  have e : textL ((l.flatMap lineL).take i) = parseA (l.take j) (splitL 10 part) := by
    unfold textL
    rw [if_neg (by rw [List.length_take]; omega), h2, parse_lines (l.take j) [] part (fun q hq => h q (List.mem_of_mem_take hq)) (by rw [List.length_take]; simp; omega), List.nil_append]
  rw [e, h4]
  by_cases hp : part = []
  · subst hp
    rw [List.append_nil] at h2
    have hif : i = 0 ∨ ((l.flatMap lineL).take i).getLast? = some 10 := by
      rcases Nat.eq_zero_or_pos i with h0 | h0
      · exact .inl h0
      · right
        rw [h2]
        have hj : 0 < j := by
          rcases Nat.eq_zero_or_pos j with rfl | h
          · exfalso
            have := congrArg List.length h2
            rw [List.length_take, Nat.min_eq_left hi] at this
            simp at this
            omega
          · exact h
        obtain ⟨m, rfl⟩ : ∃ m, j = m + 1 := ⟨j - 1, by omega⟩
        rw [List.take_add_one, List.getElem?_eq_getElem (by omega), List.flatMap_append]
        have e9 : (some l[m]).toList.flatMap lineL = joinL 32 (wrdsL l[m]) ++ [10] := by simp [lineL]
        rw [e9, ← List.append_assoc, List.getLast?_append]
        rfl
    rw [if_pos hif, parse_nil]
    exact ⟨rfl, rfl, by rw [List.length_take]; omega⟩
  · have hif : ¬ (i = 0 ∨ ((l.flatMap lineL).take i).getLast? = some 10) := by
      rintro (h0 | h0)
      · subst h0
        rw [List.take_zero] at h2
        have := congrArg List.length h2
        simp at this
        have hp2 := List.length_pos_iff.2 hp
        omega
      · rw [h2, List.getLast?_append] at h0
        cases e8 : part.getLast? with
        | none => exact hp (List.getLast?_eq_none_iff.1 e8)
        | some v =>
          rw [e8] at h0
          have h0 : v = 10 := by simpa using h0
          subst h0
          exact h3 10 (List.mem_of_getLast? e8) rfl
    rw [if_neg hif, splitL_word 10 part h3, parseA, if_neg hp, if_neg (by rw [List.length_take]; omega)]
    refine ⟨?_, ?_, rfl⟩
    · dsimp only
      rcases one_cases part with h | h | h
      · rw [h.1]; simp
      · rw [h]; decide
      · rw [h]; decide
    · dsimp only
      rw [List.length_take]
      omega
end Go.Proofs.YtaghecgjmkhpcaaGreatDoor
