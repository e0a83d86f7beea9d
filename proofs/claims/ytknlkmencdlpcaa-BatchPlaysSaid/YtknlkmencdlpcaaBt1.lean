/-
Writes that wait, in memory: rows of structs, a pool of bytes that nobody changes.
The walks of package batch: New, packet, Add.
-/
import Derived.Test.YtknlkmencdlpcaaHold
namespace Go.Proofs.Ytknlkmencdlpcaa
set_option linter.unusedVariables false
set_option linter.unusedSimpArgs false
open Go Go.RowKit

section
variable {α : Type} (V : α → List Value)
def rowG (xs : List α) : List Value := xs.flatMap V
theorem rowG_nil : rowG V [] = [] := rfl
theorem rowG_append (xs ys : List α) : rowG V (xs ++ ys) = rowG V xs ++ rowG V ys := by simp [rowG]
theorem rowG_one (x : α) : rowG V [x] = V x := by simp [rowG]
variable {V} {s : Nat} (hV : ∀ x, (V x).length = s)
include hV
theorem rowG_length (xs : List α) : (rowG V xs).length = xs.length * s := by
  induction xs with
  | nil => simp [rowG]
  | cons x xs ih =>
    have e : rowG V (x :: xs) = V x ++ rowG V xs := rfl
    rw [e, List.length_append, hV, ih, List.length_cons, Nat.add_mul]
    omega
theorem rowG_drop (xs : List α) (k : Nat) : (rowG V xs).drop (k * s) = rowG V (xs.drop k) := by
  induction xs generalizing k with
  | nil => simp [rowG]
  | cons x xs ih =>
    cases k with
    | zero => simp
    | succ k =>
      have e : rowG V (x :: xs) = V x ++ rowG V xs := rfl
      rw [e, List.drop_succ_cons, ← ih k, show (k + 1) * s = s + k * s by rw [Nat.add_mul, Nat.one_mul, Nat.add_comm], ← List.drop_drop, List.drop_left' (hV x)]
theorem rowG_at (xs : List α) (k j : Nat) (h : k < xs.length) (hj : j < s) : (rowG V xs)[k * s + j]? = (V xs[k])[j]? := by
  have e : rowG V (xs.drop k) = V xs[k] ++ rowG V (xs.drop (k + 1)) := by rw [List.drop_eq_getElem_cons h]; rfl
  rw [← List.getElem?_drop, rowG_drop hV, e, List.getElem?_append_left (by rw [hV]; exact hj)]
end
/-- The cells of one of a row. -/
theorem rowG_cells {α : Type} {V : α → List Value} {s : Nat} (hV : ∀ x, (V x).length = s) {w : World} {B : Nat} {e : TypeId} {A : Option Addr} {n c : Nat} {xs : List α} (ho : w.ownsRow B e s (.slice A n c) n (rowG V xs)) (hs : 0 < s) {k : Nat} (hk : k < xs.length) :
    ∃ g, A = some ⟨g, 0, none⟩ ∧ xs.length = n ∧ n ≤ c ∧ ∀ j v, (V xs[k])[j]? = some v → w.cell? ⟨g, k * s + j, none⟩ = some v := by
  have hl := ho.1
  rw [rowG_length hV] at hl
  have hxn : xs.length = n := Nat.eq_of_mul_eq_mul_right hs hl
  obtain ⟨g, cap, hv, _⟩ := ho.form (by omega)
  injection hv with e1 e2 e3
  subst e1
  refine ⟨g, rfl, hxn, own_cap' ho, fun j v hj => ?_⟩
  have hjs : j < s := by have := (List.getElem?_eq_some_iff.1 hj).1; rw [hV] at this; exact this
  have h1 : k * s + s ≤ n * s := by
    have : (k + 1) * s ≤ n * s := Nat.mul_le_mul_right s (by omega)
    rw [Nat.add_mul, Nat.one_mul] at this
    exact this
  rw [ho.cellAt (k * s + j) (by omega), rowG_at hV xs k j hk hjs, hj]
theorem rowG_len {α : Type} {V : α → List Value} {s : Nat} (hV : ∀ x, (V x).length = s) {w : World} {B : Nat} {e : TypeId} {A : Option Addr} {n c : Nat} {xs : List α} (ho : w.ownsRow B e s (.slice A n c) n (rowG V xs)) (hs : 0 < s) : xs.length = n := by
  have hl := ho.1
  rw [rowG_length hV] at hl
  exact Nat.eq_of_mul_eq_mul_right hs hl
/-- Bytes somewhere in memory. -/
structure Bz where
  A : Option Addr
  n : Nat
  c : Nat
  l : List UInt8
def Bz.v (z : Bz) : Value := .slice z.A z.n z.c
structure Bz.ok (z : Bz) (w : World) : Prop where
  bt : Bts w z.A z.n z.c z.l
  nl : z.A = none → z.n = 0 ∧ z.c = 0
  hn : z.n ≤ 140737488351232
/-- A write: all but its bytes; a thing that was sent. -/
structure Wr where
  k : Int
  p : Int
  s : Int
  i : Int
  g : Int
  sq : Nat
  tm : Nat
  ss : Nat
  f : Nat
  z : Bz
def wrV (x : Wr) : List Value := [.int .i64 x.k, .int .i64 x.p, .int .i64 x.s, .int .i64 x.i, .int .u32 x.g, .int .u16 x.sq, .int .u32 x.tm, .int .u32 x.ss, .int .u16 x.f, .slice x.z.A x.z.n x.z.c]
theorem wrV_length (x : Wr) : (wrV x).length = 10 := rfl
structure Snt where
  k : Int
  p : Int
  s : Int
  z : Bz
def snV (x : Snt) : List Value := [.int .i64 x.k, .int .i64 x.p, .int .i64 x.s, .slice x.z.A x.z.n x.z.c]
theorem snV_length (x : Snt) : (snV x).length = 4 := rfl
def Wr.pOk (x : Wr) : Prop := x.sq < 65536 ∧ x.tm < 4294967296 ∧ x.ss < 4294967296 ∧ x.f < 65536
theorem slW : SliceT Try.prog 90 92 (.agg #[.int .i64 0, .int .i64 0, .int .i64 0, .int .i64 0, .int .u32 0, .int .u16 0, .int .u32 0, .int .u32 0, .int .u16 0, .slice none 0 0]) 10 80 := sliceT_of Try.underlying90 (by kernel_rfl) rfl (by omega) (by omega)
theorem slSn : SliceT Try.prog 95 97 (.agg #[.int .i64 0, .int .i64 0, .int .i64 0, .slice none 0 0]) 4 48 := sliceT_of Try.underlying95 (by kernel_rfl) rfl (by omega) (by omega)
theorem wrV_one (x : Wr) : ∀ u ∈ wrV x, u.oneCell' = true := by
  intro u hu
  simp only [wrV, List.mem_cons, List.not_mem_nil, or_false] at hu
  rcases hu with rfl | rfl | rfl | rfl | rfl | rfl | rfl | rfl | rfl | rfl <;> rfl
theorem snV_one (x : Snt) : ∀ u ∈ snV x, u.oneCell' = true := by
  intro u hu
  simp only [snV, List.mem_cons, List.not_mem_nil, or_false] at hu
  rcases hu with rfl | rfl | rfl | rfl <;> rfl
/-- Bytes that nobody changes. -/
def rPool (F : Nat → Prop) (Z : List Bz) : Rsc := (fun w => ∀ z ∈ Z, z.ok w ∧ (0 < z.n → ∀ b, z.A.map Addr.block = some b → F b), F)
theorem stb_pool {F : Nat → Prop} {Z : List Bz} : Stb (rPool F Z) := fun w w' X h hw hx z hz =>
  ⟨⟨(h z hz).1.bt.wen hw (fun h0 b hb => hx b ((h z hz).2 h0 b hb)), (h z hz).1.nl, (h z hz).1.hn⟩, (h z hz).2⟩
section
variable {w0 w w' : World} {B : Nat} {l : List Rsc} {F : Nat → Prop} {Z : List Bz}
theorem Hold.pool (h : Hold w0 w B l) (i : Nat) (hi : l[i]? = some (rPool F Z)) {z : Bz} (hz : z ∈ Z) : z.ok w := (Hold.get h i hi z hz).1
/-- Two things become one. -/
theorem Hold.join {r q r' : Rsc} (h : Hold w0 w B (r :: l)) (i : Nat) (hi : l[i]? = some q) (hn : r'.1 w) (hst : Stb r') (hf : ∀ k, r'.2 k → r.2 k ∨ q.2 k) : Hold w0 w B (l.set i r') := by
  have hq := List.mem_of_getElem? hi
  have hil := (List.getElem?_eq_some_iff.1 hi).1
  have hmem : ∀ s ∈ l.set i r', s = r' ∨ ∃ j, j ≠ i ∧ l[j]? = some s := by
    intro s hs
    obtain ⟨j, hj⟩ := List.getElem?_of_mem hs
    by_cases e : j = i
    · subst e
      rw [List.getElem?_set_self hil] at hj
      exact .inl (Option.some.inj hj).symm
    · rw [List.getElem?_set_ne (fun e' => e e'.symm)] at hj
      exact .inr ⟨j, e, hj⟩
  refine ⟨fun s hs => ?_, fun s hs => ?_, fun s hs => ?_, fun a b s t ha hb hab k hk hk' => ?_, h.b, h.hB, h.hs⟩
  · rcases hmem s hs with rfl | ⟨j, hj, hs'⟩
    · exact hn
    · exact h.now s (List.mem_cons_of_mem _ (List.mem_of_getElem? hs'))
  · rcases hmem s hs with rfl | ⟨j, hj, hs'⟩
    · intro k hk
      rcases hf k hk with h1 | h1
      · exact h.lt r (List.mem_cons_self ..) k h1
      · exact h.lt q (List.mem_cons_of_mem _ hq) k h1
    · exact h.lt s (List.mem_cons_of_mem _ (List.mem_of_getElem? hs'))
  · rcases hmem s hs with rfl | ⟨j, hj, hs'⟩
    · exact hst
    · exact h.stb s (List.mem_cons_of_mem _ (List.mem_of_getElem? hs'))
  · have hD := h.dis
    by_cases e : a = i
    · subst e
      rw [List.getElem?_set_self hil] at ha
      obtain rfl := Option.some.inj ha
      rw [List.getElem?_set_ne hab] at hb
      rcases hf k hk with h1 | h1
      · exact hD 0 (b + 1) r t rfl hb (by omega) k h1 hk'
      · exact hD (a + 1) (b + 1) q t hi hb (by omega) k h1 hk'
    · rw [List.getElem?_set_ne (fun e' => e e'.symm)] at ha
      by_cases e2 : b = i
      · subst e2
        rw [List.getElem?_set_self hil] at hb
        obtain rfl := Option.some.inj hb
        rcases hf k hk' with h1 | h1
        · exact hD 0 (a + 1) r s rfl ha (by omega) k h1 hk
        · exact hD (b + 1) (a + 1) q s hi ha (by omega) k h1 hk
      · rw [List.getElem?_set_ne (fun e' => e2 e'.symm)] at hb
        exact hD (a + 1) (b + 1) s t ha hb (by omega) k hk hk'
/-- A row of bytes goes into the pool. -/
theorem Hold.into {B' : Nat} {A : Option Addr} {n c : Nat} {bl : List UInt8} (h : Hold w0 w B (rRow B' 5 1 A n c (bys bl) :: l)) (i : Nat) (hi : l[i]? = some (rPool F Z)) (hn : n ≤ 140737488351232) :
    Hold w0 w B (l.set i (rPool (fun k => F k ∨ A.map Addr.block = some k) (⟨A, n, c, bl⟩ :: Z))) := by
  have ho : w.ownsRow B' 5 1 (.slice A n c) n (bys bl) := h.get 0 rfl
  have hp : (rPool F Z).1 w := h.get (i + 1) hi
  refine h.join (r' := rPool _ _) i hi (fun z hz => ?_) stb_pool (fun k hk => hk.symm)
  rcases List.mem_cons.1 hz with rfl | hz
  · exact ⟨⟨own_bts ho, own_nil' ho, hn⟩, fun _ b hb => .inr hb⟩
  · exact ⟨(hp z hz).1, fun h0 b hb => .inl ((hp z hz).2 h0 b hb)⟩
theorem Hold.pnil (h : Hold w0 w B l) : Hold w0 w B (rPool (fun _ => False) [] :: l) :=
  h.new (r := rPool (fun _ => False) []) (fun z hz => by simp at hz) stb_pool (fun k hk => hk.elim) (X := fun _ => False) (Wen.refl _ _) (fun k hk => hk.elim)
theorem Hold.bmono (h : Hold w0 w B l) (i : Nat) {B' : Nat} {e : TypeId} {size : Nat} {A : Option Addr} {n c : Nat} {xs : List Value} (hi : l[i]? = some (rRow B' e size A n c xs)) : Hold w0 w B (l.set i (rRow B e size A n c xs)) := by
  have ho : w.ownsRow B' e size (.slice A n c) n xs := h.get i hi
  have ho' : w.ownsRow B e size (.slice A n c) n xs := by
    refine ⟨ho.1, ho.2.imp id ?_⟩
    rintro ⟨g, cp, cur, hv, _, rest⟩
    refine ⟨g, cp, cur, hv, ?_, rest⟩
    injection hv with e1
    subst e1
    exact (h.lt _ (List.mem_of_getElem? hi) g rfl).1
  exact h.step (r' := rRow B e size A n c xs) i hi ho' stb_row (Grw.refl _ _) (fun k hk => ho'.lt k (by rw [ownBlock_slice]; exact hk)) (Wen.refl _ _)
end
end Go.Proofs.Ytknlkmencdlpcaa

namespace Go.Proofs.Ytknlkmencdlpcaa
set_option linter.unusedVariables false
set_option linter.unusedSimpArgs false
open Go Go.RowKit

def bN (N : Int) : Int := max 1 (min N 64)
theorem bN_bd (N : Int) : 1 ≤ bN N ∧ bN N ≤ 64 := by unfold bN; omega
/-- A batch's head. -/
abbrev btO (P : Nat) (N : Int) (A : Option Addr) (m c : Nat) : Obj := .cells #[.pointer (some ⟨P, 0, none⟩), .int .i64 N, .slice A m c] 156 (0, 0)
theorem bnew_any (P : Nat) (N : Int) (w : World) : Calls Try.prog 58 #[.pointer (some ⟨P, 0, none⟩), .int .i64 N] w fun e w' => e = .returned (.pointer (some ⟨w.heap.size, 0, none⟩)) ∧ w' = w.alloc (.cells #[.pointer (some ⟨P, 0, none⟩), .int .i64 (bN N), .slice none 0 0] 156) := by
  obtain ⟨M, hM⟩ : ∃ M, M = min N 64 := ⟨_, rfl⟩
  obtain ⟨K, hK⟩ : ∃ K, K = bN N := ⟨_, rfl⟩
  have hmn : ∀ wx, (Builtin.min_ #[3, 3] 3 #[.int .i64 N, .int .i64 64]).run Try.prog wx = .ok (.int .i64 M) wx := fun wx => by rw [hM]; exact run_min2 N 64 wx
  have hmx : ∀ wx, (Builtin.max_ #[3, 3] 3 #[.int .i64 1, .int .i64 M]).run Try.prog wx = .ok (.int .i64 K) wx := fun wx => by rw [hK, hM]; exact run_max2 1 _ wx
  rw [← hK]
  clear hM hK
  go_enter Try.func58, Try.ntmps58
  go_wp2
  go_ret
  exact ⟨rfl, rfl⟩
def pkB (k : Int) : Bool := k == 1 || k == 2
abbrev wrA (x : Wr) : Value := .agg #[.int .i64 x.k, .int .i64 x.p, .int .i64 x.s, .int .i64 x.i, .int .u32 x.g, .int .u16 x.sq, .int .u32 x.tm, .int .u32 x.ss, .int .u16 x.f, .slice x.z.A x.z.n x.z.c]
abbrev wrC (x : Wr) : Array Value := #[.int .i64 x.k, .int .i64 x.p, .int .i64 x.s, .int .i64 x.i, .int .u32 x.g, .int .u16 x.sq, .int .u32 x.tm, .int .u32 x.ss, .int .u16 x.f, .slice x.z.A x.z.n x.z.c]
theorem packet_any (x : Wr) (w : World) : Calls Try.prog 110 #[wrA x] w fun e w' => e = .returned (.bool (pkB x.k)) ∧ Below w.heap.size w w' := by
  have hb0 := (Below.refl w.heap.size w).alloc (Nat.le_refl _) (.cells (wrC x) 92)
  obtain ⟨a0, _⟩ := ten_cells (heap_alloc_new w (.cells (wrC x) 92))
  cases h1 : (x.k == 1)
  · cases h2 : (x.k == 2)
    all_goals
      have hp := Lib.hid (show pkB x.k = (false || _) by unfold pkB; rw [h1, h2])
      rw [hp.out]
      clear hp
      go_enter Try.func110, Try.ntmps110
      go_wp2
      go_ret
      exact ⟨by simp, hb0⟩
  · have hp := Lib.hid (show pkB x.k = true by unfold pkB; rw [h1]; rfl)
    rw [hp.out]
    clear hp
    go_enter Try.func110, Try.ntmps110
    go_wp2
    go_ret
    exact ⟨rfl, hb0⟩
/-- A write without its place in memory. -/
def Wr.bare (x : Wr) : Wr := ⟨x.k, x.p, x.s, x.i, x.g, x.sq, x.tm, x.ss, x.f, ⟨none, 0, 0, x.z.l⟩⟩
/-- A batch whose writes are ws, and whatever else is held. -/
def BatH (w0 w : World) (B pb P : Nat) (N : Int) (ws : List Wr) (l : List Rsc) : Prop :=
  ∃ (A : Option Addr) (m c : Nat) (xs : List Wr) (F : Nat → Prop) (Z : List Bz), Hold w0 w B (rVar pb (btO P N A m c) :: rRow B 92 10 A m c (rowG wrV xs) :: rPool F Z :: l) ∧ xs.map Wr.bare = ws ∧ (∀ x ∈ xs, x.z ∈ Z) ∧ ∀ x ∈ xs, x.pOk
def addE (S : List Slo) (x : Wr) : Nat := if x.k < 1 ∨ 5 < x.k then 4 else if pkB x.k then staleS S x.i x.g else 0
def addS (S : List Slo) (x : Wr) : List Slo := if x.k < 1 ∨ 5 < x.k then S else if pkB x.k then keepS S x.i x.g else S
def addW (S : List Slo) (ws : List Wr) (x : Wr) : List Wr := if addE S x = 0 then ws ++ [x.bare] else ws
theorem keep_stale {S : List Slo} {i g : Int} (h : staleS S i g ≠ 0) : keepS S i g = S := by
  unfold keepS
  split
  · rename_i h1
    exact absurd (staleS_yes h1) h
  · rfl
theorem Bz.ok.wen {z : Bz} {w w' : World} {X : Nat → Prop} (h : z.ok w) (hw : Wen w w' X) (hx : 0 < z.n → ∀ b, z.A.map Addr.block = some b → ¬ X b) : z.ok w' := ⟨h.bt.wen hw hx, h.nl, h.hn⟩
theorem Bz.ok.below {z : Bz} {w w' : World} (h : z.ok w) (hb : Below w.heap.size w w') : z.ok w' := ⟨h.bt.below hb, h.nl, h.hn⟩
theorem rd_rowN {w : World} {base q n c size : Nat} {xs : List Value} {e : TypeId} (h : w.ownsRow base e size (.slice (some ⟨q, 0, none⟩) n c) n xs) : Rd w (some ⟨q, 0, none⟩) xs := fun j u hu => ⟨_, rfl, h.cells rfl j u hu⟩
theorem lit_rdW (w : World) (x : Wr) : Rd (w.alloc (.cells (wrC x) 92)) (some ⟨w.heap.size, 0, none⟩) (wrV x) :=
  rd_rowN (World.ownsRow_lit (base := 0) (e := 92) (size := 10) w (wrC x) 1 (Nat.zero_le _) (by unfold maxLen; omega) rfl)
theorem row3_cells {w : World} {g : Nat} {t : TypeId} {fr : Nat × Nat} {a b c : Value} (h : w.heap[g]? = some (.cells #[a, b, c] t fr)) : w.cell? ⟨g, 0, none⟩ = some a ∧ w.cell? ⟨g, 1, none⟩ = some b ∧ w.cell? ⟨g, 2, none⟩ = some c := by
  refine ⟨?_, ?_, ?_⟩ <;> (rw [cell_of_row _ _ _ _ _ _ h]; rfl)
theorem add_head {w0 w w1 : World} {B pb P : Nat} {N : Int} {A : Option Addr} {m c : Nat} {r0 r1 : Rsc} {xs : List Value} {l : List Rsc} {o' : Obj} (hk : Hold w0 w B (r0 :: r1 :: rVar pb (btO P N A m c) :: rRow B 92 10 A m c xs :: l)) (hg : (w.alloc o').grownBy w1 (A.map Addr.block)) : w1.heap[pb]? = some (btO P N A m c) := by
  have h1 : (w.alloc o').heap[pb]? = some (btO P N A m c) := (hk.alloc o').get 2 rfl
  exact (hg.block pb (block_lt h1) (fun e => hk.dis 3 2 _ _ rfl rfl (by omega) pb e.symm rfl)).trans h1
/-- The end of Add: the write, its bytes copied, is laid behind the others. -/
theorem add_end {w0 w w1 : World} {B pb P : Nat} {N : Int} {A : Option Addr} {m c : Nat} {xs : List Wr} {F : Nat → Prop} {Z : List Bz} {l : List Rsc} {o : Obj} {x : Wr} {A5 : Option Addr} {c5 : Nat} {b3 : Nat}
    (hk : Hold w0 w B (rRow B 5 1 A5 x.z.n c5 (bys x.z.l) :: rVar b3 o :: rVar pb (btO P N A m c) :: rRow B 92 10 A m c (rowG wrV xs) :: rPool F Z :: l)) (hn : x.z.n ≤ 140737488351232) (hxz : ∀ x ∈ xs, x.z ∈ Z) (hp : ∀ x ∈ xs, x.pOk) (hxp : x.pOk)
    {A1 : Option Addr} {c1 : Nat} (ho : w1.ownsRow B 92 10 (.slice A1 (m + 1) c1) (m + 1) (rowG wrV xs ++ wrV { x with z := ⟨A5, x.z.n, c5, x.z.l⟩ })) {o' : Obj} (hg : (w.alloc o').grownBy w1 (A.map Addr.block)) (hA : A1 = A ∨ A1 = some ⟨(w.alloc o').heap.size, 0, none⟩) :
    BatH w0 (w1.setCell ⟨pb, 2, none⟩ (.slice A1 (m + 1) c1)) B pb P N (xs.map Wr.bare ++ [x.bare]) l := by
  have hk1 := (hk.alloc o').into 3 rfl hn
  rw [← rowG_one wrV { x with z := ⟨A5, x.z.n, c5, x.z.l⟩ }, ← rowG_append] at ho
  have hk2 := hk1.app 2 rfl ho hg hA
  have hh : w1.heap[pb]? = some (btO P N A m c) := hk2.get 1 rfl
  have hk3 := hk2.var 1 rfl (grown_setCell w1 ⟨pb, 2, none⟩ (.slice A1 (m + 1) c1)) (heap_setCell_same w1 pb 2 _ _ _ hh)
  refine ⟨A1, m + 1, c1, _, _, _, hk3.tail, ?_, ?_, ?_⟩
  · rw [List.map_append]; rfl
  · intro y hy
    rcases List.mem_append.1 hy with hy | hy
    · exact List.mem_cons_of_mem _ (hxz y hy)
    · obtain rfl := List.mem_singleton.1 hy
      exact List.mem_cons_self ..
  · intro y hy
    rcases List.mem_append.1 hy with hy | hy
    · exact hp y hy
    · obtain rfl := List.mem_singleton.1 hy
      exact hxp
set_option maxRecDepth 20000 in
set_option maxHeartbeats 4000000 in
theorem add_any {w0 w : World} {B pb P n : Nat} {N : Int} {ws : List Wr} {G : Nat → Prop} {S : List Slo} {L : Nat → List UInt8} {l : List Rsc} (h : BatH w0 w B pb P N ws (rSto B G P n S L :: l)) (x : Wr) (hz : x.z.ok w) (hzo : 0 < x.z.n → ∀ b, x.z.A.map Addr.block = some b → ¬ G b) (hxp : x.pOk) (hbig : ∀ s ∈ S, s.2 < 9223372036854775807) (hws : ws.length ≤ 1000) :
    Calls Try.prog 61 #[.pointer (some ⟨pb, 0, none⟩), wrA x] w fun e w' => e = .returned (.int .i64 (addE S x)) ∧ BatH w0 w' B pb P N (addW S ws x) (rSto B G P n (addS S x) L :: l) := by
  obtain ⟨A, m, c, xs, F, Z, hk, hxw, hxz, hp⟩ := h
  subst hxw
  rw [List.length_map] at hws
  have hxm : xs.length = m := rowG_len wrV_length (hk.get 1 rfl) (by omega)
  have hm : m ≤ 1000 := by omega
  have hq := fun wx => eql_nil 88 ⟨pb, 0, none⟩ (by kernel_rfl) wx
  have hk0 := hk.vnew0 (wrC x) 92
  have hz0 := hz.below ((Below.refl w.heap.size w).alloc (Nat.le_refl _) (.cells (wrC x) 92))
  have HZ := Lib.hid hz0
  have HB := Lib.hid hbig
  clear hxm hws hz hz0 hbig
  by_cases h1 : x.k < 1 ∨ 5 < x.k
  · have HF := Lib.hid (show addE S x = 4 ∧ addS S x = S by unfold addE addS; rw [if_pos h1, if_pos h1]; exact ⟨rfl, rfl⟩)
    have HW := Lib.hid (show addW S (xs.map Wr.bare) x = xs.map Wr.bare by unfold addW; rw [HF.out.1]; rfl)
    obtain ⟨a0, _⟩ := ten_cells (hk0.get 0 rfl)
    rw [HF.out.1, HF.out.2, HW.out]
    clear HF HW
    rcases h1 with h1 | h1
    all_goals
      go_enter Try.func61, Try.ntmps61
      go_wp2
      go_ret
      exact ⟨rfl, A, m, c, xs, F, Z, hk0.tail, rfl, hxz, hp⟩
  · have h2 : ¬ x.k < 1 := fun e => h1 (.inl e)
    have h3 : ¬ 5 < x.k := fun e => h1 (.inr e)
    cases hpk : pkB x.k
    · have HF := Lib.hid (show addE S x = 0 ∧ addS S x = S by unfold addE addS; rw [if_neg h1, if_neg h1, hpk]; exact ⟨rfl, rfl⟩)
      have HW := Lib.hid (show addW S (xs.map Wr.bare) x = xs.map Wr.bare ++ [x.bare] by unfold addW; rw [if_pos HF.out.1])
      have HK := Lib.hid hpk
      clear h1 hpk
      rw [HF.out.1, HF.out.2, HW.out]
      obtain ⟨a0, a1, a2, a3, a4, a5, a6, a7, a8, a9⟩ := ten_cells (hk0.get 0 rfl)
      go_enter Try.func61, Try.ntmps61
      go_upto_region 10 with (first
        | (go_at_call 110; (with_reducible refine (packet_any x _).mono ?_); rintro e w1 ⟨rfl, hb1⟩; rw [HK.out]; have hk1 := hk0.below hb1; have HZ1 := Lib.hid (HZ.out.below hb1); obtain ⟨a0, a1, a2, a3, a4, a5, a6, a7, a8, a9⟩ := ten_cells (hk1.get 0 rfl))
        | (go_at_call 101; (with_reducible refine (cloneB_any x.z.A x.z.n x.z.c x.z.l _ HZ.out.bt.len (by have := HZ.out.hn; omega) HZ.out.nl HZ1.out.bt.rd).mono ?_); rintro e w5 ⟨A5, c5, rfl, ho5, hb5⟩; have hk5 := hk1.rnew ho5 hb5; obtain ⟨a0, a1, a2, a3, a4, a5, a6, a7, a8, a9⟩ := ten_cells (hk5.get 1 rfl); have fz : ∀ j, w5.frozen? ⟨w.heap.size, j, none⟩ = false := fun j => frozen_row (hk5.get 1 rfl)))
      generalize hy : ({ x with z := ⟨A5, x.z.n, c5, x.z.l⟩ } : Wr) = y
      have hk6 : Hold w0 (w5.setCell ⟨w.heap.size, 9, none⟩ (.slice A5 x.z.n c5)) B (rRow B 5 1 A5 x.z.n c5 (bys x.z.l) :: rVar w.heap.size (.cells (wrC y) 92 (0, 0)) :: rVar pb (btO P N A m c) :: rRow B 92 10 A m c (rowG wrV xs) :: rPool F Z :: rSto B G P n S L :: l) := by
        rw [← hy]
        exact hk5.var 1 rfl (grown_setCell w5 ⟨w.heap.size, 9, none⟩ (.slice A5 x.z.n c5)) (heap_setCell_same w5 w.heap.size 9 _ _ _ (hk5.get 1 rfl))
      generalize w5.setCell ⟨w.heap.size, 9, none⟩ (.slice A5 x.z.n c5) = w6 at *
      refine region_planA (calmB_sound _) (.fork [0, 1] (.fork [5] (.leaf [6, 2, 3, 4, 7, 8, 9, 10]) (.leaf [2, 3, 4, 6, 7, 8, 9, 10])) (.leaf [2, 3, 4, 5, 6, 7, 8, 9, 10])) (by kernel_rfl) (by kernel_rfl) (by kernel_rfl) ?_
      have hk7 := hk6.drew
      generalize w6.drew = w7 at *
      obtain ⟨a0, a1, a2, a3, a4, a5, a6, a7, a8, a9⟩ := ten_cells (hk7.get 1 rfl)
      obtain ⟨p0, p1, p2⟩ := row3_cells (hk7.get 2 rfl)
      obtain ⟨_, _, r2⟩ := row3_cells ((hk7.alloc (.cells (wrC y) 92)).get 2 rfl)
      clear fz hk0 hk1 hk5 hk
      refine wpPlan_fork fun PL0 hPL0 => ?_
      simp only [List.filterMap_cons, List.filterMap_nil, List.getElem?_toArray, List.getElem?_cons_succ, List.getElem?_cons_zero]
      change wpList _ _ _ [_, _] _ _
      go_wp2_with (at_builtin; refine wpList_app slW rfl _ _ rfl B A m c (rowG wrV xs) rfl ((hk7.alloc _).get 3 rfl) (some ⟨w7.heap.size, 0, none⟩) 1 1 (wrV y) rfl rfl (lit_rdW w7 y) (wrV_one _) (by omega) (hk7.alloc _).hs ?_; intro A1 c1 w8 ho8 hg8 hA8; have hp8 : w8.heap[pb]? = some (btO P N A m c) := add_head hk7 hg8; obtain ⟨p0, p1, p2⟩ := row3_cells hp8; have fp := frozen_row (j := 2) hp8)
      refine hPL0 _ _ ?_ ?_
      · refine wpPlan_fork fun PL1 hPL1 => ?_
        simp only [List.filterMap_cons, List.filterMap_nil, List.getElem?_toArray, List.getElem?_cons_succ, List.getElem?_cons_zero]
        change wpList _ _ _ [_] _ _
        go_wp2_with (at_builtin; refine wpList_app slW rfl _ _ rfl B A m c (rowG wrV xs) rfl ((hk7.alloc _).get 3 rfl) (some ⟨w7.heap.size, 0, none⟩) 1 1 (wrV y) rfl rfl (lit_rdW w7 y) (wrV_one _) (by omega) (hk7.alloc _).hs ?_; intro A1 c1 w8 ho8 hg8 hA8; have hp8 : w8.heap[pb]? = some (btO P N A m c) := add_head hk7 hg8; obtain ⟨p0, p1, p2⟩ := row3_cells hp8; have fp := frozen_row (j := 2) hp8)
        refine hPL1 _ _ ?_ ?_
        · refine wpPlan_leaf fun PL2 hPL2 => ?_
          simp only [List.filterMap_cons, List.filterMap_nil, List.getElem?_toArray, List.getElem?_cons_succ, List.getElem?_cons_zero]
          change wpList _ _ _ [_, _, _, _, _, _, _, _] _ _
          go_wp2_with (at_builtin; refine wpList_app slW rfl _ _ rfl B A m c (rowG wrV xs) rfl ((hk7.alloc _).get 3 rfl) (some ⟨w7.heap.size, 0, none⟩) 1 1 (wrV y) rfl rfl (lit_rdW w7 y) (wrV_one _) (by omega) (hk7.alloc _).hs ?_; intro A1 c1 w8 ho8 hg8 hA8; have hp8 : w8.heap[pb]? = some (btO P N A m c) := add_head hk7 hg8; obtain ⟨p0, p1, p2⟩ := row3_cells hp8; have fp := frozen_row (j := 2) hp8)
          go_ret
          subst hy
          exact ⟨rfl, add_end hk7 HZ.out.hn hxz hp hxp ho8 hg8 hA8⟩
        · refine wpPlan_leaf fun PL2 hPL2 => ?_
          simp only [List.filterMap_cons, List.filterMap_nil, List.getElem?_toArray, List.getElem?_cons_succ, List.getElem?_cons_zero]
          change wpList _ _ _ [_, _, _, _, _, _, _, _] _ _
          go_wp2_with (at_builtin; refine wpList_app slW rfl _ _ rfl B A m c (rowG wrV xs) rfl ((hk7.alloc _).get 3 rfl) (some ⟨w7.heap.size, 0, none⟩) 1 1 (wrV y) rfl rfl (lit_rdW w7 y) (wrV_one _) (by omega) (hk7.alloc _).hs ?_; intro A1 c1 w8 ho8 hg8 hA8; have hp8 : w8.heap[pb]? = some (btO P N A m c) := add_head hk7 hg8; obtain ⟨p0, p1, p2⟩ := row3_cells hp8; have fp := frozen_row (j := 2) hp8)
          go_ret
          subst hy
          exact ⟨rfl, add_end hk7 HZ.out.hn hxz hp hxp ho8 hg8 hA8⟩
      · refine wpPlan_leaf fun PL1 hPL1 => ?_
        simp only [List.filterMap_cons, List.filterMap_nil, List.getElem?_toArray, List.getElem?_cons_succ, List.getElem?_cons_zero]
        change wpList _ _ _ [_, _, _, _, _, _, _, _, _] _ _
        go_wp2_with (at_builtin; refine wpList_app slW rfl _ _ rfl B A m c (rowG wrV xs) rfl ((hk7.alloc _).get 3 rfl) (some ⟨w7.heap.size, 0, none⟩) 1 1 (wrV y) rfl rfl (lit_rdW w7 y) (wrV_one _) (by omega) (hk7.alloc _).hs ?_; intro A1 c1 w8 ho8 hg8 hA8; have hp8 : w8.heap[pb]? = some (btO P N A m c) := add_head hk7 hg8; obtain ⟨p0, p1, p2⟩ := row3_cells hp8; have fp := frozen_row (j := 2) hp8)
        go_ret
        subst hy
        exact ⟨rfl, add_end hk7 HZ.out.hn hxz hp hxp ho8 hg8 hA8⟩
    · have HK := Lib.hid hpk
      obtain ⟨a0, a1, a2, a3, a4, a5, a6, a7, a8, a9⟩ := ten_cells (hk0.get 0 rfl)
      by_cases hst : staleS S x.i x.g = 0
      · have HF := Lib.hid (show addE S x = 0 ∧ addS S x = keepS S x.i x.g by unfold addE addS; rw [if_neg h1, if_neg h1, hpk]; exact ⟨hst, rfl⟩)
        have HW := Lib.hid (show addW S (xs.map Wr.bare) x = xs.map Wr.bare ++ [x.bare] by unfold addW; rw [if_pos HF.out.1])
        have HS := Lib.hid hst
        rw [HF.out.1, HF.out.2, HW.out]
        clear h1 hpk hst
        go_enter Try.func61, Try.ntmps61
        go_wp2_with (go_at_call 110; (with_reducible refine (packet_any x _).mono ?_); rintro e w1 ⟨rfl, hb1⟩; rw [HK.out]; have hk1 := hk0.below hb1)
        have hkd := hk1.drew
        obtain ⟨a0, a1, a2, a3, a4, a5, a6, a7, a8, a9⟩ := ten_cells (hkd.get 0 rfl)
        obtain ⟨p0, _, _⟩ := row3_cells (hkd.get 1 rfl)
        refine still_tail2 6 (by kernel_rfl) (by kernel_rfl) ?_
        simp only [List.take_succ_cons, List.take_zero, List.drop_succ_cons, List.drop_zero]
        repeat still_step
        refine wpStill_nil ?_
        go_upto_region 10 with (first
          | (go_at_call 43; (with_reducible refine (skeep_any (hkd.get 4 rfl) _ _ HB.out).mono ?_); rintro e w2 ⟨rfl, hS2, hW2⟩; rw [HS.out]; have hk1 := hkd.sto 4 rfl hS2 (Grw.refl _ _) hW2; have HZ1 := Lib.hid (((HZ.out.below hb1).below ((Below.refl _ w1).drew)).wen hW2 hzo); obtain ⟨a0, a1, a2, a3, a4, a5, a6, a7, a8, a9⟩ := ten_cells (hk1.get 0 rfl))
          | (go_at_call 101; (with_reducible refine (cloneB_any x.z.A x.z.n x.z.c x.z.l _ HZ.out.bt.len (by have := HZ.out.hn; omega) HZ.out.nl HZ1.out.bt.rd).mono ?_); rintro e w5 ⟨A5, c5, rfl, ho5, hb5⟩; have hk5 := hk1.rnew ho5 hb5; obtain ⟨a0, a1, a2, a3, a4, a5, a6, a7, a8, a9⟩ := ten_cells (hk5.get 1 rfl); have fz : ∀ j, w5.frozen? ⟨w.heap.size, j, none⟩ = false := fun j => frozen_row (hk5.get 1 rfl)))
        generalize hy : ({ x with z := ⟨A5, x.z.n, c5, x.z.l⟩ } : Wr) = y
        have hk6 : Hold w0 (w5.setCell ⟨w.heap.size, 9, none⟩ (.slice A5 x.z.n c5)) B (rRow B 5 1 A5 x.z.n c5 (bys x.z.l) :: rVar w.heap.size (.cells (wrC y) 92 (0, 0)) :: rVar pb (btO P N A m c) :: rRow B 92 10 A m c (rowG wrV xs) :: rPool F Z :: rSto B G P n (keepS S x.i x.g) L :: l) := by
          rw [← hy]
          exact hk5.var 1 rfl (grown_setCell w5 ⟨w.heap.size, 9, none⟩ (.slice A5 x.z.n c5)) (heap_setCell_same w5 w.heap.size 9 _ _ _ (hk5.get 1 rfl))
        generalize w5.setCell ⟨w.heap.size, 9, none⟩ (.slice A5 x.z.n c5) = w6 at *
        refine region_planA (calmB_sound _) (.fork [0, 1] (.fork [5] (.leaf [6, 2, 3, 4, 7, 8, 9, 10]) (.leaf [2, 3, 4, 6, 7, 8, 9, 10])) (.leaf [2, 3, 4, 5, 6, 7, 8, 9, 10])) (by kernel_rfl) (by kernel_rfl) (by kernel_rfl) ?_
        have hk7 := hk6.drew
        generalize w6.drew = w7 at *
        obtain ⟨a0, a1, a2, a3, a4, a5, a6, a7, a8, a9⟩ := ten_cells (hk7.get 1 rfl)
        obtain ⟨p0, p1, p2⟩ := row3_cells (hk7.get 2 rfl)
        obtain ⟨_, _, r2⟩ := row3_cells ((hk7.alloc (.cells (wrC y) 92)).get 2 rfl)
        clear fz hk0 hk1 hk5 hk
        refine wpPlan_fork fun PL0 hPL0 => ?_
        simp only [List.filterMap_cons, List.filterMap_nil, List.getElem?_toArray, List.getElem?_cons_succ, List.getElem?_cons_zero]
        change wpList _ _ _ [_, _] _ _
        go_wp2_with (at_builtin; refine wpList_app slW rfl _ _ rfl B A m c (rowG wrV xs) rfl ((hk7.alloc _).get 3 rfl) (some ⟨w7.heap.size, 0, none⟩) 1 1 (wrV y) rfl rfl (lit_rdW w7 y) (wrV_one _) (by omega) (hk7.alloc _).hs ?_; intro A1 c1 w8 ho8 hg8 hA8; have hp8 : w8.heap[pb]? = some (btO P N A m c) := add_head hk7 hg8; obtain ⟨p0, p1, p2⟩ := row3_cells hp8; have fp := frozen_row (j := 2) hp8)
        refine hPL0 _ _ ?_ ?_
        · refine wpPlan_fork fun PL1 hPL1 => ?_
          simp only [List.filterMap_cons, List.filterMap_nil, List.getElem?_toArray, List.getElem?_cons_succ, List.getElem?_cons_zero]
          change wpList _ _ _ [_] _ _
          go_wp2_with (at_builtin; refine wpList_app slW rfl _ _ rfl B A m c (rowG wrV xs) rfl ((hk7.alloc _).get 3 rfl) (some ⟨w7.heap.size, 0, none⟩) 1 1 (wrV y) rfl rfl (lit_rdW w7 y) (wrV_one _) (by omega) (hk7.alloc _).hs ?_; intro A1 c1 w8 ho8 hg8 hA8; have hp8 : w8.heap[pb]? = some (btO P N A m c) := add_head hk7 hg8; obtain ⟨p0, p1, p2⟩ := row3_cells hp8; have fp := frozen_row (j := 2) hp8)
          refine hPL1 _ _ ?_ ?_
          · refine wpPlan_leaf fun PL2 hPL2 => ?_
            simp only [List.filterMap_cons, List.filterMap_nil, List.getElem?_toArray, List.getElem?_cons_succ, List.getElem?_cons_zero]
            change wpList _ _ _ [_, _, _, _, _, _, _, _] _ _
            go_wp2_with (at_builtin; refine wpList_app slW rfl _ _ rfl B A m c (rowG wrV xs) rfl ((hk7.alloc _).get 3 rfl) (some ⟨w7.heap.size, 0, none⟩) 1 1 (wrV y) rfl rfl (lit_rdW w7 y) (wrV_one _) (by omega) (hk7.alloc _).hs ?_; intro A1 c1 w8 ho8 hg8 hA8; have hp8 : w8.heap[pb]? = some (btO P N A m c) := add_head hk7 hg8; obtain ⟨p0, p1, p2⟩ := row3_cells hp8; have fp := frozen_row (j := 2) hp8)
            go_ret
            subst hy
            exact ⟨rfl, add_end hk7 HZ.out.hn hxz hp hxp ho8 hg8 hA8⟩
          · refine wpPlan_leaf fun PL2 hPL2 => ?_
            simp only [List.filterMap_cons, List.filterMap_nil, List.getElem?_toArray, List.getElem?_cons_succ, List.getElem?_cons_zero]
            change wpList _ _ _ [_, _, _, _, _, _, _, _] _ _
            go_wp2_with (at_builtin; refine wpList_app slW rfl _ _ rfl B A m c (rowG wrV xs) rfl ((hk7.alloc _).get 3 rfl) (some ⟨w7.heap.size, 0, none⟩) 1 1 (wrV y) rfl rfl (lit_rdW w7 y) (wrV_one _) (by omega) (hk7.alloc _).hs ?_; intro A1 c1 w8 ho8 hg8 hA8; have hp8 : w8.heap[pb]? = some (btO P N A m c) := add_head hk7 hg8; obtain ⟨p0, p1, p2⟩ := row3_cells hp8; have fp := frozen_row (j := 2) hp8)
            go_ret
            subst hy
            exact ⟨rfl, add_end hk7 HZ.out.hn hxz hp hxp ho8 hg8 hA8⟩
        · refine wpPlan_leaf fun PL1 hPL1 => ?_
          simp only [List.filterMap_cons, List.filterMap_nil, List.getElem?_toArray, List.getElem?_cons_succ, List.getElem?_cons_zero]
          change wpList _ _ _ [_, _, _, _, _, _, _, _, _] _ _
          go_wp2_with (at_builtin; refine wpList_app slW rfl _ _ rfl B A m c (rowG wrV xs) rfl ((hk7.alloc _).get 3 rfl) (some ⟨w7.heap.size, 0, none⟩) 1 1 (wrV y) rfl rfl (lit_rdW w7 y) (wrV_one _) (by omega) (hk7.alloc _).hs ?_; intro A1 c1 w8 ho8 hg8 hA8; have hp8 : w8.heap[pb]? = some (btO P N A m c) := add_head hk7 hg8; obtain ⟨p0, p1, p2⟩ := row3_cells hp8; have fp := frozen_row (j := 2) hp8)
          go_ret
          subst hy
          exact ⟨rfl, add_end hk7 HZ.out.hn hxz hp hxp ho8 hg8 hA8⟩
      · have HF := Lib.hid (show addE S x = staleS S x.i x.g ∧ addS S x = S by unfold addE addS; rw [if_neg h1, if_neg h1, hpk]; exact ⟨rfl, keep_stale hst⟩)
        have HW := Lib.hid (show addW S (xs.map Wr.bare) x = xs.map Wr.bare by unfold addW; rw [if_neg (by rw [HF.out.1]; exact hst)])
        have HS := Lib.hid (keep_stale hst)
        have hs' : ((staleS S x.i x.g : Int) != 0) = true := by simp; omega
        rw [HF.out.1, HF.out.2, HW.out]
        clear h1 hpk hst
        go_enter Try.func61, Try.ntmps61
        go_wp2_with (go_at_call 110; (with_reducible refine (packet_any x _).mono ?_); rintro e w1 ⟨rfl, hb1⟩; rw [HK.out]; have hk1 := hk0.below hb1)
        have hkd := hk1.drew
        obtain ⟨a0, a1, a2, a3, a4, a5, a6, a7, a8, a9⟩ := ten_cells (hkd.get 0 rfl)
        obtain ⟨p0, _, _⟩ := row3_cells (hkd.get 1 rfl)
        refine still_tail2 6 (by kernel_rfl) (by kernel_rfl) ?_
        simp only [List.take_succ_cons, List.take_zero, List.drop_succ_cons, List.drop_zero]
        repeat still_step
        refine wpStill_nil ?_
        go_wp2_with (go_at_call 43; (with_reducible refine (skeep_any (hkd.get 4 rfl) _ _ HB.out).mono ?_); rintro e w2 ⟨rfl, hS2, hW2⟩; rw [HS.out] at hS2; have hk1 := hkd.sto 4 rfl hS2 (Grw.refl _ _) hW2)
        go_ret
        exact ⟨rfl, A, m, c, xs, F, Z, hk1.tail, rfl, hxz, hp⟩
end Go.Proofs.Ytknlkmencdlpcaa
