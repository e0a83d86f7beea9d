/-
The sample of law 12, and its shown.
-/
import Derived.Test.YtknlkmencdlpcaaSt3
namespace Go.Proofs.Ytknlkmencdlpcaa
set_option linter.unusedVariables false
set_option linter.unusedSimpArgs false
open Go Go.RowKit

def sdL : List UInt8 := [0, 90, 0, 0]
def smL : List UInt8 := [128, 96, 0, 0, 0, 0, 0, 0, 0, 0, 0, 0, 0, 90, 0, 0]
def snL : List UInt8 := [128, 96, 1, 2, 0, 0, 0, 0, 0, 0, 0, 0, 0, 90, 0, 0]
def smPk : Pkt := ⟨false, 96, 0, 0, 0, [], false, 0, [], sdL, 0⟩
theorem sm_desc : descL 0 false false 0 = sdL := by decide
theorem dput_0 (w : World) : Calls Try.prog 111 #[.agg #[.int .i64 0, .bool false, .bool false, .int .u16 0]] w fun e w' => ∃ A c', e = .returned (.slice A 4 c') ∧
      w'.ownsRow w.heap.size 5 1 (.slice A 4 c') 4 (bys sdL) ∧ Below w.heap.size w w' := by
  rw [← sm_desc]
  exact dput_yes 0 false false 0 w (by omega) (by omega)
theorem sm_ok : smPk.Ok := by
  constructor <;> first | decide | (intro x hx; cases hx)
theorem pput_0 (L : Option Addr) (lc : Nat) (w : World) (h : w.ownsRow 0 5 1 (.slice L 4 lc) 4 (bys sdL)) :
    Calls Try.prog 73 #[.agg #[.bool false, .int .i64 96, .int .u16 0, .int .u32 0, .int .u32 0, .slice none 0 0, .bool false, .int .u16 0, .slice none 0 0, .slice L 4 lc, .int .i64 0]] w fun e w' =>
      ∃ B c', e = .returned (.tuple #[.slice B 16 c', .int .i64 0]) ∧ w'.ownsRow w.heap.size 5 1 (.slice B 16 c') 16 (bys smL) ∧ Below w.heap.size w w' :=
  pput_row smPk sm_ok 0 (by decide) smL (by decide) 16 rfl none 0 0 none 0 0 L 4 lc w ⟨rowB_nil _ _ _, rowB_nil _ _ _, own_row8 h⟩ (by omega) (by omega)
set_option maxRecDepth 20000 in
set_option maxHeartbeats 1000000 in
theorem sample12_any (w : World) : Calls Try.prog 96 #[] w fun e w' => ∃ B c', e = .returned (.slice B 16 c') ∧ w'.ownsRow w.heap.size 5 1 (.slice B 16 c') 16 (bys smL) ∧ Below w.heap.size w w' := by
  go_enter Try.func96, Try.ntmps96
  go_wp2_with (first
    | (go_at_call 111; ((with_reducible refine (dput_0 _).mono ?_); rintro e w1 ⟨A, c, rfl, ho1, hb1⟩))
    | (go_at_call 73; ((with_reducible refine (pput_0 A c _ (own_mono ho1 (Nat.zero_le _))).mono ?_); rintro e w3 ⟨B, c3, rfl, ho3, hb3⟩)))
  go_ret
  exact ⟨B, c3, rfl, own_mono ho3 hb1.size, hb1.trans (hb3.mono hb1.size)⟩
def noL : Nat → List UInt8 := fun _ => []
section
variable {w : World} {base : Nat} {F : Nat → Prop} {P : Nat}
theorem sh_new (w : World) : Calls Try.prog 38 #[.int .i64 1] w fun e w' => ∃ P, e = .returned (.pointer (some ⟨P, 0, none⟩)) ∧
      Sto w' w.heap.size (fun k => w.heap.size ≤ k ∧ k < w'.heap.size) P 1 [(1, 0)] noL ∧ Below w.heap.size w w' := snew_any 1 w (by omega)
theorem sh_put (h : Sto w base F P 1 [(1, 0)] noL) (A : Option Addr) (c : Nat) (hb : Bts w A 16 c smL) (hnil : A = none → 16 = 0 ∧ c = 0) (hout : 0 < 16 → ∀ b, A.map Addr.block = some b → ¬ F b) :
    Calls Try.prog 41 #[.pointer (some ⟨P, 0, none⟩), .slice A 16 c] w fun e w' => e = .returned (.tuple #[.agg #[.int .i64 0, .int .u32 1], .int .i64 0]) ∧
      (∃ F', Sto w' base F' P 1 [(1, 1)] (upd noL 0 smL) ∧ Grw F F' w.heap.size) ∧ Wen w w' F := sput_any h A 16 c smL hb hnil hout
theorem sh_patch (h : Sto w base F P 1 [(1, 1)] (upd noL 0 smL)) :
    Calls Try.prog 47 #[.pointer (some ⟨P, 0, none⟩), .agg #[.int .i64 0, .int .u32 1], .agg #[.int .u16 258, .int .u32 0, .int .u32 0, .int .u16 0]] w fun e w' =>
      e = .returned (.int .i64 0) ∧ Sto w' base F P 1 [(1, 1)] (upd (upd noL 0 smL) 0 snL) ∧ Wen w w' F := by
  have h1 := spatch_any h 0 1 258 0 0 0 (by omega) (by omega) (by omega) (by omega)
  have e1 : patchE [(1, 1)] (upd noL 0 smL) 0 1 = 0 := by decide +kernel
  have e2 : apP smL 258 0 0 0 = snL := by decide +kernel
  have e3 : patchL [(1, 1)] (upd noL 0 smL) 0 1 258 0 0 0 = upd (upd noL 0 smL) 0 snL := by
    rw [← e2]; rfl
  rw [e1, e3] at h1
  exact h1
theorem sh_bytes (h : Sto w base F P 1 [(1, 1)] (upd (upd noL 0 smL) 0 snL)) :
    Calls Try.prog 49 #[.pointer (some ⟨P, 0, none⟩), .agg #[.int .i64 0, .int .u32 1]] w fun e w' => ∃ A c', e = .returned (.tuple #[.slice A 16 c', .int .i64 0]) ∧
      w'.ownsRow w.heap.size 5 1 (.slice A 16 c') 16 (bys snL) ∧ Below w.heap.size w w' := by
  refine (sbytes_any h 0 1).mono ?_
  rintro e w' ⟨A, m, c', rfl, ho, hb⟩
  have e2 : bytesL [(1, 1)] (upd (upd noL 0 smL) 0 snL) 0 1 = snL := rfl
  rw [e2] at ho
  obtain rfl : m = 16 := by have := ho.1; simp [bys, snL] at this; omega
  exact ⟨A, c', rfl, ho, hb⟩
theorem sh_keep {L : Nat → List UInt8} (h : Sto w base F P 1 [(1, 1)] L) :
    Calls Try.prog 43 #[.pointer (some ⟨P, 0, none⟩), .agg #[.int .i64 0, .int .u32 1]] w fun e w' => e = .returned (.int .i64 0) ∧ Sto w' base F P 1 [(1, 2)] L ∧ Wen w w' F :=
  skeep_any h 0 1 (by decide)
theorem sh_patch2 {L : Nat → List UInt8} (h : Sto w base F P 1 [(1, 2)] L) :
    Calls Try.prog 47 #[.pointer (some ⟨P, 0, none⟩), .agg #[.int .i64 0, .int .u32 1], .agg #[.int .u16 1, .int .u32 0, .int .u32 0, .int .u16 0]] w fun e w' =>
      e = .returned (.int .i64 11) ∧ Sto w' base F P 1 [(1, 2)] L ∧ Wen w w' F :=
  spatch_any h 0 1 1 0 0 0 (by omega) (by omega) (by omega) (by omega)
theorem sh_full {L : Nat → List UInt8} (h : Sto w base F P 1 [(1, 2)] L) :
    Calls Try.prog 41 #[.pointer (some ⟨P, 0, none⟩), .slice none 0 0] w fun e w' => e = .returned (.tuple #[.agg #[.int .i64 0, .int .u32 0], .int .i64 6]) ∧
      (∃ F', Sto w' base F' P 1 [(1, 2)] L ∧ Grw F F' w.heap.size) ∧ Wen w w' F :=
  sput_any h none 0 0 [] ⟨rfl, Nat.le_refl _, Nat.zero_le _, Rd.nil _ _⟩ (fun _ => ⟨rfl, rfl⟩) (fun _ b hb => by simp at hb)
end
/-- In the walk of an example: the store, and all that was there ahead. -/
structure ShK (w0 w : World) (base : Nat) (F : Nat → Prop) (P : Nat) (S : List Slo) (L : Nat → List UInt8) : Prop where
  st : Sto w base F P 1 S L
  b : Below w0.heap.size w0 w
  hB : w0.heap.size ≤ base
theorem ShK.below {w0 w w' : World} {base : Nat} {F : Nat → Prop} {P : Nat} {S : List Slo} {L : Nat → List UInt8} (h : ShK w0 w base F P S L) (hb : Below w.heap.size w w') : ShK w0 w' base F P S L :=
  ⟨h.st.below hb, h.b.trans (hb.mono h.b.size), h.hB⟩
theorem ShK.step {w0 w w' : World} {base : Nat} {F F' : Nat → Prop} {P : Nat} {S S' : List Slo} {L L' : Nat → List UInt8} (h : ShK w0 w base F P S L) (hs : Sto w' base F' P 1 S' L') (hw : Wen w w' F) : ShK w0 w' base F' P S' L' :=
  ⟨hs, h.b.trans (hw.below (fun k hk => Nat.le_trans h.hB (h.st.lt k hk).1) h.b.size), h.hB⟩
theorem ShK.out {w0 w w1 : World} {base : Nat} {F : Nat → Prop} {P : Nat} {S : List Slo} {L : Nat → List UInt8} {b : Nat} {o : Obj} (h : ShK w0 w base F P S L) (hw : Wen w w1 F) (ho : w.heap[b]? = some o) (hn : ¬ F b) : w1.heap[b]? = some o := (hw.block b (block_lt ho) hn).trans ho
theorem ShK.off {w0 w w' : World} {base : Nat} {F : Nat → Prop} {P : Nat} {S : List Slo} {L : Nat → List UInt8} {o : Obj} (h : ShK w0 w base F P S L) (hg : (w.alloc o).grownBy w' (some w.heap.size)) : ShK w0 w' base F P S L :=
  ⟨(h.st.below ((Below.refl _ _).alloc (Nat.le_refl _) o)).wen (Wen.of_grown hg) (fun k hk e => by injection e with e; have := (h.st.lt k hk).2; omega), (h.b.alloc h.b.size o).grown hg (h.b.alloc h.b.size o).size (fun k e => by injection e with e; have := h.b.size; omega), h.hB⟩
theorem off_keep {w w' : World} {o : Obj} {b : Nat} {o' : Obj} (hg : (w.alloc o).grownBy w' (some w.heap.size)) (hb : w.heap[b]? = some o') : w'.heap[b]? = some o' :=
  (hg.block b (block_lt (alloc_heap hb)) (fun e => by injection e with e; have := block_lt hb; omega)).trans (alloc_heap hb)
theorem own_off' {w w' : World} {o : Obj} {base : Nat} {e : TypeId} {size : Nat} {A : Option Addr} {n c : Nat} {xs : List Value} (hg : (w.alloc o).grownBy w' (some w.heap.size)) (ho : w.ownsRow base e size (.slice A n c) n xs) : w'.ownsRow base e size (.slice A n c) n xs :=
  own_wen (ho.alloc o) (Wen.of_grown hg) (fun b hb e => by injection e with e; have := (ho.lt b (by rw [ownBlock_slice]; exact hb)).2; omega)
theorem sh_refs {w : World} {base : Nat} {F : Nat → Prop} {P : Nat} {L : Nat → List UInt8} (h : Sto w base F P 1 [(1, 2)] L) :
    Calls Try.prog 51 #[.pointer (some ⟨P, 0, none⟩), .agg #[.int .i64 0, .int .u32 1]] w fun e w' => e = .returned (.int .i64 2) ∧ Below w.heap.size w w' := srefs_any h 0 1
theorem sh_free {w : World} {base : Nat} {F : Nat → Prop} {P : Nat} {L : Nat → List UInt8} (h : Sto w base F P 1 [(1, 2)] L) :
    Calls Try.prog 53 #[.pointer (some ⟨P, 0, none⟩)] w fun e w' => e = .returned (.int .i64 0) ∧ Below w.heap.size w w' := sfree_any h
set_option maxRecDepth 20000 in
set_option maxHeartbeats 4000000 in
theorem shown12_any (w : World) : Calls Try.prog 37 #[] w fun e w' => e = .returned (.bool true) ∧ Below w.heap.size w w' := by
  go_enter Try.func37, Try.ntmps37
  go_wp2_with (first
    | (go_at_call 38; (with_reducible refine (sh_new _).mono ?_); rintro e w1 ⟨P, rfl, hS1, hb1⟩; have hk1 : ShK w w1 _ _ P _ _ := ⟨hS1, hb1, Nat.le_refl _⟩)
    | (go_at_call 96; (with_reducible refine (sample12_any _).mono ?_); rintro e w2 ⟨B, c, rfl, ho2, hb2⟩; have hk2 := hk1.below hb2)
    | (go_at_call 41; (with_reducible refine (sh_put hk2.st B c (own_bts ho2) (fun e => by have := (own_nil' ho2 e).1; omega) (fun _ b hb hF => by have := own_from ho2 b hb; omega)).mono ?_); rintro e w3 ⟨rfl, ⟨F3, hS3, hG3⟩, hW3⟩; have hk3 := hk2.step hS3 hW3)
    | (refine wpList_store_blk rfl 69 (.tmp 2) (.tmp 15) rfl w3.heap.size _ #[.int .i64 0, .int .u32 1] _ rfl rfl (hdl_new w3 0 0) rfl (by kernel_rfl) (by simp [Value.oneCell']) ?_; intro w4 hi4 hg4; have hk4 := hk3.off hg4; have hnF : ¬ F3 w3.heap.size := (fun h => by have := (hk3.st.lt _ h).2; omega); obtain ⟨a0, a1⟩ := row2_cells hi4)
    | (go_at_call 47; (with_reducible refine (sh_patch hk4.st).mono ?_); rintro e w5 ⟨rfl, hS5, hW5⟩; have hk5 := hk4.step hS5 hW5; have hi5 := hk4.out hW5 hi4 hnF; obtain ⟨a0, a1⟩ := row2_cells hi5)
    | (go_at_call 49; (with_reducible refine (sh_bytes hk5.st).mono ?_); rintro e w6 ⟨A6, c6, rfl, ho6, hb6⟩; have hk6 := hk5.below hb6; have hi6 := (hb6.block _ (block_lt hi5)).trans hi5; have hn6 : ∀ b, A6.map Addr.block = some b → ¬ F3 b := (fun b hb hF => by have h1 := own_from ho6 b hb; have h2 := (hk5.st.lt b hF).2; omega); obtain ⟨a0, a1⟩ := row2_cells hi6)
    | (go_at_call 43; (with_reducible refine (sh_keep hk6.st).mono ?_); rintro e w7 ⟨rfl, hS7, hW7⟩; have hk7 := hk6.step hS7 hW7; have hi7 := hk6.out hW7 hi6 hnF; have ho7 := own_wen ho6 hW7 hn6; obtain ⟨a0, a1⟩ := row2_cells hi7)
    | (go_at_call 47; (with_reducible refine (sh_patch2 hk7.st).mono ?_); rintro e w8 ⟨rfl, hS8, hW8⟩; have hk8 := hk7.step hS8 hW8; have hi8 := hk7.out hW8 hi7 hnF; have ho8 := own_wen ho7 hW8 hn6; obtain ⟨a0, a1⟩ := row2_cells hi8)
    | (go_at_call 41; (with_reducible refine (sh_full hk8.st).mono ?_); rintro e w9 ⟨rfl, ⟨F9, hS9, hG9⟩, hW9⟩; have hk9 := hk8.step hS9 hW9; have hi9 := hk8.out hW9 hi8 hnF; have ho9 := own_wen ho8 hW9 hn6)
    | (refine wpList_store_blk rfl 69 (.tmp 8) (.tmp 37) rfl w9.heap.size _ #[.int .i64 0, .int .u32 0] _ rfl rfl (hdl_new w9 0 0) rfl (by kernel_rfl) (by simp [Value.oneCell']) ?_; intro w10 hi10 hg10; have hk10 := hk9.off hg10; have hi11 := off_keep hg10 hi9; obtain ⟨a0, a1⟩ := row2_cells hi11; have ho10 := own_off' hg10 ho9; have hc16 := own_leq ho10; obtain ⟨g, rfl, hg, hcs⟩ := own_cellv ho10 (by omega); have c2 := hcs 2 (by omega); have c3 := hcs 3 (by omega); have e2 : byteN snL 2 = 1 := (by decide); have e3 : byteN snL 3 = 2 := (by decide); rw [e2] at c2; rw [e3] at c3)
    | (go_at_call 51; (with_reducible refine (sh_refs hk10.st).mono ?_); rintro e w11 ⟨rfl, hb11⟩; have hk11 := hk10.below hb11)
    | (go_at_call 53; (with_reducible refine (sh_free hk11.st).mono ?_); rintro e w12 ⟨rfl, hb12⟩; have hk12 := hk11.below hb12))
  go_ret
  exact ⟨rfl, hk12.b⟩
end Go.Proofs.Ytknlkmencdlpcaa
