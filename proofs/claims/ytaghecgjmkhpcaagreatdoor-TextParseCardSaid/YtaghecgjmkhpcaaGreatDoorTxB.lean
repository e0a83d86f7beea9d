/-
read of package text.
-/
import Derived.Test.YtaghecgjmkhpcaaGreatDoorTxA
namespace Go.Proofs.YtaghecgjmkhpcaaGreatDoor
set_option linter.unusedVariables false
set_option linter.unusedSimpArgs false
open Go Go.RowKit

/-- What stands in an operation's line, all else zero. -/
def nmdO (o : Opx) : Opx := ⟨o.k, o.p, if srcB o.k then o.s else 0, if layB o.k then o.y else 0, if o.k = 2 then o.nm else [], if o.k = 4 then o.ss else [], if o.k = 1 then o.bs else []⟩
def nmd (x : Sp) : Sp := ⟨nmdO x.o, if x.o.k = 4 then x.A else none, if x.o.k = 4 then x.an else 0, if x.o.k = 4 then x.ac else 0, if x.o.k = 1 then x.B else none, if x.o.k = 1 then x.bn else 0, if x.o.k = 1 then x.bc else 0⟩
/-- An operation whose two rows are the call's own. -/
structure SpO (w : World) (base : Nat) (x : Sp) : Prop where
  (oa : w.ownsRow base 36 1 (.slice x.A x.an x.ac) x.an (u32s x.o.ss)) (ob : w.ownsRow base 5 1 (.slice x.B x.bn x.bc) x.bn (bys x.o.bs)) (ok : ssOk x.o) (nm : x.o.nm.length ≤ 140737488351232)
theorem SpO.r {w : World} {base : Nat} {x : Sp} (h : SpO w base x) : SpR w x := ⟨own_rowT 4 h.oa, own_rowT 1 h.ob, h.ok, h.nm⟩
theorem SpO.below {w w' : World} {base : Nat} {x : Sp} (h : SpO w base x) (hb : Below w.heap.size w w') : SpO w' base x := ⟨h.oa.kept (own_below hb) (own_none _), h.ob.kept (own_below hb) (own_none _), h.ok, h.nm⟩
/-- It is kept where a block of operations is changed. -/
theorem SpO.grown {w w' : World} {base g : Nat} {cs : Array Value} {x : Sp} (h : SpO w base x) (hg : w.grownBy w' (some g)) (hb : w.heap[g]? = some (.cells cs 27 (0, 0))) : SpO w' base x :=
  ⟨h.oa.kept hg (own_off h.oa hb (by decide)), h.ob.kept hg (own_off h.ob hb (by decide)), h.ok, h.nm⟩
theorem SpO.mono {w : World} {base base' : Nat} {x : Sp} (h : SpO w base x) (hb : base' ≤ base) : SpO w base' x := ⟨own_mono h.oa hb, own_mono h.ob hb, h.ok, h.nm⟩
theorem nmd_own {w : World} {base : Nat} {x : Sp} (h : SpO w base x) : SpO w base (nmd x) := by
  refine ⟨?_, ?_, ?_, ?_⟩
  · unfold nmd nmdO
    dsimp only
    by_cases hk : x.o.k = 4
    · simp only [if_pos hk]
      exact h.oa
    · simp only [if_neg hk]
      exact World.ownsRow_nil _ _ _ _
  · unfold nmd nmdO
    dsimp only
    by_cases hk : x.o.k = 1
    · simp only [if_pos hk]
      exact h.ob
    · simp only [if_neg hk]
      exact World.ownsRow_nil _ _ _ _
  · unfold nmd nmdO
    dsimp only
    intro z hz
    dsimp only at hz
    split at hz
    · exact h.ok z hz
    · cases hz
  · unfold nmd nmdO
    dsimp only
    split
    · exact h.nm
    · simp
abbrev spA (x : Sp) : Array Value := #[.int .i64 x.o.k, .int .i64 x.o.p, .int .i64 x.o.s, .int .i64 x.o.y, .string ⟨x.o.nm.toArray⟩, .slice x.A x.an x.ac, .slice x.B x.bn x.bc]
theorem spA_one (x : Sp) : (spA x).all (·.oneCell') = true := by simp [Value.oneCell']
theorem named_x (x : Sp) (w : World) (hk : 1 ≤ x.o.k ∧ x.o.k ≤ 12) : Calls Tryz.prog 14 #[spV x] w fun e w' => e = .returned (spV (nmd x)) ∧ Below w.heap.size w w' := by
  obtain ⟨⟨k, p, s, y, nm, ss, bs⟩, A, an, ac, B, bn, bc⟩ := x
  dsimp only at hk
  by_cases h1 : k = 1
  · subst h1
    exact named_1 p s y nm A an ac B bn bc w
  by_cases h2 : k = 2
  · subst h2
    exact named_2 p s y nm A an ac B bn bc w
  by_cases h3 : k = 3
  · subst h3
    exact named_3 p s y nm A an ac B bn bc w
  by_cases h4 : k = 4
  · subst h4
    exact named_4 p s y nm A an ac B bn bc w
  by_cases h6 : k = 6
  · subst h6
    exact named_6 p s y nm A an ac B bn bc w
  by_cases h12 : k = 12
  · subst h12
    exact named_12 p s y nm A an ac B bn bc w
  have g1 : (k == 1) = false := by simpa using h1
  have g2 : (k == 2) = false := by simpa using h2
  have g3 : (k == 3) = false := by simpa using h3
  have g4 : (k == 4) = false := by simpa using h4
  have g6 : (k == 6) = false := by simpa using h6
  have g12 : (k == 12) = false := by simpa using h12
  refine (named_o k g1 g2 g3 g4 g6 g12 p s y nm A an ac B bn bc w).mono ?_
  rintro e w' ⟨rfl, hb⟩
  refine ⟨?_, hb⟩
  have hs : srcB k = true := decide_eq_true (by omega)
  have hy : layB k = false := by unfold layB; rw [g6, g12]; rfl
  unfold spV nmd nmdO
  dsimp only
  rw [if_pos hs, if_neg (by rw [hy]; decide), if_neg h2, if_neg h4, if_neg h4, if_neg h4, if_neg h1, if_neg h1, if_neg h1]
theorem read_cond {q : Opx} (hm : mayO q = true) (hs : ssOk q) {o : Opx} (hk : o.k = q.k) (hp : ∀ m : Nat, m ≤ 999 → wd (wrdsL q) 1 = decL m → o.p = m) (h2 : ∀ m : Nat, m ≤ 999 → wd (wrdsL q) 2 = decL m → o.s = m) (h3 : ∀ m : Nat, m ≤ 999 → wd (wrdsL q) 3 = decL m → o.y = m)
    (hn : o.nm = wd (wrdsL q) 2) (hb : o.bs = (unhexL (wd (wrdsL q) 2)).getD []) (hss : q.k = 4 → o.ss = q.ss) : nmdO o = q := by
  obtain ⟨b1, b2, b3, hc⟩ := may_cases hm
  obtain ⟨k, p, s, y, nm, ss, bs⟩ := q
  obtain ⟨k', p', s', y', nm', ss', bs'⟩ := o
  simp only at *
  subst hk
  unfold nmdO
  dsimp only
  rcases hc with ⟨rfl, rfl, rfl, rfl, rfl, h5⟩ | ⟨rfl, rfl, rfl, rfl, rfl, h5⟩ | ⟨rfl, rfl, rfl, rfl, rfl, rfl⟩ | ⟨rfl, rfl, rfl, rfl, h5⟩ | ⟨hk6, rfl, rfl, rfl⟩ | ⟨hk5, rfl, rfl, rfl, rfl⟩
  · rw [wrds_1 rfl rfl] at hp hb
    have := hp p.toNat (by omega) rfl
    by_cases hbs : bs = []
    · subst hbs
      simp [wd, unhexL] at hb
      simp [srcB, layB, hb]
      omega
    · simp [wd, hbs, unhex_hex] at hb
      simp [srcB, layB, hb]
      omega
  · rw [wrds_2 rfl rfl rfl] at hp hn
    have := hp p.toNat (by omega) rfl
    simp [wd] at hn
    simp [srcB, layB, hn]
    omega
  · rw [wrds_3 rfl rfl rfl] at hp
    have := hp p.toNat (by omega) rfl
    simp [srcB, layB]
    omega
  · rw [wrds_4 rfl rfl] at hp h2
    have := hp p.toNat (by omega) rfl
    have := h2 s.toNat (by omega) rfl
    simp [srcB, layB, hss]
    omega
  · rw [wrds_6 hk6 rfl rfl] at hp h2 h3
    have := hp p.toNat (by omega) rfl
    have := h2 s.toNat (by omega) rfl
    have := h3 y.toNat (by omega) rfl
    rcases hk6 with rfl | rfl
    all_goals
      simp [srcB, layB]
      omega
  · rw [wrds_5 hk5 rfl rfl] at hp h2
    have := hp p.toNat (by omega) rfl
    have := h2 s.toNat (by omega) rfl
    have a1 : 4 ≤ k' := by omega
    have a2 : ¬ k' = 6 := by omega
    have a3 : ¬ k' = 12 := by omega
    have a4 : ¬ k' = 2 := by omega
    have a5 : ¬ k' = 4 := by omega
    have a6 : ¬ k' = 1 := by omega
    simp [srcB, layB, a1, a2, a3, a4, a5, a6]
    omega
set_option maxRecDepth 20000 in
set_option maxHeartbeats 2000000 in
theorem read_any (k : Int) (hk : 1 ≤ k ∧ k ≤ 12) (A : Option Addr) (n c : Nat) (l : List (List UInt8)) (w : World) (h : Row w A n c 1 16 (strs l)) (hlen : ∀ x ∈ l, x.length ≤ 1000000) (hn : n ≤ 1000000) (hT : LaidT w) :
    Calls Tryz.prog 49 #[.int .i64 k, .slice A n c] w fun e w' => ∃ x : Sp, e = .returned (spV x) ∧ SpO w' w.heap.size x ∧ Hid (∀ q, mayO q = true → ssOk q → k = q.k → l = wrdsL q → x.o = q) ∧ x.o.k = k ∧ Below w.heap.size w w' := by
  have HR := Lib.hid h
  have HL := Lib.hid hlen
  have HT := Lib.hid hT
  have hnc := h.nc
  have hcm := h.cm
  unfold maxLen at hcm
  have hwl : ∀ i, (wd l i).length ≤ 1000000 := by
    intro i
    by_cases hi : i < l.length
    · rw [wd_get l i hi]; exact hlen _ (List.getElem_mem hi)
    · rw [wd_out l i (by omega)]; simp
  have HW := Lib.hid hwl
  obtain ⟨s1, hs1⟩ : ∃ s, wd l 1 = s := ⟨_, rfl⟩
  obtain ⟨s2, hs2⟩ : ∃ s, wd l 2 = s := ⟨_, rfl⟩
  obtain ⟨s3, hs3⟩ : ∃ s, wd l 3 = s := ⟨_, rfl⟩
  have l1 := hwl 1
  have l2 := hwl 2
  have l3 := hwl 3
  rw [hs1] at l1
  rw [hs2] at l2
  rw [hs3] at l3
  have A1 := Lib.hid (fun w (hr : Row w A n c 1 16 (strs l)) => hs1 ▸ at_any A n c l w hr 1 1 rfl (by omega))
  have A2 := Lib.hid (fun w (hr : Row w A n c 1 16 (strs l)) => hs2 ▸ at_any A n c l w hr 2 2 rfl (by omega))
  have A3 := Lib.hid (fun w (hr : Row w A n c 1 16 (strs l)) => hs3 ▸ at_any A n c l w hr 3 3 rfl (by omega))
  have HS := Lib.hid (And.intro hs1 (And.intro hs2 hs3))
  clear h hlen hT hwl hs1 hs2 hs3
  go_enter Tryz.func49, Tryz.ntmps49
  go_upto_region 1 with fail
  have hi0 : (w.alloc (.cells #[.int .i64 0, .int .i64 0, .int .i64 0, .int .i64 0, .string ⟨#[]⟩, .slice none 0 0, .slice none 0 0] 27)).heap[w.heap.size]? = some (.cells #[.int .i64 0, .int .i64 0, .int .i64 0, .int .i64 0, .string ⟨#[]⟩, .slice none 0 0, .slice none 0 0] 27 (0, 0)) := heap_alloc_new w _
  have hb1 : Below w.heap.size w (w.alloc (.cells #[.int .i64 0, .int .i64 0, .int .i64 0, .int .i64 0, .string ⟨#[]⟩, .slice none 0 0, .slice none 0 0] 27)) := (Below.refl _ w).alloc (Nat.le_refl _) _
  generalize w.alloc _ = w1 at *
  have HR1 := Lib.hid (HR.out.below hb1)
  have HT1 := Lib.hid (HT.out.below hb1)
  have HX := Lib.hid (hexr_any s2)
  go_upto_region 3 with (first
    | (go_at_call 65; (with_reducible refine (A2.out _ HR1.out).mono ?_); rintro e wz ⟨rfl, rfl⟩)
    | (go_at_call 64; (with_reducible refine (HX.out _ (by omega)).mono ?_); rintro e w2 ⟨D, dn, dc, rfl, HD, hod, hb2⟩; have HR2 := Lib.hid (HR1.out.below hb2); have HT2 := Lib.hid (HT1.out.below hb2); have HOD := Lib.hid hod; clear hod)
    | (go_at_call 65; (with_reducible refine (A1.out _ HR2.out).mono ?_); rintro e wz ⟨rfl, rfl⟩)
    | (go_at_call 66; (with_reducible refine (count_any s1 w2 (by omega) HT2.out).mono ?_); rintro e w3 ⟨p, rfl, HP, hb3⟩; have HR3 := Lib.hid (HR2.out.below hb3); have HT3 := Lib.hid (HT2.out.below hb3))
    | (go_at_call 65; (with_reducible refine (A2.out _ HR3.out).mono ?_); rintro e wz ⟨rfl, rfl⟩)
    | (go_at_call 66; (with_reducible refine (count_any s2 w3 (by omega) HT3.out).mono ?_); rintro e w4 ⟨s, rfl, HSS, hb4⟩; have HR4 := Lib.hid (HR3.out.below hb4); have HT4 := Lib.hid (HT3.out.below hb4))
    | (go_at_call 65; (with_reducible refine (A3.out _ HR4.out).mono ?_); rintro e wz ⟨rfl, rfl⟩)
    | (go_at_call 66; (with_reducible refine (count_any s3 w4 (by omega) HT4.out).mono ?_); rintro e w5 ⟨y, rfl, HY, hb5⟩; have HR5 := Lib.hid (HR4.out.below hb5); have HT5 := Lib.hid (HT4.out.below hb5))
    | (go_at_call 65; (with_reducible refine (A2.out _ HR5.out).mono ?_); rintro e wz ⟨rfl, rfl⟩))
  have HK := Lib.hid hk
  have hb15 := below_nextT (below_nextT (below_nextT (below_nextT hb1 hb2) hb3) hb4) hb5
  have h15 : Below w1.heap.size w1 w5 := below_nextT (below_nextT (below_nextT hb2 hb3) hb4) hb5
  have hr5 := blk_below hi0 h15
  have ho5 := (((HOD.out.kept (own_below hb3) (own_none _)).kept (own_below hb4) (own_none _)).kept (own_below hb5) (own_none _))
  have hi7 : (w5.alloc (.cells #[.int .i64 k, .int .i64 p, .int .i64 s, .int .i64 y, .string ⟨s2.toArray⟩, .slice none 0 0, .slice D dn dc] 27)).heap[w5.heap.size]? = some (.cells #[.int .i64 k, .int .i64 p, .int .i64 s, .int .i64 y, .string ⟨s2.toArray⟩, .slice none 0 0, .slice D dn dc] 27 (0, 0)) := heap_alloc_new w5 _
  have hb7 : Below w5.heap.size w5 (w5.alloc (.cells #[.int .i64 k, .int .i64 p, .int .i64 s, .int .i64 y, .string ⟨s2.toArray⟩, .slice none 0 0, .slice D dn dc] 27)) := (Below.refl _ w5).alloc (Nat.le_refl _) _
  have hg7 : w5.heap.size ≠ w.heap.size := by
    have h1 := blk_in hi0
    have h2 := h15.size
    omega
  generalize w5.alloc _ = w7 at *
  have HR7 := Lib.hid (HR5.out.below hb7)
  have hr7 := blk_below hr5 hb7
  have ho7 := own_mono (ho5.kept (own_below hb7) (own_none _)) hb1.size
  have BW := below_nextT hb15 hb7
  clear HR1 HR2 HR3 HR4 HT1 HT2 HT3 HT4 HT5 HOD hr5 ho5 hb15
  by_cases hc : k = 4 ∧ 3 < n
  · have e1 : (k == 4) = true := by simp [hc.1]
    have e2 : decide ((3 : Int) < (n : Int)) = true := decide_eq_true (by have := hc.2; omega)
    have hc3 : ¬ c = 3 := by omega
    obtain ⟨ad, rfl, _⟩ := rd_str HR7.out (i := 0) (by omega)
    have HC := Lib.hid hc
    clear hc
    have e3 : 3 ≤ n := by have := HC.out.2; omega
    have e4 : (3 : Int) ≤ (n : Int) := by omega
    have hrow : Row w7 (some ⟨ad.block, ad.off + 3, none⟩) (n - 3) (c - 3) 1 16 (strs (l.drop 3)) := by
      have r := HR7.out
      have ea : ad.add 3 = ⟨ad.block, ad.off + 3, none⟩ := by simp [Addr.add]
      have hd : strs (l.drop 3) = (strs l).drop 3 := by simp [strs]
      refine ⟨?_, by omega, by unfold maxLen; omega, (fun h => by cases h), ?_⟩
      · have := r.len
        rw [hd, List.length_drop]
        omega
      · rw [← ea, hd]
        exact r.rd.drop 3
    have HRW := Lib.hid hrow
    have hl3 : ∀ x ∈ l.drop 3, x.length ≤ 281474976710656 := fun x hx => by
      have := HL.out x (List.mem_of_mem_drop hx)
      omega
    have HL3 := Lib.hid hl3
    clear hrow hl3
    go_upto_region 5 with (go_at_call 67; (with_reducible refine (ssrcs_any _ _ _ (l.drop 3) _ HRW.out HL3.out (by omega)).mono ?_); rintro e w8 ⟨ss, B, m, d, rfl, hos, hss4, HQS, hb8⟩; have hi8 := blk_below hi7 hb8; obtain ⟨x0, x1, x2, x3, x4, x5, x6⟩ := seven_cells hi8; have f5 := frozen_of_row w8 w5.heap.size 5 _ _ hi8; have HOS := Lib.hid hos; have HS4 := Lib.hid hss4; clear hos hss4)
    have hi9' := heap_setCell_same w8 w5.heap.size 5 _ 27 (.slice B m d) hi8
    have hgs := set_one w8 w5.heap.size 5 (.slice B m d)
    have hia : (w8.setCell ⟨w5.heap.size, 5, none⟩ (.slice B m d)).heap[w5.heap.size]? = some (.cells #[.int .i64 k, .int .i64 p, .int .i64 s, .int .i64 y, .string ⟨s2.toArray⟩, .slice B m d, .slice D dn dc] 27 (0, 0)) := hi9'
    have hos9 := HOS.out.kept hgs (own_off HOS.out hi8 (by decide))
    have hod8 := ho7.kept (own_below hb8) (own_none _)
    have hod9 := hod8.kept hgs (own_off hod8 hi8 (by decide))
    have hr8 := blk_below hr7 hb8
    have hr9 := (hgs.block _ (blk_in hr8) (fun e => hg7 (by injection e with e; exact e.symm))).trans hr8
    have BW8 := below_nextT BW hb8
    have BW2 := BW8.grown hgs BW8.size (fun q hq => by injection hq with hq; have := h15.size; have := hb1.size; omega)
    have hos9 := own_mono hos9 BW.size
    clear hi9' hi8 x0 x1 x2 x3 x4 x5 x6 f5
    generalize w8.setCell _ _ = wq at *
    have HSO : Hid (SpO wq w.heap.size ⟨⟨k, p, s, y, s2, ss, (unhexL s2).getD []⟩, B, m, d, D, dn, dc⟩) := Lib.hid ⟨hos9, hod9, HS4.out, (show s2.length ≤ _ by omega)⟩
    have HCO : Hid (∀ q, mayO q = true → ssOk q → k = q.k → l = wrdsL q → (nmd ⟨⟨k, p, s, y, s2, ss, (unhexL s2).getD []⟩, B, m, d, D, dn, dc⟩).o = q) := by
      refine Lib.hid fun q hm hs hk hl => ?_
      refine read_cond hm hs hk ?_ ?_ ?_ ?_ ?_ ?_
      · rw [← hl, HS.out.1]; exact HP.out
      · rw [← hl, HS.out.2.1]; exact HSS.out
      · rw [← hl, HS.out.2.2]; exact HY.out
      · rw [← hl, HS.out.2.1]
      · rw [← hl, HS.out.2.1]
      · intro h4
        obtain ⟨_, _, _, hcc⟩ := may_cases hm
        have hsb : q.bs = [] := by
          rcases hcc with h | h | h | h | h | h
          · omega
          · omega
          · omega
          · exact h.2.2.2.1
          · omega
          · omega
        refine HQS.out q.ss hs ?_
        rw [hl, wrds_4 h4 hsb]
        rfl
    obtain ⟨x0, x1, x2, x3, x4, x5, x6⟩ := seven_cells hia
    go_wp2_with (first
      | (go_at_call 14; (with_reducible refine (named_x ⟨⟨k, p, s, y, s2, ss, (unhexL s2).getD []⟩, B, m, d, D, dn, dc⟩ _ HK.out).mono ?_); rintro e w9 ⟨rfl, hb9⟩; have hi9 := blk_below hr9 hb9)
      | (refine wpList_store_blk rfl 27 (.tmp 4) (.tmp 40) rfl w.heap.size _ (spA (nmd ⟨⟨k, p, s, y, s2, ss, (unhexL s2).getD []⟩, B, m, d, D, dn, dc⟩)) _ rfl rfl hi9 rfl (by kernel_rfl) (spA_one _) ?_; intro w10 hi10 hg10))
    exact bodyPost_ret (v := spV (nmd ⟨⟨k, p, s, y, s2, ss, (unhexL s2).getD []⟩, B, m, d, D, dn, dc⟩)) (res_c rfl _ _ w.heap.size _ _ _ _ rfl hi10 Tryz.underlying27 (by kernel_rfl)) rfl ⟨nmd ⟨⟨k, p, s, y, s2, ss, (unhexL s2).getD []⟩, B, m, d, D, dn, dc⟩, rfl, (nmd_own ((HSO.out.below hb9))).grown hg10 hi9, HCO, rfl, (BW2.trans (hb9.mono BW2.size)).grown hg10 (BW2.trans (hb9.mono BW2.size)).size (fun q hq => by injection hq with hq; omega)⟩
  · have HSO : Hid (SpO w7 w.heap.size ⟨⟨k, p, s, y, s2, [], (unhexL s2).getD []⟩, none, 0, 0, D, dn, dc⟩) := Lib.hid ⟨World.ownsRow_nil _ _ _ _, ho7, (fun z hz => by cases hz), (show s2.length ≤ _ by omega)⟩
    have HCO : Hid (∀ q, mayO q = true → ssOk q → k = q.k → l = wrdsL q → (nmd ⟨⟨k, p, s, y, s2, [], (unhexL s2).getD []⟩, none, 0, 0, D, dn, dc⟩).o = q) := by
      refine Lib.hid fun q hm hs hk hl => ?_
      refine read_cond hm hs hk ?_ ?_ ?_ ?_ ?_ ?_
      · rw [← hl, HS.out.1]; exact HP.out
      · rw [← hl, HS.out.2.1]; exact HSS.out
      · rw [← hl, HS.out.2.2]; exact HY.out
      · rw [← hl, HS.out.2.1]
      · rw [← hl, HS.out.2.1]
      · intro h4
        exfalso
        apply hc
        refine ⟨hk.trans h4, ?_⟩
        have hnn : l.length = n := by have := HR7.out.len; rw [strs_length] at this; omega
        obtain ⟨_, _, _, hcc⟩ := may_cases hm
        have hss : 1 ≤ q.ss.length ∧ q.bs = [] := by
          rcases hcc with h | h | h | h | h | h
          · omega
          · omega
          · omega
          · exact ⟨h.2.2.2.2.1, h.2.2.2.1⟩
          · omega
          · omega
        rw [← hnn, hl, wrds_4 h4 hss.2]
        simp
        omega
    obtain ⟨x0, x1, x2, x3, x4, x5, x6⟩ := seven_cells hi7
    by_cases h4 : k = 4
    · have e1 : (k == 4) = true := by simp [h4]
      have e2 : decide ((3 : Int) < (n : Int)) = false := decide_eq_false (fun h => hc ⟨h4, by omega⟩)
      clear hc h4
      go_wp2_with (first
        | (go_at_call 14; (with_reducible refine (named_x ⟨⟨k, p, s, y, s2, [], (unhexL s2).getD []⟩, none, 0, 0, D, dn, dc⟩ _ HK.out).mono ?_); rintro e w9 ⟨rfl, hb9⟩; have hi9 := blk_below hr7 hb9)
        | (refine wpList_store_blk rfl 27 (.tmp 4) (.tmp 40) rfl w.heap.size _ (spA (nmd ⟨⟨k, p, s, y, s2, [], (unhexL s2).getD []⟩, none, 0, 0, D, dn, dc⟩)) _ rfl rfl hi9 rfl (by kernel_rfl) (spA_one _) ?_; intro w10 hi10 hg10))
      exact bodyPost_ret (v := spV (nmd ⟨⟨k, p, s, y, s2, [], (unhexL s2).getD []⟩, none, 0, 0, D, dn, dc⟩)) (res_c rfl _ _ w.heap.size _ _ _ _ rfl hi10 Tryz.underlying27 (by kernel_rfl)) rfl ⟨nmd ⟨⟨k, p, s, y, s2, [], (unhexL s2).getD []⟩, none, 0, 0, D, dn, dc⟩, rfl, (nmd_own ((HSO.out.below hb9))).grown hg10 hi9, HCO, rfl, (BW.trans (hb9.mono BW.size)).grown hg10 (BW.trans (hb9.mono BW.size)).size (fun q hq => by injection hq with hq; omega)⟩
    · have e1 : (k == 4) = false := by simp [h4]
      clear hc h4
      go_wp2_with (first
        | (go_at_call 14; (with_reducible refine (named_x ⟨⟨k, p, s, y, s2, [], (unhexL s2).getD []⟩, none, 0, 0, D, dn, dc⟩ _ HK.out).mono ?_); rintro e w9 ⟨rfl, hb9⟩; have hi9 := blk_below hr7 hb9)
        | (refine wpList_store_blk rfl 27 (.tmp 4) (.tmp 40) rfl w.heap.size _ (spA (nmd ⟨⟨k, p, s, y, s2, [], (unhexL s2).getD []⟩, none, 0, 0, D, dn, dc⟩)) _ rfl rfl hi9 rfl (by kernel_rfl) (spA_one _) ?_; intro w10 hi10 hg10))
      exact bodyPost_ret (v := spV (nmd ⟨⟨k, p, s, y, s2, [], (unhexL s2).getD []⟩, none, 0, 0, D, dn, dc⟩)) (res_c rfl _ _ w.heap.size _ _ _ _ rfl hi10 Tryz.underlying27 (by kernel_rfl)) rfl ⟨nmd ⟨⟨k, p, s, y, s2, [], (unhexL s2).getD []⟩, none, 0, 0, D, dn, dc⟩, rfl, (nmd_own ((HSO.out.below hb9))).grown hg10 hi9, HCO, rfl, (BW.trans (hb9.mono BW.size)).grown hg10 (BW.trans (hb9.mono BW.size)).size (fun q hq => by injection hq with hq; omega)⟩
end Go.Proofs.YtaghecgjmkhpcaaGreatDoor
