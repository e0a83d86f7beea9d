/-
ArenaOnce: no handle is told twice; one that was dropped is stale from then on; Take fails only when all slots are taken. For every number and every list of numbers, of which the first eighty are looked at.
-/
import Derived.Test.YtfmojphbjhedgaaOnceA
import Derived.Test.YtfmojphbjhedgaaRows
import Derived.Deep.CutBlock
import Derived.Laws.Bits128
namespace Go.Proofs.Ytfmojphbjhedgaa
set_option linter.unusedVariables false
set_option linter.unusedSimpArgs false
open Go.RowKit

theorem freeS_none {S : List Slo} (h : freeIx S = none) : freeS S = 0 := by
  unfold freeIx at h
  rw [List.findIdx?_eq_none_iff] at h
  unfold freeS
  rw [List.length_eq_zero_iff, List.filter_eq_nil_iff]
  intro s hs
  have := h s hs
  simp at this ⊢
  exact this
theorem freeIx_free {S : List Slo} {f : Nat} (h : freeIx S = some f) : ∃ hf : f < S.length, S[f].2 = 0 := by
  obtain ⟨hf, h1, _⟩ := List.findIdx?_eq_some_iff_getElem.1 h
  exact ⟨hf, by simpa using h1⟩
theorem i64_and_mask (n : Int) (j : Nat) (M : Int) (h127 : (BitVec.ofInt 64 M).toNat = 2 ^ j - 1) (hj : j ≤ 16) : bits .and .i64 n M = n % (2 ^ j : Nat) := by
  have key : (BitVec.ofInt 64 n &&& BitVec.ofInt 64 M).toNat = (n % ((2 ^ 64 : Nat) : Int)).toNat % 2 ^ j := by
    rw [BitVec.toNat_and, BitVec.toNat_ofInt, h127, Nat.and_two_pow_sub_one_eq_mod]
  show IntKind.i64.wrap ((BitVec.ofInt 64 n &&& BitVec.ofInt 64 M).toNat : Nat) = _
  rw [key, IntKind.wrap_i64]
  have : j = 0 ∨ j = 1 ∨ j = 2 ∨ j = 3 ∨ j = 4 ∨ j = 5 ∨ j = 6 ∨ j = 7 ∨ j = 8 ∨ j = 9 ∨ j = 10 ∨ j = 11 ∨ j = 12 ∨ j = 13 ∨ j = 14 ∨ j = 15 ∨ j = 16 := by omega
  rcases this with rfl | rfl | rfl | rfl | rfl | rfl | rfl | rfl | rfl | rfl | rfl | rfl | rfl | rfl | rfl | rfl | rfl <;> simp only [Nat.reducePow, Int.reducePow] <;> omega
theorem i64_and_1 (n : Int) : bits .and .i64 n 1 = n % 2 := by
  have := i64_and_mask n 1 1 (by decide) (by omega)
  simpa using this
theorem i64_and_65535 (n : Int) : bits .and .i64 n 65535 = n % 65536 := by
  have := i64_and_mask n 16 65535 (by decide) (by omega)
  simpa using this
theorem once_at {w : World} {A : Option Addr} {k : IntKind} {zs : List Int} (h : Rd w A (ivs k zs)) {j : Nat} (hj : j < zs.length) : ∃ ad, A = some ad ∧ w.cell? (ad.add j) = some (.int k (zs.getD j 0)) :=
  h j _ (by simp [ivs, List.getElem?_eq_getElem hj])
theorem once_cap {w : World} {base : Nat} {e : TypeId} {size : Nat} {A : Option Addr} {n c : Nat} {xs : List Value} (h : w.ownsRow base e size (.slice A n c) n xs) : n ≤ c ∧ c ≤ maxLen := by
  rcases h.2 with ⟨h, _⟩ | ⟨g, cap, cur, h, _, _, h1, h2, _⟩
  · injection h with _ h1 h2; subst h1; subst h2; exact ⟨Nat.le_refl _, Nat.zero_le _⟩
  · injection h with _ _ h3; subst h3; exact ⟨h1, h2⟩
theorem once_cell {w : World} {ad : Addr} {k : IntKind} {zs : List Int} (h : Rd w (some ad) (ivs k zs)) {j : Nat} (hj : j < zs.length) : w.cell? (ad.add j) = some (.int k (zs.getD j 0)) := by
  obtain ⟨ad', he, hc⟩ := once_at h hj
  injection he with he
  subst he
  exact hc
theorem wpList_apprun {P : Program} {t : TypeId} {w w' : World} {ops : Array Oper} {rest : List Oper} {o : Oper} {a : Act} {Q : Exit → Act → World → Prop} (hgd : o.guard = none) (s x : Operand)
    (ho : o.op = .call { callee := .builtin .append, args := #[s, x], argTypes := #[t, t] }) {va vb v : Value} {ty : TypeId} (hty : o.type = ty)
    (hrun : (Builtin.append_ #[t, t] ty #[va, vb]).run P w = .ok v w') (hs : a.eval s = va) (hx : a.eval x = vb) (h : wpList P ops Q rest (a.put o.dst v) w') : wpList P ops Q (o :: rest) a w := by
  subst hty
  refine wpList_plain hgd fun K hK => ?_
  unfold Oper.wp execOp
  simp only [ho, resolve, invoke, builtin, Sem.run_bind, Sem.run_pure, Result.andThen_ok, List.map_toArray, List.map_cons, List.map_nil, hs, hx, hrun]
  exact hK _ _ h
set_option maxRecDepth 20000 in
set_option maxHeartbeats 2000000 in
theorem arenaOnce_walk (N : Int) (X : Option Addr) (m d : Nat) (zs : List Int) (w : World) (h0 : -9223372036854775808 ≤ N ∧ N ≤ 9223372036854775807)
    (hm : zs.length = m) (hmd : m ≤ d) (hdm : d ≤ maxLen) (hb1 : m * 8 ≤ 140737488351232) (hY : X = none → m = 0 ∧ d = 0) (hs : Rd w X (ivs .i64 zs)) (hzs : ∀ x ∈ zs, (Lit.int .i64 x).wf = true) :
    Calls Try.prog 4 #[.int .i64 N, .slice X m d] w fun e w' => e = .returned (.bool true) ∧ Below w.heap.size w w' := by
  have Hm := Lib.hid hm
  have Hs := Lib.hid hs
  obtain ⟨n, hn⟩ : ∃ n, n = sizeS N := ⟨_, rfl⟩
  obtain ⟨_, hn1, hn2⟩ := sizeS_is N
  rw [← hn] at hn1 hn2
  have HN := Lib.hid hn
  have hmm := @run_makeMap Try.prog
  clear hm hs hY hzs hmd hdm hb1 hn
  go_enter Try.func4, Try.ntmps4
  go_wp2_with (first
    | (go_at_call 7; (with_reducible refine (shown11_any _).mono ?_); rintro e w1 ⟨rfl, hb1⟩)
    | (go_at_call 8; (with_reducible refine (new_any N _ h0).mono ?_); rintro e w2 ⟨p, rfl, ⟨q, c, hA⟩, hb2⟩; rw [← HN.out] at hA))
  have hs1 := hb1.size
  have hB2 := hb1.trans (hb2.mono hs1)
  have hO0 : Once w (w2.alloc (.map #[] 0)) w1.heap.size p q n c (List.replicate n (1, 0)) none 0 0 [] w2.heap.size 0 (.map []) :=
    ⟨hA.below ((Below.refl w2.heap.size w2).alloc (Nat.le_refl _) _), World.ownsRow_nil _ _ _ _, World.ownsMap_made _ _ _ _, hB2.alloc hB2.size _, hs1, hB2.size⟩
  have hk0 : OnceOk 0 (List.replicate n (1, 0)) [] (.map []) := by
    refine ⟨?_, ?_, List.nodup_nil, by simp, ?_, ?_⟩
    · intro s hs; rw [List.eq_of_mem_replicate hs]; decide
    · intro s hs; rw [List.eq_of_mem_replicate hs]; decide
    · simp [freeS, List.filter_replicate]
    · intro k g hk kl hkl hc; rfl
  generalize w2.alloc (.map #[] 0) = w3 at *
  go_loopw [7, 8] (fun tl i wr => ∃ (k t ct : Nat) (A : Option Addr) (S hds : List Slo) (mc : Nat) (D : DataW Unit), i = .int .i64 k ∧ tl = .slice A t ct ∧ k ≤ m ∧ k ≤ 80 ∧ mc ≤ k ∧ Hid (OnceOk k S hds D) ∧ Once w wr w1.heap.size p q n c S A t ct hds w2.heap.size mc D) (fun _ i _ => m - (intOf i).toNat)
  case atStart => exact ⟨0, 0, 0, none, _, [], 0, .map [], rfl, rfl, Nat.zero_le _, Nat.zero_le _, Nat.le_refl _, hk0, hO0⟩
  case round =>
    clear hA hO0 hk0 hB2
    obtain ⟨k, t, ct, A, S, hds, mc, D, rfl, rfl, hkm, hk80, hmc, HK, hO⟩ := hrel
    have htl : hds.length = t := by have := hO.told.1; rw [rowH_length] at this; omega
    have hcnt := HK.out.cnt
    have hlen := hO.a.len
    by_cases hlt : k < m ∧ k < 80
    · obtain ⟨hl1, hl2⟩ := hlt
      obtain ⟨ad, rfl, cz⟩ := once_at (Hs.out.below hO.b) (j := k) (by rw [Hm.out]; exact hl1)
      have ht := take_any hO.a
      go_upto_if 33 with (go_at_call 11; (with_reducible refine ht.mono ?_); rintro e wk ⟨rfl, hX, hg⟩; have hO := hO.stepA hX hg; have hle4 := hO.le; have hah : Ahead A wk.heap.size := hO.ahead; have hO := hO.alloc (.cells #[.int .i64 (takeSlot S), .int .u32 (takeGen S)] 31); have hh : HBlk (wk.alloc (.cells #[.int .i64 (takeSlot S), .int .u32 (takeGen S)] 31)) wk.heap.size (takeSlot S) (takeGen S) := heap_alloc_new wk _)
      clear hX hg ht
      go_cut [7, 10] from 17 to 113 (fun s7 s10 wx => ∃ (t' ct' : Nat) (A' : Option Addr) (hds' : List Slo) (mc' : Nat) (D' : DataW Unit), s7 = .slice A' t' ct' ∧ mc' ≤ k + 1 ∧ Hid (A'.map Addr.block ≠ some wk.heap.size) ∧ Hid (OnceOk k (takeS S) hds' D') ∧
        Once w wx w1.heap.size p q n c (takeS S) A' t' ct' hds' w2.heap.size mc' D' ∧ HBlk wx wk.heap.size (takeSlot S) (takeGen S))
      case first =>
        rcases hf : freeIx S with _ | f
        · obtain ⟨t1, t2, t3, t4⟩ := takeS_none hf
          have hfs := freeS_none hf
          have htn : ((t : Int) != (n : Int)) = false := by simp; omega
          have HK0 : Hid (OnceOk k (takeS S) hds D) := by rw [t1]; exact HK
          rw [t4]
          clear hf t1 t2 t3 t4
          go_wp2_with (go_at_call 22; (with_reducible refine (slots_any hO.a).mono ?_); rintro e wb ⟨g9, c9, rfl, ho9, hX⟩; have hO := hO.below hX; have hh := hh.below hX)
          go_meet
          exact ⟨_, _, _, _, _, _, rfl, by omega, (fun e => Nat.lt_irrefl _ (hah _ e) : A.map Addr.block ≠ some wk.heap.size), HK0, hO, hh⟩
        · obtain ⟨hfl, hf0⟩ := freeIx_free hf
          obtain ⟨t1, t2, t3, t4⟩ := takeS_at hfl hf
          have hgf : S[f].1 < 4294967296 := by
            have := HK.out.gen _ (List.getElem_mem hfl); omega
          obtain ⟨kl, hkl0⟩ := keyH wr f S[f].1 (by have := hO.a.top; omega) hgf
          have hkl : keyOf Try.prog 31 (.agg #[.int .i64 (takeSlot S), .int .u32 (takeGen S)]) = some kl := by rw [t2, t3]; exact hkl0
          have huns := HK.out.uns f S[f].1 hfl kl hkl0 (.inr ⟨rfl, hf0⟩)
          have HK2 : Hid (OnceOk k (takeS S) (hds ++ [(takeSlot S, takeGen S)]) (D.put kl (.lit (.bool true)))) := by rw [t1, t2, t3]; exact HK.out.take hfl hf0 hkl0
          have hrf : refsS (takeS S) (takeSlot S) (takeGen S) = 1 := by
            rw [t1, t2, t3]
            have hk' : f < (S.set f (S[f].1, 1)).length := by simpa using hfl
            have hv := liveS_of hk' (by simp)
            rw [show (S.set f (S[f].1, 1))[f].1 = S[f].1 by simp] at hv
            rw [refsS_yes hk' hv]
            simp
          have HRF := Lib.hid hrf
          have HKL := Lib.hid hkl
          rw [t4]
          clear hrf hkl hkl0 hf t1 t2 t3 t4
          have hlook := look_not hO.map HKL.out huns
          obtain ⟨y0, y1⟩ := hh.cells
          clear huns
          go_wp2_with (first
            | (go_at_call 17; (with_reducible refine (refs_any hO.a _ _).mono ?_); rintro e wb ⟨rfl, hX⟩; rw [HRF.out]; have hh := hh.below hX; have hO := hO.below hX; obtain ⟨x0, x1⟩ := hh.cells)
            | (at_mapUpdate; refine wpList_mapUpdate_own _ rfl _ _ _ 49 rfl 31 4 lawH Try.underlying49 (plainElem Try.prog 4) w2.heap.size mc D rfl hO.map (by unfold maxLen; omega) _ _ kl rfl rfl HKL.out (.lit (.bool true)) [] (plainElem_bool Try.underlying4 true) ?_; intro w5 hm5 hg5; have hh := hh.upd hO.map hg5; have hO := hO.upd hm5 hg5; obtain ⟨x0, x1⟩ := hh.cells)
            | (at_builtin; refine wpList_app slH rfl _ _ rfl w1.heap.size A t ct (rowH hds) rfl (hO.told.alloc _) (some ⟨w5.heap.size, 0, none⟩) 1 1 (rowH [(takeSlot S, takeGen S)]) rfl rfl (rd_row (World.ownsRow_lit (base := 0) (e := 31) (size := 2) w5 #[.int .i64 (takeSlot S), .int .u32 (takeGen S)] 1 (Nat.zero_le _) (by unfold maxLen; omega) rfl)) (rowH_one _) (by omega) (hO.alloc _).le ?_; intro A1 c1 w7 ho7 hg7 hA7; rw [← rowH_append] at ho7; have hw5 := block_lt hh; have hh := hh.app hg7 hah; have hO := hO.app hg7 ho7))
          go_meet
          refine ⟨_, _, _, _, _, _, rfl, by omega, ?_, HK2, hO, hh⟩
          show A1.map Addr.block ≠ some wk.heap.size
          rcases hA7 with rfl | rfl
          · exact fun e => Nat.lt_irrefl _ (hah _ e)
          · intro e
            simp at e
            omega
      case rest =>
        obtain ⟨t', ct', A', hds', mc', D', rfl, hmc', hne, HK2, hO, hh⟩ := hcut
        clear HK hmc htl hcnt cz
        have htl : hds'.length = t' := by have := hO.told.1; rw [rowH_length] at this; omega
        have cz := once_cell (Hs.out.below hO.b) (j := k) (by rw [Hm.out]; exact hl1)
        generalize zs.getD k 0 = z at *
        have z1 := i64_and_1 z
        by_cases hz : z % 2 = 0
        · have hz' : (z % 2 == 0) = true := by simp [hz]
          go_wp2_with fail
          exact ⟨⟨k + 1, _, _, _, _, _, _, _, rfl, rfl, by omega, by omega, hmc', HK2.out.up, hO⟩, by simp [intOf]; omega⟩
        · have hz' : (z % 2 == 0) = false := by simp [hz]
          by_cases ht0 : t' = 0
          · subst ht0
            go_wp2_with fail
            exact ⟨⟨k + 1, _, _, _, _, _, _, _, rfl, rfl, by omega, by omega, hmc', HK2.out.up, hO⟩, by simp [intOf]; omega⟩
          · have ht1 : ((t' : Int) == 0) = false := by simp; omega
            have z3 := i64_and_65535 (z / 2)
            obtain ⟨K, hK2⟩ := Int.eq_ofNat_of_zero_le (show 0 ≤ z / 2 % 65536 % (t' : Int) from Int.emod_nonneg _ (by omega))
            have hK1 : (z / 2 % 65536).tmod (t' : Int) = K := by rw [Int.tmod_eq_emod_of_nonneg (by omega)]; exact hK2
            have hKt : K < t' := by
              have := Int.emod_lt_of_pos (z / 2 % 65536) (show (0 : Int) < t' by omega)
              omega
            have hKl : K < hds'.length := by omega
            obtain ⟨hsl, hse, HK3⟩ := HK2.out.drop hKl hk80
            obtain ⟨g8, cap8, hv8, _⟩ := hO.told.form (by omega)
            injection hv8 with hv8 _ hv9
            subst hv8
            subst hv9
            have hcap := once_cap hO.told
            have hcm := hcap.2
            unfold maxLen at hcm
            have hx1 : dropS (takeS S) hds'[K].1 hds'[K].2 = (takeS S).set hds'[K].1 (hds'[K].2 + 1, 0) ∧ staleS (takeS S) hds'[K].1 hds'[K].2 = 0 := by
              have hv := liveS_of hsl (by rw [hse]; exact Nat.one_pos)
              rw [show ((takeS S)[hds'[K].1].1 : Int) = (hds'[K].2 : Int) by rw [hse]] at hv
              have hg := HK2.out.gen _ (List.getElem_mem hsl)
              rw [hse] at hg
              refine ⟨?_, staleS_yes hv⟩
              rw [dropS_last hsl hv (by rw [hse]), hse]
              have : (hds'[K].2 + 1) % 4294967296 = hds'[K].2 + 1 := Nat.mod_eq_of_lt (by have : hds'[K].2 ≤ k + 1 := hg; omega)
              rw [this]
            have hx2 : liveS ((takeS S).set hds'[K].1 (hds'[K].2 + 1, 0)) hds'[K].1 hds'[K].2 = false := by
              simp [liveS, hsl]
            generalize hS3 : (takeS S).set hds'[K].1 (hds'[K].2 + 1, 0) = S3 at *
            have hbig : ∀ s ∈ takeS S, s.2 < 9223372036854775807 := fun s hs => by have := HK2.out.le1 s hs; omega
            have hbig3 : ∀ s ∈ S3, s.2 < 9223372036854775807 := fun s hs => by have := HK3.le1 s hs; omega
            have cd1 : ∀ wz, ArAt 57 [] wz w1.heap.size p q n c (takeS S) → Calls Try.prog 15 #[.pointer (some ⟨p, 0, none⟩), .agg #[.int .i64 hds'[K].1, .int .u32 hds'[K].2]] wz fun e w' => e = .returned (.int .i64 0) ∧ ArAt 57 [] w' w1.heap.size p q n c S3 ∧ wz.grownBy w' (some q) := fun wz h => by
              have := drop_any h hds'[K].1 hds'[K].2 hbig
              rwa [hx1.1, hx1.2] at this
            have cd2 : ∀ wz, ArAt 57 [] wz w1.heap.size p q n c S3 → Calls Try.prog 15 #[.pointer (some ⟨p, 0, none⟩), .agg #[.int .i64 hds'[K].1, .int .u32 hds'[K].2]] wz fun e w' => e = .returned (.int .i64 7) ∧ ArAt 57 [] w' w1.heap.size p q n c S3 ∧ wz.grownBy w' (some q) := fun wz h => by
              have := drop_any h hds'[K].1 hds'[K].2 hbig3
              rwa [dropS_no hx2, staleS_no hx2] at this
            have cd3 : ∀ wz, ArAt 57 [] wz w1.heap.size p q n c S3 → Calls Try.prog 13 #[.pointer (some ⟨p, 0, none⟩), .agg #[.int .i64 hds'[K].1, .int .u32 hds'[K].2]] wz fun e w' => e = .returned (.int .i64 7) ∧ ArAt 57 [] w' w1.heap.size p q n c S3 ∧ wz.grownBy w' (some q) := fun wz h => by
              have := keep_any h hds'[K].1 hds'[K].2 hbig3
              rwa [keepS_no hx2, staleS_no hx2] at this
            have cd4 : ∀ wz, ArAt 57 [] wz w1.heap.size p q n c S3 → Calls Try.prog 17 #[.pointer (some ⟨p, 0, none⟩), .agg #[.int .i64 hds'[K].1, .int .u32 hds'[K].2]] wz fun e w' => e = .returned (.int .i64 0) ∧ Below wz.heap.size wz w' := fun wz h => by
              have := refs_any h hds'[K].1 hds'[K].2
              rwa [refsS_no hx2] at this
            have b0 := rd_at (rd_row hO.told) (rowH_slot hds' K hKl)
            have b1 := rd_at (rd_row hO.told) (rowH_gen hds' K hKl)
            obtain ⟨⟨x0, x1⟩, ⟨x2, x3⟩, x4⟩ := row2_store hh (.int .i64 hds'[K].1) (.int .u32 hds'[K].2)
            have hset := hO.set2 hh hne.out (Nat.le_trans hs1 hle4) hds'[K].1 hds'[K].2
            have CD1 := Lib.hid cd1
            have CD2 := Lib.hid cd2
            have CD3 := Lib.hid cd3
            have CD4 := Lib.hid cd4
            clear cd1 cd2 cd3 cd4
            have ht1024 : t' ≤ 1024 := by have h1 := HK2.out.cnt; have h2 := hO.a.len; have h3 := hO.a.top; omega
            have HSET := Lib.hid hset
            have HK3' := Lib.hid HK3
            have HT := Lib.hid htl
            clear x4 hset hx1 hx2 hbig hbig3 hS3 HK3 hse hsl htl
            generalize hds'[K].1 = si at *
            generalize hds'[K].2 = gi at *
            go_wp2_with fail
            have hO := HSET.out.1
            have hh := HSET.out.2
            refine region_plan (calmB_sound _) (.check [0, 1, 2, 4, 5] 6 (.leaf [6, 7, 3, 8, 9])) (by kernel_rfl) (by kernel_rfl) (by kernel_rfl) ?_
            have hO := hO.drew
            have hh := hh.drew
            generalize ((wc.setCell ⟨wk.heap.size, 0, none⟩ (.int .i64 si)).setCell ⟨wk.heap.size, 1, none⟩ (.int .u32 gi)).drew = w8 at *
            clear HSET x0 x1 x2 x3 b0 b1 cz hz hz' z1 z3 hK1 hK2 ht0 ht1
            have hT := HT.out
            have q2 : (K : Int) + 1 ≤ t' := by omega
            have q3 : K + 1 ≤ t' := by omega
            have q4 : (K : Int) ≤ ct' := by omega
            have q5 : K ≤ ct' := by omega
            have hrdT := rd_row hO.told
            have q7 : K + 1 ≤ ct' := by omega
            have q0 : (0 : Int) ≤ (K : Int) + 1 := by omega
            clear hcm hcap
            have hwk := block_lt hh
            have hle8 := hO.le
            have HC := Lib.hid (told_cut hO.told q3)
            clear hrdT hT
            by_cases hck : ct' = K + 1
            ·
              subst hck
              obtain ⟨A1, c1, w9, hr9, ho9, hg9, hA9⟩ := run_app slH w8 28 w1.heap.size none 0 0 [] (World.ownsRow_nil _ _ _ _) (some ⟨g8, 0, none⟩) K (K + 1) (rowH (hds'.take K)) HC.out.2.2.2.1 HC.out.1 (rowH_one _) (by omega) hle8
              simp only [Nat.zero_add, List.nil_append] at hr9 ho9
              have hb9 := (Below.refl w8.heap.size w8).grown hg9 (Nat.le_refl _) (by simp)
              have hO9 := (hO.below hb9).fresh ho9
              have hh9 := hh.below hb9
              obtain ⟨A2, c2, w10, hr10, ho10, hg10, hA10⟩ := run_app slH w9 28 w1.heap.size A1 K c1 (rowH (hds'.take K)) ho9 (some ⟨g8, 0, none⟩) (t' - (K + 1)) 0 (rowH (hds'.drop (K + 1))) HC.out.2.2.2.2 ((HC.out.2.2.1 rfl).below hb9) (rowH_one _) (by omega) hO9.le
              rw [← rowH_append] at ho10
              have hne9 : A1.map Addr.block ≠ some wk.heap.size := by
                rcases hA9 with rfl | rfl
                · simp
                · simp; omega
              have hO := hO9.app0 hg10 ho10
              have hh := hh9.app0 hg10 hne9
              obtain ⟨y0, y1⟩ := hh.cells
              have HO9 := Lib.hid (And.intro hO9 hh9)
              clear hO9 hh9 hg9 hg10 ho9 ho10 hb9 hne9 hA9 hA10
              refine wpPlan_check fun K1 hK1' => ?_
              simp only [List.filterMap_cons, List.filterMap_nil, List.getElem?_toArray, List.getElem?_cons_succ, List.getElem?_cons_zero]
              go_wp2
              refine hK1' _ _ (fun _ => .inl ⟨_, _, _, _, rfl, rfl⟩) ?_
              refine wpPlan_leaf fun K2 hK2' => ?_
              simp only [List.filterMap_cons, List.filterMap_nil, List.getElem?_toArray, List.getElem?_cons_succ, List.getElem?_cons_zero]
              change wpList _ _ _ [_, _, _, _, _] _ _
              go_wp2_with (first
                | (at_builtin; refine wpList_apprun rfl (.const (.slice none 0 0)) (.tmp 85) rfl rfl hr9 rfl rfl ?_)
                | (at_builtin; refine wpList_apprun rfl (.tmp 86) (.tmp 90) rfl rfl hr10 rfl rfl ?_)
                | (go_at_call 15; (with_reducible refine (CD1.out _ hO.a).mono ?_); rintro e wa ⟨rfl, hX, hg⟩; obtain ⟨cur, hkk⟩ := hO.a.kind; have hh := hh.grow hg hkk; have hOb := hO.stepA hX hg; obtain ⟨y0, y1⟩ := hh.cells)
                | (go_at_call 15; (with_reducible refine (CD2.out _ hOb.a).mono ?_); rintro e wa ⟨rfl, hX, hg⟩; obtain ⟨cur, hkk⟩ := hOb.a.kind; have hh := hh.grow hg hkk; have hOc := hOb.stepA hX hg; obtain ⟨y0, y1⟩ := hh.cells)
                | (go_at_call 13; (with_reducible refine (CD3.out _ hOc.a).mono ?_); rintro e wa ⟨rfl, hX, hg⟩; obtain ⟨cur, hkk⟩ := hOc.a.kind; have hh := hh.grow hg hkk; have hOd := hOc.stepA hX hg; obtain ⟨y0, y1⟩ := hh.cells)
                | (go_at_call 17; (with_reducible refine (CD4.out _ hOd.a).mono ?_); rintro e wa ⟨rfl, hX⟩; have hOe := hOd.below hX))
              exact ⟨⟨k + 1, _, _, _, _, _, _, _, rfl, rfl, by omega, by omega, hmc', HK3'.out, hOe⟩, by simp [intOf]; omega⟩
            ·
              obtain ⟨A1, c1, w9, hr9, ho9, hg9, hA9⟩ := run_app slH w8 28 w1.heap.size none 0 0 [] (World.ownsRow_nil _ _ _ _) (some ⟨g8, 0, none⟩) K ct' (rowH (hds'.take K)) HC.out.2.2.2.1 HC.out.1 (rowH_one _) (by omega) hle8
              simp only [Nat.zero_add, List.nil_append] at hr9 ho9
              have hb9 := (Below.refl w8.heap.size w8).grown hg9 (Nat.le_refl _) (by simp)
              have hO9 := (hO.below hb9).fresh ho9
              have hh9 := hh.below hb9
              obtain ⟨A2, c2, w10, hr10, ho10, hg10, hA10⟩ := run_app slH w9 28 w1.heap.size A1 K c1 (rowH (hds'.take K)) ho9 (some ⟨g8, (K + 1) * 2, none⟩) (t' - (K + 1)) (ct' - (K + 1)) (rowH (hds'.drop (K + 1))) HC.out.2.2.2.2 (HC.out.2.1.below hb9) (rowH_one _) (by omega) hO9.le
              rw [← rowH_append] at ho10
              have hne9 : A1.map Addr.block ≠ some wk.heap.size := by
                rcases hA9 with rfl | rfl
                · simp
                · simp; omega
              have hO := hO9.app0 hg10 ho10
              have hh := hh9.app0 hg10 hne9
              obtain ⟨y0, y1⟩ := hh.cells
              have HO9 := Lib.hid (And.intro hO9 hh9)
              clear hO9 hh9 hg9 hg10 ho9 ho10 hb9 hne9 hA9 hA10
              refine wpPlan_check fun K1 hK1' => ?_
              simp only [List.filterMap_cons, List.filterMap_nil, List.getElem?_toArray, List.getElem?_cons_succ, List.getElem?_cons_zero]
              go_wp2
              refine hK1' _ _ (fun _ => .inl ⟨_, _, _, _, rfl, rfl⟩) ?_
              refine wpPlan_leaf fun K2 hK2' => ?_
              simp only [List.filterMap_cons, List.filterMap_nil, List.getElem?_toArray, List.getElem?_cons_succ, List.getElem?_cons_zero]
              change wpList _ _ _ [_, _, _, _, _] _ _
              go_wp2_with (first
                | (at_builtin; refine wpList_apprun rfl (.const (.slice none 0 0)) (.tmp 85) rfl rfl hr9 rfl rfl ?_)
                | (at_builtin; refine wpList_apprun rfl (.tmp 86) (.tmp 90) rfl rfl hr10 rfl rfl ?_)
                | (go_at_call 15; (with_reducible refine (CD1.out _ hO.a).mono ?_); rintro e wa ⟨rfl, hX, hg⟩; obtain ⟨cur, hkk⟩ := hO.a.kind; have hh := hh.grow hg hkk; have hOb := hO.stepA hX hg; obtain ⟨y0, y1⟩ := hh.cells)
                | (go_at_call 15; (with_reducible refine (CD2.out _ hOb.a).mono ?_); rintro e wa ⟨rfl, hX, hg⟩; obtain ⟨cur, hkk⟩ := hOb.a.kind; have hh := hh.grow hg hkk; have hOc := hOb.stepA hX hg; obtain ⟨y0, y1⟩ := hh.cells)
                | (go_at_call 13; (with_reducible refine (CD3.out _ hOc.a).mono ?_); rintro e wa ⟨rfl, hX, hg⟩; obtain ⟨cur, hkk⟩ := hOc.a.kind; have hh := hh.grow hg hkk; have hOd := hOc.stepA hX hg; obtain ⟨y0, y1⟩ := hh.cells)
                | (go_at_call 17; (with_reducible refine (CD4.out _ hOd.a).mono ?_); rintro e wa ⟨rfl, hX⟩; have hOe := hOd.below hX))
              exact ⟨⟨k + 1, _, _, _, _, _, _, _, rfl, rfl, by omega, by omega, hmc', HK3'.out, hOe⟩, by simp [intOf]; omega⟩
    · go_wp2_with (first
        | (go_at_call 19; (with_reducible refine (free_any hO.a).mono ?_); rintro e wb ⟨rfl, hX⟩; have hO := hO.below hX)
        | (go_at_call 22; (with_reducible refine (slots_any hO.a).mono ?_); rintro e wb ⟨g9, c9, rfl, ho9, hX⟩; have hO := hO.below hX))
      all_goals
        have hfin : ((freeS S : Int) == (n : Int) - (t : Int)) = true := by simp; omega
        go_ret
        exact ⟨congrArg Ending.returned (congrArg Value.bool hfin), hO.b⟩
namespace arenaOnce
open Go.ChangeShapes Go.WideShapes Go.ChangeAt Go.RowKit
open Go.ChangeMaps (open_string shut_string)
set_option linter.unusedVariables false

theorem own : ownKnob Try.prog.godebug = none := by kernel_rfl
theorem laidOut : laidOutB Try.prog = true := by kernel_rfl

set_option maxRecDepth 100000 in
theorem lifted (os : Os) (started : os.Started) (H : Type) (enc : TypeId × Value → H) :
    ReturnsInHanded {} Try.checked os 4 .any (Rows.arenaOnceSpec.pre6 enc Try.prog Try.f4 Rows.arenaOnceRow.domain false) (Rows.arenaOnceSpec.post enc Try.prog Try.f4 false true false false) := by
  refine returnsInHanded_of_change_sized (C := Try.checked) own started (by kernel_rfl) Try.func4
    (ChangeSpec.witness6 (enc := enc) (C := Try.checked) false ⟨#[], #[.int .i64 0, .slice none 0 0], []⟩ 8 (by kernel_rfl) (by kernel_rfl) (by kernel_rfl) (by kernel_rfl)) ?_
  intro W base args ds gs before hval0 hW hcnd hsz0 _
  have hsz : (DataW.weightsEach Try.prog (Try.f4.params.toList ++ Rows.arenaOnceSpec.plain.varTypes Try.prog) (ds ++ gs)).all (· ≤ reachBytes) = true := hsz0
  have hval : ∀ (j : Nat) t v, Try.f4.params[j]? = some t → args[j]? = some v → Value.okWide Try.prog W .any base t v := hval0
  have hW' := hW
  obtain ⟨p, q, hA0, hV, rfl, hfz, hnd⟩ := hW
  have hA : DataW.TrodAll enc Try.prog W 0 (fun _ => true) true Try.f4.params.toList args.toList ds p := hA0
  rw [Try.params4] at hA hval hsz
  obtain ⟨v0, vs0, d0, ds0, p0, q0, hargs, rfl, rfl, h0, r0⟩ := trodAll_cons hA
  obtain ⟨v1, vs1, d1, ds1, p1, q1, rfl, rfl, rfl, h1, r1⟩ := trodAll_cons r0
  obtain ⟨rfl, rfl, rfl⟩ := trodAll_nil r1
  obtain rfl : args = #[v0, v1] := by cases args; simp_all
  obtain ⟨rfl, rfl⟩ := trodVars_none hV
  obtain ⟨x0, rfl, rfl, rfl, w0⟩ := open_int Try.underlying3 (hval 0 3 v0 rfl rfl) h0
  obtain ⟨a1, len1, cap1, rfl⟩ := okWide_slice Try.underlying48 (hval 1 48 v1 rfl rfl)
  have k1 := h1
  have lt1 : ∀ x ∈ p1, x.block < W.heap.size := by obtain ⟨m, hm⟩ := k1; exact DataW.trod_lt m _ _ _ hm
  obtain ⟨l1, n1, nc1, cm1, nl1, rd1, wf1, hl1⟩ : ∃ l : List Int, l.length = len1 ∧ len1 ≤ cap1 ∧ cap1 ≤ maxLen ∧ (a1 = none → len1 = 0 ∧ cap1 = 0) ∧ Rd W a1 (ivs .i64 l) ∧ (∀ n ∈ l, (Lit.int .i64 n).wf = true) ∧ (len1 = 0 ∨ ∃ es sp, d1 = .slice es sp ∧ es.length = len1) := by
    obtain ⟨fuel, hf⟩ := h1
    exact open_int_slice Try.underlying48 Try.underlying3 (by kernel_rfl) hf
  have hb1 : len1 * 8 ≤ 140737488351232 := reach_slice hsz (j := 1) rfl rfl Try.underlying48 (by kernel_rfl) hl1
  clear hA0 hval0 hsz0
  refine (arenaOnce_walk x0 a1 len1 cap1 l1 W (bounds_i64 w0) n1 nc1 cm1 hb1 nl1 rd1 wf1).mono fun e W' ⟨he, bel⟩ => ?_
  subst he
  exact ⟨_, rfl, _, _, _, [], _, [], hW', trodAll_mk1 (shut_bool Try.underlying4 _), (trodAll_cons_mk (shut_int Try.underlying3 w0) (trodAll_cons_mk (Below.trod laidOut (by kernel_rfl) (of_decide_eq_true (by kernel_rfl)) k1 bel lt1) trodAll_mk0)), rfl, bel.frame _, fun h => by cases h⟩

/-- The statement. -/
theorem proved : Rows.ArenaOnceSaid :=
  OpenClaim.holds_of_wide 4 Try.f4 rfl rfl rfl rfl rfl rfl rfl ⟨rfl, rfl, rfl, rfl, rfl⟩ rfl rfl rfl rfl rfl (by kernel_rfl) Try.func4 (by kernel_rfl)
    (of_decide_eq_true (by kernel_rfl)) (by unfold Func.isWrapper; rw [if_neg (of_decide_eq_false (by kernel_rfl))]; exact ⟨rfl, rfl⟩)
    (fun os started H enc _ => lifted os started H enc)
#print axioms proved
end arenaOnce
end Go.Proofs.Ytfmojphbjhedgaa
