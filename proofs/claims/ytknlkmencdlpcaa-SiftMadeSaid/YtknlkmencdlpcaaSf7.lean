/-
The example in law 10.
What of Sift is plain: which bytes are what.
-/
import Derived.Test.YtknlkmencdlpcaaSf6
import Derived.Test.YtknlkmencdlpcaaRows
namespace Go.Proofs.Ytknlkmencdlpcaa
set_option linter.unusedVariables false
set_option linter.unusedSimpArgs false
open Go Go.RowKit

def pk10 : Pkt := ⟨false, 100, 0, 0, 0, [], false, 0, [], [128, 90, 0, 0], 0⟩
def out10 : List UInt8 := [128, 100, 0, 0, 0, 0, 0, 0, 0, 0, 0, 0, 128, 90, 0, 0]
def itK : Itm := ⟨206, 0, 0, 0, 0, 0, [], [], 9, []⟩
def xK : Sl := ⟨itK, none, 0, 0, none, 0, 0, none, 0, 0⟩
def outK : List UInt8 := [129, 206, 0, 2, 0, 0, 0, 0, 0, 0, 0, 9]
theorem pk10_ok : pk10.Ok := ⟨by decide, by decide, by decide, by decide, (fun x hx => by cases hx), by decide, by decide⟩
theorem itK_ok : itK.Ok := ⟨by decide, by decide, by decide, by decide, by decide, by decide, (by intro b hb; cases hb), (by intro b hb; cases hb), by decide, (by intro b hb; cases hb)⟩
theorem getP_out10 : getP out10 = pk10 ∧ lookE out10 = 0 := by
  have h1 : lookE out10 = 0 := by decide +kernel
  refine ⟨?_, h1⟩
  have h2 : byteN out10 1 = 100 := by decide +kernel
  have h3 : getN out10 2 2 = 0 := by decide +kernel
  have h4 : getN out10 4 4 = 0 := by decide +kernel
  have h5 : getN out10 8 4 = 0 := by decide +kernel
  have h6 : nCs out10 = 0 := by decide +kernel
  have h7 : exB out10 = false := by decide +kernel
  have h8 : plG out10 = [128, 90, 0, 0] := by decide +kernel
  have h9 : lookT out10 = 16 := by decide +kernel
  unfold getP pfG exG
  rw [if_pos h1, h2, h3, h4, h5, h6, h7, h8, h9]
  rfl
theorem itK_puts : putsE [itK] = 0 ∧ putsL [itK] = outK ∧ getsE outK = 0 ∧ getsL outK = [itK] := by
  have h1 : putsE [itK] = 0 := by decide +kernel
  have h2 : putsL [itK] = outK := by decide +kernel
  have h3 := gets_puts h1 (by intro i hi; obtain rfl := List.mem_singleton.1 hi; exact itK_ok)
  rw [h2] at h3
  exact ⟨h1, h2, h3.1, h3.2⟩
theorem dput_10 (w : World) : Calls Try.prog 111 #[.agg #[.int .i64 0, .bool true, .bool false, .int .u16 0]] w fun e w' => ∃ A c', e = .returned (.slice A 4 c') ∧
      w'.ownsRow w.heap.size 5 1 (.slice A 4 c') 4 (bys [128, 90, 0, 0]) ∧ Below w.heap.size w w' := by
  have e : descL 0 true false 0 = [128, 90, 0, 0] := by decide +kernel
  rw [← e]
  exact dput_yes 0 true false 0 w (by omega) (by omega)
theorem s10_put (A : Option Addr) (c : Nat) (w : World) (base : Nat) (ho : w.ownsRow base 5 1 (.slice A 4 c) 4 (bys [128, 90, 0, 0])) :
    Calls Try.prog 73 #[.agg #[.bool false, .int .i64 100, .int .u16 0, .int .u32 0, .int .u32 0, .slice none 0 0, .bool false, .int .u16 0, .slice none 0 0, .slice A 4 c, .int .i64 0]] w fun e w' =>
      ∃ B c', e = .returned (.tuple #[.slice B 16 c', .int .i64 0]) ∧ w'.ownsRow w.heap.size 5 1 (.slice B 16 c') 16 (bys out10) ∧ Below w.heap.size w w' :=
  pput_row pk10 pk10_ok 0 (by decide +kernel) out10 (by decide +kernel) 16 rfl none 0 0 none 0 0 A 4 c w ⟨rowB_nil _ _ _, rowB_nil _ _ _, own_row8 ho⟩ (by omega) (by omega)
theorem s10_its (w : World) : Its (w.alloc (.cells #[.int .i64 206, .int .u32 0, .int .u64 0, .int .u32 0, .int .u32 0, .int .u32 0, .slice none 0 0, .slice none 0 0, .int .u32 9, .slice none 0 0] 54)) (some ⟨w.heap.size, 0, none⟩) 1 1 [xK] := by
  refine ⟨rfl, Nat.le_refl _, by unfold maxLen; omega, ?_, fun x hx => ?_⟩
  · have h := lit_sl w xK
    have e : rowI [xK] = slV xK := by simp [rowI]
    rw [e]
    exact h
  · obtain rfl := List.mem_singleton.1 hx
    exact ⟨rowB_nil _ _ _, rowB_nil _ _ _, rowB_nil _ _ _, itK_ok⟩
theorem s10_puts (w : World) : Calls Try.prog 28 #[.slice (some ⟨w.heap.size, 0, none⟩) 1 1] (w.alloc (.cells #[.int .i64 206, .int .u32 0, .int .u64 0, .int .u32 0, .int .u32 0, .int .u32 0, .slice none 0 0, .slice none 0 0, .int .u32 9, .slice none 0 0] 54)) fun e w' => ∃ B c', e = .returned (.tuple #[.slice B 12 c', .int .i64 0]) ∧ w'.ownsRow (w.alloc (.cells #[.int .i64 206, .int .u32 0, .int .u64 0, .int .u32 0, .int .u32 0, .int .u32 0, .slice none 0 0, .slice none 0 0, .int .u32 9, .slice none 0 0] 54)).heap.size 5 1 (.slice B 12 c') 12 (bys outK) ∧ Below (w.alloc (.cells #[.int .i64 206, .int .u32 0, .int .u64 0, .int .u32 0, .int .u32 0, .int .u32 0, .slice none 0 0, .slice none 0 0, .int .u32 9, .slice none 0 0] 54)).heap.size (w.alloc (.cells #[.int .i64 206, .int .u32 0, .int .u64 0, .int .u32 0, .int .u32 0, .int .u32 0, .slice none 0 0, .slice none 0 0, .int .u32 9, .slice none 0 0] 54)) w' := by
  have h := itK_puts
  exact rcput_v (some ⟨w.heap.size, 0, none⟩) 1 1 [xK] _ (s10_its w) (by omega) outK 0 12 (by rw [show itm [xK] = [itK] from rfl, h.1]; rfl) (by rw [show itm [xK] = [itK] from rfl, h.2.1]) (by decide)
theorem ld_zero : dE pk10.pl = 0 ∧ (dL pk10.pl : Int) = 0 ∧ dK pk10.pl = true ∧ dS pk10.pl = false ∧ (dF pk10.pl : Int) = 0 := by
  refine ⟨by decide +kernel, by decide +kernel, by decide +kernel, by decide +kernel, by decide +kernel⟩
theorem its_small {w : World} {base : Nat} {A : Option Addr} {n c : Nat} {ys : List Sl} (h : ItsO w base A n c ys) {is : List Itm} (hi : itm ys = is) (hs : ∀ i ∈ is, i.bl.length ≤ 1000000 ∧ i.go.length ≤ 1000000 ∧ i.pr.length ≤ 1000000) : ∀ x ∈ ys, SlB x := by
  intro x hx
  have hm : x.i ∈ is := by rw [← hi]; exact List.mem_map_of_mem hx
  obtain ⟨a1, a2, a3⟩ := hs _ hm
  have r := h.rows x hx
  have l1 := r.oa.1
  have l2 := r.og.1
  have l3 := r.op.1
  rw [rowK_length] at l1
  rw [u32s_length] at l2
  rw [rowP_length] at l3
  exact ⟨by omega, by omega, by omega⟩
theorem its_cell {w : World} {A : Option Addr} {c : Nat} {ys : List Sl} (h : Its w A 1 c ys) (hi : itm ys = [itK]) : ∃ ad, A = some ad ∧ w.cell? ⟨ad.block, ad.off + 8, none⟩ = some (.int .u32 9) := by
  have h0 : 0 < ys.length := by rw [h.len]; omega
  obtain ⟨ad, hA, _, _, _, _, _, _, _, _, e8, _⟩ := rd_sl h.rd h0
  refine ⟨ad, hA, ?_⟩
  have e : ys[0].i = itK := by
    have := congrArg (fun t => t[0]?) hi
    simp only [itm, List.getElem?_map, List.getElem?_eq_getElem h0, Option.map_some, List.getElem?_cons_zero, Option.some.injEq] at this
    exact this
  rw [e] at e8
  simpa [Addr.add, itK] using e8
set_option maxRecDepth 20000 in
theorem meth_m (v : Value) (w : World) : (method 335 125 v "Kind").run Try.prog w = .ok (181, v) w := by rfl
set_option maxRecDepth 20000 in
theorem meth_f (v : Value) (w : World) : (method 335 127 v "Kind").run Try.prog w = .ok (182, v) w := by rfl
set_option maxRecDepth 20000 in
set_option maxHeartbeats 4000000 in
theorem shown10_any (w : World) : Calls Try.prog 66 #[] w fun e w' => e = .returned (.bool true) ∧ Below w.heap.size w w' := by
  have hm := meth_m
  have hf := meth_f
  have hty : (pk10.ty == (100 : Int)) = true := by decide
  have HG := Lib.hid getP_out10
  have HK := Lib.hid itK_puts
  have HD := Lib.hid ld_zero
  have HF : Hid (fbB (byteN outK 1) = true) := by show _ = _; decide +kernel
  go_enter Try.func66, Try.ntmps66
  go_upto_region 9 with (first
    | (go_at_call 111; (with_reducible refine (dput_10 _).mono ?_); rintro e w1 ⟨A0, c0, rfl, ho1, hb1⟩)
    | (go_at_call 73; (with_reducible refine (s10_put A0 c0 _ _ ho1).mono ?_); rintro e w2 ⟨B2, c2, rfl, ho2, hb2⟩; have hB2 := below_next hb1 hb2)
    | (go_at_call 28; (with_reducible refine (s10_puts w2).mono ?_); rintro e w3 ⟨B3, c3, rfl, ho3, hb3⟩; have hB3 := below_next (below_al hB2 _) hb3; have ho2' := (ho2.kept (own_below (al_b w2 (.cells #[.int .i64 206, .int .u32 0, .int .u64 0, .int .u32 0, .int .u32 0, .int .u32 0, .slice none 0 0, .slice none 0 0, .int .u32 9, .slice none 0 0] 54))) (own_none _)).kept (own_below hb3) (own_none _))
    | (go_at_call 67; (with_reducible refine (of_md out10 pk10 0 true false 0 HG.out.2 HG.out.1 HD.out.1 HD.out.2.1 HD.out.2.2.1 HD.out.2.2.2.1 HD.out.2.2.2.2 B2 16 c2 _ (own_bts ho2')).mono ?_); rintro e w4 ⟨C1, cn1, cc1, E1, en1, ec1, L1, ln1, lc1, rfl, HP4, hb4⟩; have hB4 := below_next hB3 hb4; have ho4 := ho3.kept (own_below hb4) (own_none _))
    | (go_at_call 67; (with_reducible refine (of_fb outK [itK] 1 (by decide) (by decide) HF.out HK.out.2.2.1 HK.out.2.2.2 rfl B3 12 c3 _ (own_bts ho4)).mono ?_); rintro e w5 ⟨A5, c5, xs5, rfl, HI5, HO5, hb5⟩; have hB5 := below_next hB4 hb5; have HP5 := Lib.hid (HP4.out.below hb5))
    | (go_at_call 70; (with_reducible refine (flat_m pk10 C1 cn1 cc1 E1 en1 ec1 L1 ln1 lc1 0 true false 0 _ HP5.out (by have := HP5.out.hcn; simp [pk10] at this; omega) (by have := HP5.out.hen; simp [pk10] at this; omega) (by have := HP5.out.hln; simp [pk10] at this; omega)).mono ?_); rintro e w6 ⟨C2, cc2, E2, ec2, L2, lc2, rfl, HP6, hb6⟩; have hB6 := below_next hB5 hb6; have HO6 := Lib.hid (HO5.out.below hb6); have hp6 := al_keep (heap_alloc_new w6 (.cells #[.bool pk10.mr, .int .i64 pk10.ty, .int .u16 pk10.sq, .int .u32 pk10.tm, .int .u32 pk10.ss, .slice C2 cn1 cc2, .bool pk10.hx, .int .u16 pk10.pf, .slice E2 en1 ec2, .slice L2 ln1 lc2, .int .i64 pk10.pad] 39)) (.cells #[.int .i64 0, .bool true, .bool false, .int .u16 0] 109); have hd6 := heap_alloc_new (w6.alloc (.cells #[.bool pk10.mr, .int .i64 pk10.ty, .int .u16 pk10.sq, .int .u32 pk10.tm, .int .u32 pk10.ss, .slice C2 cn1 cc2, .bool pk10.hx, .int .u16 pk10.pf, .slice E2 en1 ec2, .slice L2 ln1 lc2, .int .i64 pk10.pad] 39)) (.cells #[.int .i64 0, .bool true, .bool false, .int .u16 0] 109); rw [al_size] at hd6)
    | (go_at_call 70; (with_reducible refine (flat_f A5 1 c5 xs5 _ ((HO6.out.below (al_b _ _)).below (al_b _ _)).its (own_rowG 120 HO5.out.own).nil (by omega) (its_small HO5.out HI5.out (by intro i hi; obtain rfl := List.mem_singleton.1 hi; simp [itK]))).mono ?_); rintro e w7 ⟨A7, c7, ys7, rfl, HY7, HE7, hb7⟩; have hB7 := below_next (below_al (below_al hB6 _) _) hb7; have hp7 := al_keep (al_keep (blk_below hp6 hb7) (.cells #[.bool false, .int .i64 0, .int .u16 0, .int .u32 0, .int .u32 0, .slice none 0 0, .bool false, .int .u16 0, .slice none 0 0, .slice none 0 0, .int .i64 0] 39)) (.cells #[.int .i64 0, .bool false, .bool false, .int .u16 0] 109); have hd7 := al_keep (al_keep (blk_below hd6 hb7) (.cells #[.bool false, .int .i64 0, .int .u16 0, .int .u32 0, .int .u32 0, .slice none 0 0, .bool false, .int .u16 0, .slice none 0 0, .slice none 0 0, .int .i64 0] 39)) (.cells #[.int .i64 0, .bool false, .bool false, .int .u16 0] 109); obtain ⟨ad, rfl, hcm⟩ := its_cell HY7.out (HE7.out.trans HI5.out); have hcm7 := below_cell (al_b _ (.cells #[.int .i64 0, .bool false, .bool false, .int .u16 0] 109)) (below_cell (al_b _ (.cells #[.bool false, .int .i64 0, .int .u16 0, .int .u32 0, .int .u32 0, .slice none 0 0, .bool false, .int .u16 0, .slice none 0 0, .slice none 0 0, .int .i64 0] 39)) hcm); have hB8 := below_al (below_al hB7 (.cells #[.bool false, .int .i64 0, .int .u16 0, .int .u32 0, .int .u32 0, .slice none 0 0, .bool false, .int .u16 0, .slice none 0 0, .slice none 0 0, .int .i64 0] 39)) (.cells #[.int .i64 0, .bool false, .bool false, .int .u16 0] 109)))
  generalize (w7.alloc (.cells #[.bool false, .int .i64 0, .int .u16 0, .int .u32 0, .int .u32 0, .slice none 0 0, .bool false, .int .u16 0, .slice none 0 0, .slice none 0 0, .int .i64 0] 39)).alloc (.cells #[.int .i64 0, .bool false, .bool false, .int .u16 0] 109) = w8 at *
  have hc7 := (own_cap HO5.out.own).1
  obtain ⟨p0, p1, p2, p3, p4, p5, p6, p7, p8, p9, p10⟩ := eleven_cells hp7
  obtain ⟨d0, d1, d2, d3⟩ := row4_cells hd7
  go_wp2_with (first
    | ((with_reducible refine (kind_m_in pk10 C1 cn1 cc1 E1 en1 ec1 L1 ln1 lc1 0 true false 0 _).mono ?_); rintro e w9 ⟨rfl, hb9⟩; have hB9 := below_next hB8 hb9; replace hp7 := blk_below hp7 hb9; replace hd7 := blk_below hd7 hb9; replace hcm7 := below_cell hb9 hcm7)
    | ((with_reducible refine (kind_f_in A5 1 c5 _).mono ?_); rintro e wA ⟨rfl, hbA⟩; have hBA := below_next hB9 hbA; replace hp7 := blk_below hp7 hbA; replace hd7 := blk_below hd7 hbA; replace hcm7 := below_cell hbA hcm7; obtain ⟨p0, p1, p2, p3, p4, p5, p6, p7, p8, p9, p10⟩ := eleven_cells hp7; obtain ⟨d0, d1, d2, d3⟩ := row4_cells hd7))
  go_ret
  exact ⟨rfl, hBA⟩
end Go.Proofs.Ytknlkmencdlpcaa

namespace Go.Proofs.Ytknlkmencdlpcaa
set_option linter.unusedVariables false
set_option linter.unusedSimpArgs false
open Go Go.RowKit

theorem its_n8 {l : List UInt8} (h : getsE l = 0) : (getsL l).length ≤ 8 := (puts_gets h).2.2.2.2.1
theorem evE_cases (l : List UInt8) : (∃ Z, evE l = Z ∧ Z ≠ 0) ∨ (l.length ≤ 512 ∧ 2 ≤ l.length ∧ fbB (byteN l 1) = true ∧ getsE l = 0) ∨ (lookE l = 0 ∧ dE (getP l).pl = 0) := by
  by_cases h0 : evE l = 0
  · unfold evE at h0
    by_cases h5 : 512 < l.length
    · rw [if_pos h5] at h0; omega
    · rw [if_neg h5] at h0
      by_cases h2 : l.length < 2
      · rw [if_pos h2] at h0; omega
      · rw [if_neg h2] at h0
        cases hf : fbB (byteN l 1)
        · rw [hf, if_neg (by decide)] at h0
          refine .inr (.inr ?_)
          unfold mE at h0
          by_cases he : lookE l = 0
          · rw [if_pos he, plG_q he rfl] at h0
            exact ⟨he, h0⟩
          · rw [if_neg he] at h0; omega
        · rw [hf, if_pos rfl] at h0
          exact .inr (.inl ⟨by omega, by omega, rfl, by omega⟩)
  · exact .inl ⟨_, rfl, h0⟩
theorem gE_kind {l : List UInt8} (h : gE l = 0) : 4 ≤ l.length ∧ (byteN l 1 = 200 ∨ byteN l 1 = 201 ∨ byteN l 1 = 203 ∨ byteN l 1 = 205 ∨ byteN l 1 = 206) := by
  unfold gE at h
  by_cases h4 : l.length < 4
  · rw [if_pos h4] at h; omega
  · rw [if_neg h4] at h
    by_cases hv : byteN l 0 / 32 ≠ 4
    · rw [if_pos hv] at h; omega
    · rw [if_neg hv] at h
      refine ⟨by omega, ?_⟩
      by_cases hk : knownB (byteN l 1) = true
      · unfold knownB at hk; simp at hk; omega
      · rw [if_neg hk] at h
        by_cases h3 : byteN l 1 = 203
        · omega
        · rw [if_neg h3] at h
          by_cases h5 : byteN l 1 = 205
          · omega
          · rw [if_neg h5] at h
            by_cases h6 : byteN l 1 = 206
            · omega
            · rw [if_neg h6] at h; omega
/-- Bytes with an error nowhere: the two readers. -/
theorem gets_fb {l : List UInt8} (h : getsE l = 0) : l.length ≤ 512 ∧ 2 ≤ l.length ∧ fbB (byteN l 1) = true := by
  obtain ⟨_, _, _, h1, _, h6, h7⟩ := puts_gets h
  have hE : (gets 8 l).1 = 0 := by
    unfold getsE at h
    split at h
    · omega
    · exact h
  obtain ⟨hg, _⟩ : gE l = 0 ∧ True := by
    refine ⟨?_, trivial⟩
    apply Classical.byContradiction
    intro hn
    have := acc_start l
    have h2 := acc_err (k := 0) (by omega) [] hn
    rw [this] at h2
    rw [h2] at hE
    exact hn hE
  have h4 : 4 ≤ l.length ∧ (byteN l 1 = 200 ∨ byteN l 1 = 201 ∨ byteN l 1 = 203 ∨ byteN l 1 = 205 ∨ byteN l 1 = 206) := gE_kind hg
  refine ⟨h7, by omega, ?_⟩
  unfold fbB
  simp
  omega
end Go.Proofs.Ytknlkmencdlpcaa
