/- Contracts: Basic and Pure, their one answer; a matrix copied; ConesColumns. -/
import Derived.Test.YtipfjfmdjmaflaaLZ
namespace Go.Proofs.Ytipfjfmdjmaflaa
open Go.Abs AVal
set_option linter.unusedSimpArgs false
attribute [local go_sem] W_skip W_keep KQ_canon canon Fr.norm W_seq W_block W_scope W_exit W_ret W_ops W_draw KQ_nil KQ_norm_seq KQ_exit_seq KQ_ret_seq KQ_norm_block KQ_ret_block KQ_exit_block KQ_exit_loop KQ_ret_loop O_nil O_cons S_call S_mv SE_mv SD_mv S_pick SE_pick SD_pick S_bin SE_bin SD_bin S_eqb SE_eqb SD_eqb S_eqv SE_eqv SD_eqv S_eqnil SE_eqnil SD_eqnil S_un SE_un SD_un S_conv SE_conv SD_conv S_mkfn SE_mkfn SD_mkfn S_load SE_load SD_load S_nilck SE_nilck SD_nilck S_slS SE_slS SD_slS S_slP SE_slP SD_slP S_fldA SE_fldA SD_fldA S_fld SE_fld SD_fld S_ixS SE_ixS SD_ixS S_ixP SE_ixP SD_ixP S_ixV SE_ixV SD_ixV S_ixStr SE_ixStr SD_ixStr S_ext SE_ext SD_ext S_len SE_len SD_len S_lenStr SE_lenStr SD_lenStr S_lenc SE_lenc SD_lenc S_mn SE_mn SD_mn S_mx SE_mx SD_mx S_build SE_build SD_build S_alloc SD_alloc S_box SD_box S_bslice SD_bslice S_mksl SD_mksl S_store SD_store S_append SD_append S_copy SD_copy S_clr SD_clr S_mlen SE_mlen SD_mlen S_mget SE_mget SD_mget S_mval SE_mval SD_mval S_mentry SE_mentry SD_mentry S_mkmap SD_mkmap S_mset SD_mset S_mrange SD_mrange S_mnext mlenA mgetA mvalA mentryA msetA mrangeA cells_mp isCell_mp cellsOk_mp aq_some aa_some al_some alA_some aqd_some aad_some ald_some ape_some D_done D_both D_early D_step SE_call SD_call IOpd.ev Fr.get Fr.put Fr.putd entryFr pickA binA binI isSh shI eqbA eqvA ints ints_mI Option.map_some eqnilA unA convA loadA nilckA intA slSA slPA fldAA fldVA ixSA ixPA ixVA ixStrA extA lenA lenStrA mnA mxA AVal.fits fillA fillOk buildA opa srcA appA stoA copA clrA rdFree zeros List.length_nil List.length_cons List.length_map List.map_cons List.map_nil Option.map_some Option.map_none if_true if_false ite_true ite_false true_and and_true and_self implies_true forall_const true_implies Bool.false_eq_true Bool.not_true Bool.not_false decide_eq_true_eq decide_eq_false_iff_not eq_self List.getElem?_cons_zero List.getElem?_cons_succ List.getElem?_nil List.set_cons_zero List.set_cons_succ List.nil_append List.cons_append List.append_nil List.replicate_zero List.replicate_succ Nat.zero_add false_implies rng_lt rng_end rng_get cells_I cells_B cells_sl cut_one Int.toNat_natCast Int.natCast_nonneg List.headD_cons Int.lt_irrefl not_false_eq_true decide_false decide_true mI_length mI_cells mI_sz mI_isCell mI_mid mI_append mI_take mI_drop cells_val cells_own cells_agg isCell_I isCell_B isCell_nil isCell_sl isCell_own isCell_ptr isCell_fn isCell_rp isCell_yld cellsOk_I cellsOk_B cellsOk_nil cellsOk_sl cellsOk_own cellsOk_ptr cellsOk_fn cellsOk_rp cellsOk_yld cellsOk_agg cells_nil cells_ptr cells_fn cells_rp List.all_cons List.all_nil Bool.and_true Nat.mul_one Nat.zero_mul Nat.one_mul List.take_zero List.take_nil List.drop_nil List.drop_zero List.not_mem_nil Nat.le_refl Nat.zero_le mS_length mS_cells mS_sz mS_isCell mS_mid mS_append mS_take mS_drop cells_sI isCell_sI cellsOk_sI sI_eq succ_le_self' List.take_succ_cons List.drop_succ_cons List.take_length beq_self_eq_true List.mem_cons or_false forall_eq mI_put mI_rep O_guard' D_earlyG' D_stepG' W_cond' G_tt G_tf G_ft G_ff GE_tt GE_tf GE_ft GE_ff GS_tt GS_tf GS_ft GS_ff G_u GE_u GS_u IC_t IC_f xft xff xtt xtf z00 z20 z22 z02 zz tn0

/-- What Basic answers. -/
def basA (a : List (List Int)) : AVal := if Sp.mat a then .tup [.sl false false (mS (Sp.basL a)), I 0] else .tup [.sl false false (mS []), I 2]
theorem s39d (nn t : Bool) (a : List (List Int)) (ha : ∀ l ∈ a, l.length < 9223372036854775808) (hl : a.length < 9223372036854775808) : Abs.Spec Try.prog 39 [.sl nn t (mS a)] [] fun v H' => H' = [] ∧ v = basA a :=
  (s39 nn t a ha hl).mono fun v H' ⟨h1, h2⟩ => ⟨h1, by
    unfold basA
    rcases h2 with ⟨hm, hv⟩ | ⟨hm, bs, hB, hv⟩
    · rw [if_neg (by rw [hm]; decide), hv]
    · rw [if_pos hm, hv, ← Sp.ans_uniq hm hB]; rfl⟩
def purA (a : List (List Int)) : AVal := if Sp.mat a then .tup [.sl false false (mS (Sp.purL a)), I 0] else .tup [.sl false false (mS []), I 2]
theorem s49d (nn t : Bool) (a : List (List Int)) (ha : ∀ l ∈ a, l.length < 9223372036854775808) (hl : a.length < 9223372036854775808) : Abs.Spec Try.prog 49 [.sl nn t (mS a)] [] fun v H' => H' = [] ∧ v = purA a :=
  (s49 nn t a ha hl).mono fun v H' ⟨h1, h2⟩ => ⟨h1, by
    unfold purA
    rcases h2 with ⟨hm, hv⟩ | ⟨hm, bs, hB, hv⟩
    · rw [if_neg (by rw [hm]; decide), hv]
    · rw [if_pos hm, hv, Sp.pur_uniq hm hB]⟩
theorem basA_bnd (a : List (List Int)) : (basA a).bnd 0 = true := by unfold basA; split <;> simp [AVal.bnd, bndL, mS_bnd]
theorem purA_bnd (a : List (List Int)) : (purA a).bnd 0 = true := by unfold purA; split <;> simp [AVal.bnd, bndL, mS_bnd]
/-- A copy that may be written. -/
theorem s19o (nn t : Bool) (xs : List Int) (h0 : xs ≠ []) (h4 : xs.length ≤ 6) : Abs.Spec Try.prog 19 [.sl nn t (mI xs)] [] fun v H' => v = .own 0 0 xs.length xs.length 1 ∧ H' = [.cells (mI xs)] := by
  refine Abs.Spec.walk mixed fn19 nn19 t19 q19 nt19 (by simp) ?_
  simp only [w19, go_sem, Nat.reduceEqDiff, Nat.reduceAdd, Nat.reduceLT, Nat.reduceLeDiff, reduceIte, reduceCtorEq]
  have e : List.take (if (6 : Int) < xs.length then (6 : Int) else xs.length).toNat xs = xs := by
    rw [if_neg (by omega), Int.toNat_natCast, List.take_length]
  rw [e]
  refine ⟨⟨Int.le_refl _, ?_, ?_⟩, ?_⟩
  · split <;> omega
  · split <;> omega
  · have hs : Abs.Spec Try.prog 38 [.sl nn false (mI xs)] [] fun v H' => v = .own 0 0 xs.length xs.length 1 ∧ H' = [.cells (mI xs)] := by
      cases nn with
      | true => exact s38o false xs h0 (by omega)
      | false => exact s38o' false xs h0 (by omega)
    refine CallK.by (CallV.of_spec hs) fun v H' ⟨h1, h2⟩ => ?_
    subst h1 h2
    simp only [go_sem, Nat.reduceEqDiff, Nat.reduceAdd, Nat.reduceLT, Nat.reduceLeDiff, reduceIte, reduceCtorEq]
    exact leafO _ _ [some 0] (Wk.one rfl rfl mI_bnd (by simp [fle, vle, Fr.get])) ⟨rfl, rfl⟩
set_option maxRecDepth 20000 in
theorem s18o1 (nn t : Bool) (r0 : List Int) (n : Nat) (n1 : 1 ≤ n) (n4 : n ≤ 4) (h0 : r0.length = n) : Abs.Spec Try.prog 18 [.sl nn t (mS [r0])] [] fun v H' => v = .own 0 0 1 1 1 ∧ H' = [.cells [.own 1 0 n n 1], .cells (mI r0)] := by
  refine Abs.Spec.walk mixed fn18 nn18 t18 q18 nt18 (by simp) ?_
  simp only [w18, go_sem, Nat.reduceEqDiff, Nat.reduceAdd, Nat.reduceLT, Nat.reduceLeDiff, reduceIte, reduceCtorEq]
  refine W_loop (fun q : Fin 2 => match q with
    | 0 => ([(3, own 0 0 0 0 1), (6, sl nn t (mS [r0])), (7, I 1), (8, I 0)], [.cells []])
    | 1 => ([(3, own 0 0 1 1 1), (6, sl nn t (mS [r0])), (7, I 1), (8, I 1)], [.cells [.own 1 0 n n 1], .cells (mI r0)])
    ) (fun q => 1 - q.val) 0 [none] (Wk.mk0 rfl (by simp [imgs, Blk.alive]) (by simp [hle, csle, bndL]) (by simp [fle, vle, Fr.get, mS_bnd])) ?_
  intro q
  have hq : q = 0 ∨ q = 1 := by omega
  rcases hq with rfl | rfl
  · have t0 : decide ((0 : Int) < 1) = true := rfl
    have t1 : decide ((0 : Int) < 250) = true := rfl
    have g0 : (mS [r0]).getD 0 any = .sl false false (mI r0) := rfl
    have w0 : IntKind.i64.wrap (0 + 1) = 1 := by decide +kernel
    have tn1 : Int.toNat 1 = 1 := rfl
    simp only [w18L0, t0, t1, tn1, g0, w0, go_sem, Nat.reduceEqDiff, Nat.reduceAdd, Nat.reduceLT, Nat.reduceLeDiff, reduceIte, reduceCtorEq]
    refine ⟨⟨by omega, by decide⟩, ?_⟩
    refine CallK.by (CallV.of_spec (first := []) (cap := []) (Spec.made (s19o false false r0 (fun e => by rw [e] at h0; simp at h0; omega) (by omega)) (by simp [bndL, AVal.bnd, mI_bnd]) mI_bnd _)) fun v H' ⟨e1, e2⟩ => ?_
    subst e1 e2
    rw [h0]
    simp only [w0, go_sem, Nat.reduceEqDiff, Nat.reduceAdd, Nat.reduceLT, Nat.reduceLeDiff, reduceIte, reduceCtorEq]
    refine ⟨by decide, ?_⟩
    exact round1 rfl ⟨1, by decide⟩ [some 3, some 1] (by decide) (Wk.mk0 rfl (by simp [imgs, Blk.alive]) (by simp [hle, csle, vle, vle.vleL, imgs, Blk.alive, mI_bnd]) (by simp [fle, vle, Fr.get, mS_bnd]))
  · have t0 : decide ((1 : Int) < 1) = false := rfl
    simp only [w18L0, w18T1, t0, go_sem, Nat.reduceEqDiff, Nat.reduceAdd, Nat.reduceLT, Nat.reduceLeDiff, reduceIte, reduceCtorEq]
    exact leafO _ _ [some 0, some 1] (Wk.mk0 rfl (by simp [imgs, Blk.alive]) (by simp [hle, csle, vle, vle.vleL, imgs, Blk.alive, mI_bnd]) (by simp [fle, vle, Fr.get])) ⟨rfl, rfl⟩
set_option maxRecDepth 20000 in
theorem s18o2 (nn t : Bool) (r0 r1 : List Int) (n : Nat) (n1 : 1 ≤ n) (n4 : n ≤ 4) (h0 : r0.length = n) (h1 : r1.length = n) : Abs.Spec Try.prog 18 [.sl nn t (mS [r0, r1])] [] fun v H' => v = .own 0 0 2 2 1 ∧ H' = [.cells [.own 1 0 n n 1, .own 2 0 n n 1], .cells (mI r0), .cells (mI r1)] := by
  refine Abs.Spec.walk mixed fn18 nn18 t18 q18 nt18 (by simp) ?_
  simp only [w18, go_sem, Nat.reduceEqDiff, Nat.reduceAdd, Nat.reduceLT, Nat.reduceLeDiff, reduceIte, reduceCtorEq]
  refine W_loop (fun q : Fin 3 => match q with
    | 0 => ([(3, own 0 0 0 0 1), (6, sl nn t (mS [r0, r1])), (7, I 2), (8, I 0)], [.cells []])
    | 1 => ([(3, own 0 0 1 1 1), (6, sl nn t (mS [r0, r1])), (7, I 2), (8, I 1)], [.cells [.own 1 0 n n 1], .cells (mI r0)])
    | 2 => ([(3, own 0 0 2 2 1), (6, sl nn t (mS [r0, r1])), (7, I 2), (8, I 2)], [.cells [.own 1 0 n n 1, .own 2 0 n n 1], .cells (mI r0), .cells (mI r1)])
    ) (fun q => 2 - q.val) 0 [none] (Wk.mk0 rfl (by simp [imgs, Blk.alive]) (by simp [hle, csle, bndL]) (by simp [fle, vle, Fr.get, mS_bnd])) ?_
  intro q
  have hq : q = 0 ∨ q = 1 ∨ q = 2 := by omega
  rcases hq with rfl | rfl | rfl
  · have t0 : decide ((0 : Int) < 2) = true := rfl
    have t1 : decide ((0 : Int) < 250) = true := rfl
    have g0 : (mS [r0, r1]).getD 0 any = .sl false false (mI r0) := rfl
    have w0 : IntKind.i64.wrap (0 + 1) = 1 := by decide +kernel
    have tn1 : Int.toNat 1 = 1 := rfl
    simp only [w18L0, t0, t1, tn1, g0, w0, go_sem, Nat.reduceEqDiff, Nat.reduceAdd, Nat.reduceLT, Nat.reduceLeDiff, reduceIte, reduceCtorEq]
    refine ⟨⟨by omega, by decide⟩, ?_⟩
    refine CallK.by (CallV.of_spec (first := []) (cap := []) (Spec.made (s19o false false r0 (fun e => by rw [e] at h0; simp at h0; omega) (by omega)) (by simp [bndL, AVal.bnd, mI_bnd]) mI_bnd _)) fun v H' ⟨e1, e2⟩ => ?_
    subst e1 e2
    rw [h0]
    simp only [w0, go_sem, Nat.reduceEqDiff, Nat.reduceAdd, Nat.reduceLT, Nat.reduceLeDiff, reduceIte, reduceCtorEq]
    refine ⟨by decide, ?_⟩
    exact round1 rfl ⟨1, by decide⟩ [some 3, some 1] (by decide) (Wk.mk0 rfl (by simp [imgs, Blk.alive]) (by simp [hle, csle, vle, vle.vleL, imgs, Blk.alive, mI_bnd]) (by simp [fle, vle, Fr.get, mS_bnd]))
  · have t0 : decide ((1 : Int) < 2) = true := rfl
    have t1 : decide ((1 : Int) < 250) = true := rfl
    have g0 : (mS [r0, r1]).getD 1 any = .sl false false (mI r1) := rfl
    have w0 : IntKind.i64.wrap (1 + 1) = 2 := by decide +kernel
    have tn1 : Int.toNat 1 = 1 := rfl
    simp only [w18L0, t0, t1, tn1, g0, w0, go_sem, Nat.reduceEqDiff, Nat.reduceAdd, Nat.reduceLT, Nat.reduceLeDiff, reduceIte, reduceCtorEq]
    refine ⟨⟨by omega, by decide⟩, ?_⟩
    refine CallK.by (CallV.of_spec (first := []) (cap := []) (Spec.made (s19o false false r1 (fun e => by rw [e] at h1; simp at h1; omega) (by omega)) (by simp [bndL, AVal.bnd, mI_bnd]) mI_bnd _)) fun v H' ⟨e1, e2⟩ => ?_
    subst e1 e2
    rw [h1]
    simp only [w0, go_sem, Nat.reduceEqDiff, Nat.reduceAdd, Nat.reduceLT, Nat.reduceLeDiff, reduceIte, reduceCtorEq]
    refine ⟨by decide, ?_⟩
    exact round1 rfl ⟨2, by decide⟩ [some 4, some 1, some 2] (by decide) (Wk.mk0 rfl (by simp [imgs, Blk.alive]) (by simp [hle, csle, vle, vle.vleL, imgs, Blk.alive, mI_bnd]) (by simp [fle, vle, Fr.get, mS_bnd]))
  · have t0 : decide ((2 : Int) < 2) = false := rfl
    simp only [w18L0, w18T1, t0, go_sem, Nat.reduceEqDiff, Nat.reduceAdd, Nat.reduceLT, Nat.reduceLeDiff, reduceIte, reduceCtorEq]
    exact leafO _ _ [some 0, some 1, some 2] (Wk.mk0 rfl (by simp [imgs, Blk.alive]) (by simp [hle, csle, vle, vle.vleL, imgs, Blk.alive, mI_bnd]) (by simp [fle, vle, Fr.get])) ⟨rfl, rfl⟩
end Go.Proofs.Ytipfjfmdjmaflaa
