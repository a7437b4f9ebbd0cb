/- Contracts: CheckSplit. -/
import Derived.Test.YtipfjfmdjmaflaaMJ
namespace Go.Proofs.Ytipfjfmdjmaflaa
open Go.Abs AVal
set_option linter.unusedSimpArgs false
attribute [local go_sem] W_skip W_keep KQ_canon canon Fr.norm W_seq W_block W_scope W_exit W_ret W_ops W_draw KQ_nil KQ_norm_seq KQ_exit_seq KQ_ret_seq KQ_norm_block KQ_ret_block KQ_exit_block KQ_exit_loop KQ_ret_loop O_nil O_cons S_call S_mv SE_mv SD_mv S_pick SE_pick SD_pick S_bin SE_bin SD_bin S_eqb SE_eqb SD_eqb S_eqv SE_eqv SD_eqv S_eqnil SE_eqnil SD_eqnil S_un SE_un SD_un S_conv SE_conv SD_conv S_mkfn SE_mkfn SD_mkfn S_load SE_load SD_load S_nilck SE_nilck SD_nilck S_slS SE_slS SD_slS S_slP SE_slP SD_slP S_fldA SE_fldA SD_fldA S_fld SE_fld SD_fld S_ixS SE_ixS SD_ixS S_ixP SE_ixP SD_ixP S_ixV SE_ixV SD_ixV S_ixStr SE_ixStr SD_ixStr S_ext SE_ext SD_ext S_len SE_len SD_len S_lenStr SE_lenStr SD_lenStr S_lenc SE_lenc SD_lenc S_mn SE_mn SD_mn S_mx SE_mx SD_mx S_build SE_build SD_build S_alloc SD_alloc S_box SD_box S_bslice SD_bslice S_mksl SD_mksl S_store SD_store S_append SD_append S_copy SD_copy S_clr SD_clr S_mlen SE_mlen SD_mlen S_mget SE_mget SD_mget S_mval SE_mval SD_mval S_mentry SE_mentry SD_mentry S_mkmap SD_mkmap S_mset SD_mset S_mrange SD_mrange S_mnext mlenA mgetA mvalA mentryA msetA mrangeA cells_mp isCell_mp cellsOk_mp aq_some aa_some al_some alA_some aqd_some aad_some ald_some ape_some D_done D_both D_early D_step SE_call SD_call IOpd.ev Fr.get Fr.put Fr.putd entryFr pickA binA binI isSh shI eqbA eqvA ints ints_mI Option.map_some eqnilA unA convA loadA nilckA intA slSA slPA fldAA fldVA ixSA ixPA ixVA ixStrA extA lenA lenStrA mnA mxA AVal.fits fillA fillOk buildA opa srcA appA stoA copA clrA rdFree zeros List.length_nil List.length_cons List.length_map List.map_cons List.map_nil Option.map_some Option.map_none if_true if_false ite_true ite_false true_and and_true and_self implies_true forall_const true_implies Bool.false_eq_true Bool.not_true Bool.not_false decide_eq_true_eq decide_eq_false_iff_not eq_self List.getElem?_cons_zero List.getElem?_cons_succ List.getElem?_nil List.set_cons_zero List.set_cons_succ List.nil_append List.cons_append List.append_nil List.replicate_zero List.replicate_succ Nat.zero_add false_implies rng_lt rng_end rng_get cells_I cells_B cells_sl cut_one Int.toNat_natCast Int.natCast_nonneg List.headD_cons Int.lt_irrefl not_false_eq_true decide_false decide_true mI_length mI_cells mI_sz mI_isCell mI_mid mI_append mI_take mI_drop cells_val cells_own cells_agg isCell_I isCell_B isCell_nil isCell_sl isCell_own isCell_ptr isCell_fn isCell_rp isCell_yld cellsOk_I cellsOk_B cellsOk_nil cellsOk_sl cellsOk_own cellsOk_ptr cellsOk_fn cellsOk_rp cellsOk_yld cellsOk_agg cells_nil cells_ptr cells_fn cells_rp List.all_cons List.all_nil Bool.and_true Nat.mul_one Nat.zero_mul Nat.one_mul List.take_zero List.take_nil List.drop_nil List.drop_zero List.not_mem_nil Nat.le_refl Nat.zero_le mS_length mS_cells mS_sz mS_isCell mS_mid mS_append mS_take mS_drop cells_sI isCell_sI cellsOk_sI sI_eq succ_le_self' List.take_succ_cons List.drop_succ_cons List.take_length beq_self_eq_true List.mem_cons or_false forall_eq mI_put mI_rep O_guard' D_earlyG' D_stepG' W_cond' G_tt G_tf G_ft G_ff GE_tt GE_tf GE_ft GE_ff GS_tt GS_tf GS_ft GS_ff G_u GE_u GS_u IC_t IC_f xft xff xtt xtf z00 z20 z22 z02 zz tn0
theorem s107 (nn t : Bool) (xs : List (List Int)) (h4 : ∀ x ∈ xs, x.length = 4) (y : List Int) (hy : y.length = 4) (hl : xs.length < 9223372036854775808) :
    Abs.Spec Try.prog 107 [.sl nn t (mV xs), vec y] [] fun v H' => H' = [] ∧ v = I (Sp.idx (fun z => y == z) xs) := by
  refine Abs.Spec.walk mixed fn107 nn107 t107 q107 nt107 (by simp) ?_
  have hyl : (mI y).length = 4 := by rw [mI_length, hy]
  have hyc : cut true 4 (mI y) = vec y := cut_vec hy
  simp only [w107, mV_length, vec_eq, hyl, go_sem, Nat.reduceEqDiff, Nat.reduceAdd, Nat.reduceLT, Nat.reduceLeDiff, reduceIte, reduceCtorEq]
  refine ⟨allI_cell y, ?_⟩
  refine W_loop (fun q : { q : List (List Int) × List (List Int) // q.1 ++ q.2 = xs ∧ ∀ x ∈ q.1, (y == x) = false } => ([(0, sl nn t (mV xs)), (3, ptr 0 0), (7, I xs.length), (8, I q.1.1.length)], [.cells (mI y)])) (fun q => q.1.2.length) ⟨([], xs), rfl, by simp⟩ [some 0] (Wk.mk0 rfl (by simp [imgs, Blk.alive]) (by simp [hle, csle, mI_bnd]) (by simp [fle, vle, Fr.get, mV_bnd])) ?_
  rintro ⟨⟨pre, suf⟩, hp, hinv⟩
  dsimp only at hp hinv
  subst hp
  cases suf with
  | nil =>
    simp only [w107L0, w107T1, go_sem, Nat.reduceEqDiff, Nat.reduceAdd, Nat.reduceLT, Nat.reduceLeDiff, reduceIte, reduceCtorEq]
    exact leaf (I _) rfl ⟨rfl, by rw [Sp.idx_none hinv]⟩
  | cons x suf =>
    have hx4 := h4 x (by simp)
    have hxl : (mI x).length = 4 := by rw [mI_length, hx4]
    have hxc : cut true 4 (mI x) = vec x := cut_vec hx4
    have fx : ∀ b, (false ^^ b) = b := Bool.false_xor
    simp only [w107L0, mV_mid, mV_length, hyl, hyc, hxl, hxc, vec_eq, fx, go_sem, Nat.reduceEqDiff, Nat.reduceAdd, Nat.reduceLT, Nat.reduceLeDiff, reduceIte, reduceCtorEq]
    refine ⟨⟨hy, hx4⟩, ?_⟩
    refine IC.split (fun h => ?_) fun h => ?_
    · simp only [go_sem, Nat.reduceEqDiff, Nat.reduceAdd, Nat.reduceLT, Nat.reduceLeDiff, reduceIte, reduceCtorEq]
      exact leaf (I _) rfl ⟨rfl, by rw [Sp.idx_mid _ pre _ hinv]; simp [Sp.idx, h]⟩
    · simp only [go_sem, Nat.reduceEqDiff, Nat.reduceAdd, Nat.reduceLT, Nat.reduceLeDiff, reduceIte, reduceCtorEq]
      refine round1 rfl ⟨(pre ++ [x], suf), by simp, fun y hy => by rcases List.mem_append.1 hy with hy | hy; exact hinv y hy; simp at hy; subst hy; exact h⟩ [some 0] (by simp) (Wk.mk0 rfl (by simp [imgs, Blk.alive]) (by simp [hle, csle, mI_bnd]) (by simp [fle, vle, Fr.get, rng_idx' hl, mV_bnd]))
theorem s73 (nn t : Bool) (xs : List (List Int)) (h4 : ∀ x ∈ xs, x.length = 4) (y : List Int) (hy : y.length = 4) (hl : xs.length < 9223372036854775808) :
    Abs.Spec Try.prog 73 [.sl nn t (mV xs), vec y] [] fun v H' => H' = [] ∧ v = B (xs.any fun z => y == z) := by
  refine Abs.Spec.walk mixed fn73 nn73 t73 q73 nt73 (by simp) ?_
  have hyl : (mI y).length = 4 := by rw [mI_length, hy]
  have hyc : cut true 4 (mI y) = vec y := cut_vec hy
  simp only [w73, vec_eq, hyl, hyc, go_sem, Nat.reduceEqDiff, Nat.reduceAdd, Nat.reduceLT, Nat.reduceLeDiff, reduceIte, reduceCtorEq]
  refine ⟨allI_cell y, ?_⟩
  refine CallK.pure (liftV (s107 nn t xs h4 y hy hl) (by simp [bndL, vec, AVal.bnd, mI_bnd, mV_bnd]) rfl _) ?_
  simp only [go_sem, Nat.reduceEqDiff, Nat.reduceAdd, Nat.reduceLT, Nat.reduceLeDiff, reduceIte, reduceCtorEq]
  exact leaf (B _) rfl ⟨rfl, by rw [← idx_any]⟩
end Go.Proofs.Ytipfjfmdjmaflaa
