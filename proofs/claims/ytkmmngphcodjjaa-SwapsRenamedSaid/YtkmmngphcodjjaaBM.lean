/- Contract: the function of the statement that nobody does better by a lie. -/
import Derived.Test.YtkmmngphcodjjaaBL
namespace Go.Proofs.Ytkmmngphcodjjaa
open Go.Abs AVal
set_option linter.unusedSimpArgs false
attribute [local go_sem] W_skip W_keep KQ_canon canon Fr.norm W_seq W_block W_exit W_ret W_ops W_draw KQ_nil KQ_norm_seq KQ_exit_seq KQ_ret_seq KQ_norm_block KQ_ret_block KQ_exit_block KQ_exit_loop KQ_ret_loop O_nil O_cons S_call S_mv SE_mv SD_mv S_pick SE_pick SD_pick S_bin SE_bin SD_bin S_eqb SE_eqb SD_eqb S_eqv SE_eqv SD_eqv S_eqnil SE_eqnil SD_eqnil S_un SE_un SD_un S_conv SE_conv SD_conv S_mkfn SE_mkfn SD_mkfn S_load SE_load SD_load S_nilck SE_nilck SD_nilck S_slS SE_slS SD_slS S_slP SE_slP SD_slP S_fldA SE_fldA SD_fldA S_fld SE_fld SD_fld S_ixS SE_ixS SD_ixS S_ixP SE_ixP SD_ixP S_ixV SE_ixV SD_ixV S_ixStr SE_ixStr SD_ixStr S_ext SE_ext SD_ext S_len SE_len SD_len S_lenStr SE_lenStr SD_lenStr S_lenc SE_lenc SD_lenc S_mn SE_mn SD_mn S_mx SE_mx SD_mx S_build SE_build SD_build S_alloc SD_alloc S_box SD_box S_bslice SD_bslice S_mksl SD_mksl S_store SD_store S_append SD_append S_copy SD_copy S_clr SD_clr aq_some aa_some al_some aqd_some aad_some ald_some ape_some D_done D_both D_early D_step SE_call SD_call IOpd.ev Fr.get Fr.put Fr.putd entryFr pickA binA binI isSh shI eqbA eqvA ints ints_mI Option.map_some eqnilA unA convA loadA nilckA intA slSA slPA fldAA fldVA ixSA ixPA ixVA ixStrA extA lenA lenStrA mnA mxA AVal.fits fillA fillOk buildA opa srcA appA stoA copA clrA rdFree zeros List.length_nil List.length_cons List.length_map List.map_cons List.map_nil Option.map_some Option.map_none if_true if_false ite_true ite_false true_and and_true and_self implies_true forall_const true_implies Bool.false_eq_true Bool.not_true Bool.not_false decide_eq_true_eq decide_eq_false_iff_not eq_self List.getElem?_cons_zero List.getElem?_cons_succ List.getElem?_nil List.set_cons_zero List.set_cons_succ List.nil_append List.cons_append List.append_nil List.replicate_zero List.replicate_succ Nat.zero_add false_implies rng_lt rng_end rng_get cells_I cells_B cells_sl cut_one Int.toNat_natCast Int.natCast_nonneg List.headD_cons Int.lt_irrefl not_false_eq_true decide_false decide_true mI_length mI_cells mI_sz mI_isCell mI_mid mI_append mI_take mI_drop cells_val cells_own cells_agg isCell_I isCell_B isCell_nil isCell_sl isCell_own isCell_ptr isCell_fn isCell_rp isCell_yld cellsOk_I cellsOk_B cellsOk_nil cellsOk_sl cellsOk_own cellsOk_ptr cellsOk_fn cellsOk_rp cellsOk_yld cellsOk_agg cells_nil cells_ptr cells_fn cells_rp List.all_cons List.all_nil Bool.and_true Nat.mul_one Nat.zero_mul Nat.one_mul List.take_zero List.take_nil List.drop_nil List.drop_zero List.not_mem_nil Nat.le_refl Nat.zero_le mS_length mS_cells mS_sz mS_isCell mS_mid mS_append mS_take mS_drop cells_sI isCell_sI cellsOk_sI sI_eq succ_le_self' List.take_succ_cons List.drop_succ_cons List.take_length beq_self_eq_true List.mem_cons or_false forall_eq mI_put mI_rep O_guard' D_earlyG' D_stepG' W_cond' G_tt G_tf G_ft G_ff GE_tt GE_tf GE_ft GE_ff GS_tt GS_tf GS_ft GS_ff G_u GE_u GS_u IC_t IC_f xft xff xtt xtf z00 z20 z22 z02 zz tn0

/-- The table is owned. -/
theorem s16o (nn t : Bool) (w : List (List Int)) (hw : ∀ l ∈ w, l.length < 9223372036854775808) (hl : w.length < 9223372036854775808) : Abs.Spec Try.prog 16 [.sl nn t (mS w)] [] fun v H' => v = .own 0 0 (Sp.table w).length (Sp.table w).length 1 ∧ H' = [.cells (mS (Sp.table w))] := by
  refine Abs.Spec.walk mixed fn16 nn16 t16 q16 nt16 (by simp) ?_
  simp only [w16, W_skip, W_keep, KQ_canon, canon, Fr.norm, W_seq, W_block, W_cond, W_exit, W_ret, W_ops, W_draw, KQ_nil, KQ_norm_seq, KQ_exit_seq, KQ_ret_seq, KQ_norm_block, KQ_ret_block, KQ_exit_block, KQ_exit_loop, KQ_ret_loop, O_nil, O_cons, O_guard', S_call, S_mv, SE_mv, SD_mv, S_pick, SE_pick, SD_pick, S_bin, SE_bin, SD_bin, S_eqb, SE_eqb, SD_eqb, S_eqv, SE_eqv, SD_eqv, S_eqnil, SE_eqnil, SD_eqnil, S_un, SE_un, SD_un, S_conv, SE_conv, SD_conv, S_mkfn, SE_mkfn, SD_mkfn, S_load, SE_load, SD_load, S_nilck, SE_nilck, SD_nilck, S_slS, SE_slS, SD_slS, S_slP, SE_slP, SD_slP, S_fldA, SE_fldA, SD_fldA, S_fld, SE_fld, SD_fld, S_ixS, SE_ixS, SD_ixS, S_ixP, SE_ixP, SD_ixP, S_ixV, SE_ixV, SD_ixV, S_ixStr, SE_ixStr, SD_ixStr, S_ext, SE_ext, SD_ext, S_len, SE_len, SD_len, S_lenStr, SE_lenStr, SD_lenStr, S_lenc, SE_lenc, SD_lenc, S_mn, SE_mn, SD_mn, S_mx, SE_mx, SD_mx, S_build, SE_build, SD_build, S_alloc, SD_alloc, S_box, SD_box, S_bslice, SD_bslice, S_mksl, SD_mksl, S_store, SD_store, S_append, SD_append, S_copy, SD_copy, S_clr, SD_clr, aq_some, aa_some, al_some, aqd_some, aad_some, ald_some, ape_some, D_done, D_both, D_early, D_earlyG', D_step, D_stepG', SE_call, SD_call, G_bool, GE_bool, GS_bool, icond_bool, IOpd.ev, Fr.get, Fr.put, Fr.putd, entryFr, pickA, binA, binI, isSh, shI, eqbA, eqvA, ints, ints_mI, Option.map_some, eqnilA, unA, convA, loadA, nilckA, intA, slSA, slPA, fldAA, fldVA, ixSA, ixPA, ixVA, ixStrA, extA, lenA, lenStrA, mnA, mxA, AVal.fits, fillA, fillOk, buildA, opa, srcA, appA, stoA, copA, clrA, rdFree, zeros, List.length_nil, List.length_cons, List.length_map, List.map_cons, List.map_nil, Option.map_some, Option.map_none, if_true, if_false, ite_true, ite_false, true_and, and_true, and_self, implies_true, forall_const, true_implies, Nat.reduceEqDiff, Nat.reduceAdd, Nat.reduceLT, Nat.reduceLeDiff, reduceIte, reduceCtorEq, Bool.false_eq_true, Bool.not_true, Bool.not_false, decide_eq_true_eq, decide_eq_false_iff_not, eq_self, List.getElem?_cons_zero, List.getElem?_cons_succ, List.getElem?_nil, List.set_cons_zero, List.set_cons_succ, List.nil_append, List.cons_append, List.append_nil, List.replicate_zero, List.replicate_succ, Nat.zero_add, false_implies, rng_lt, rng_end, rng_get, cells_I, cells_B, cells_sl, cut_one, Int.toNat_natCast, Int.natCast_nonneg, List.headD_cons, Int.lt_irrefl, not_false_eq_true, decide_false, decide_true, mI_length, mI_cells, mI_sz, mI_isCell, mI_mid, mI_append, mI_take, mI_drop, cells_val, cells_own, cells_agg, isCell_I, isCell_B, isCell_nil, isCell_sl, isCell_own, isCell_ptr, isCell_fn, isCell_rp, isCell_yld, cellsOk_I, cellsOk_B, cellsOk_nil, cellsOk_sl, cellsOk_own, cellsOk_ptr, cellsOk_fn, cellsOk_rp, cellsOk_yld, cellsOk_agg, cells_nil, cells_ptr, cells_fn, cells_rp, List.all_cons, List.all_nil, Bool.and_true, Nat.mul_one, Nat.zero_mul, Nat.one_mul, List.take_zero, List.take_nil, List.drop_nil, List.drop_zero, List.not_mem_nil, Nat.le_refl, Nat.zero_le, mS_length, mS_cells, mS_sz, mS_isCell, mS_mid, mS_append, mS_take, mS_drop, cells_sI, isCell_sI, cellsOk_sI, sI_eq, succ_le_self', List.take_succ_cons, List.drop_succ_cons, List.take_length, beq_self_eq_true, List.mem_cons, or_false, forall_eq, mI_put, mI_rep]
  refine W_loop (fun q : { q : List (List Int) × List (List Int) // q.1 ++ q.2 = w } => ([(3, own 0 0 (Sp.table q.1.1).length (Sp.table q.1.1).length 1), (6, sl nn t (mS w)), (7, I w.length), (8, I q.1.1.length)], [.cells (mS (Sp.table q.1.1))])) (fun q => q.1.2.length) ⟨([], w), rfl⟩ [none] (Wk.mk0 rfl (by simp [imgs, Blk.alive]) (by simp [hle, Sp.table, mS]) (by simp [fle, vle, Fr.get, mS_bnd, Sp.table])) ?_
  rintro ⟨⟨pre, suf⟩, hp⟩
  dsimp only at hp
  subst hp
  cases suf with
  | nil =>
    simp only [w16L0, w16T1, W_skip, W_keep, KQ_canon, canon, Fr.norm, W_seq, W_block, W_cond, W_exit, W_ret, W_ops, W_draw, KQ_nil, KQ_norm_seq, KQ_exit_seq, KQ_ret_seq, KQ_norm_block, KQ_ret_block, KQ_exit_block, KQ_exit_loop, KQ_ret_loop, O_nil, O_cons, O_guard', S_call, S_mv, SE_mv, SD_mv, S_pick, SE_pick, SD_pick, S_bin, SE_bin, SD_bin, S_eqb, SE_eqb, SD_eqb, S_eqv, SE_eqv, SD_eqv, S_eqnil, SE_eqnil, SD_eqnil, S_un, SE_un, SD_un, S_conv, SE_conv, SD_conv, S_mkfn, SE_mkfn, SD_mkfn, S_load, SE_load, SD_load, S_nilck, SE_nilck, SD_nilck, S_slS, SE_slS, SD_slS, S_slP, SE_slP, SD_slP, S_fldA, SE_fldA, SD_fldA, S_fld, SE_fld, SD_fld, S_ixS, SE_ixS, SD_ixS, S_ixP, SE_ixP, SD_ixP, S_ixV, SE_ixV, SD_ixV, S_ixStr, SE_ixStr, SD_ixStr, S_ext, SE_ext, SD_ext, S_len, SE_len, SD_len, S_lenStr, SE_lenStr, SD_lenStr, S_lenc, SE_lenc, SD_lenc, S_mn, SE_mn, SD_mn, S_mx, SE_mx, SD_mx, S_build, SE_build, SD_build, S_alloc, SD_alloc, S_box, SD_box, S_bslice, SD_bslice, S_mksl, SD_mksl, S_store, SD_store, S_append, SD_append, S_copy, SD_copy, S_clr, SD_clr, aq_some, aa_some, al_some, aqd_some, aad_some, ald_some, ape_some, D_done, D_both, D_early, D_earlyG', D_step, D_stepG', SE_call, SD_call, G_bool, GE_bool, GS_bool, icond_bool, IOpd.ev, Fr.get, Fr.put, Fr.putd, entryFr, pickA, binA, binI, isSh, shI, eqbA, eqvA, ints, ints_mI, Option.map_some, eqnilA, unA, convA, loadA, nilckA, intA, slSA, slPA, fldAA, fldVA, ixSA, ixPA, ixVA, ixStrA, extA, lenA, lenStrA, mnA, mxA, AVal.fits, fillA, fillOk, buildA, opa, srcA, appA, stoA, copA, clrA, rdFree, zeros, List.length_nil, List.length_cons, List.length_map, List.map_cons, List.map_nil, Option.map_some, Option.map_none, if_true, if_false, ite_true, ite_false, true_and, and_true, and_self, implies_true, forall_const, true_implies, Nat.reduceEqDiff, Nat.reduceAdd, Nat.reduceLT, Nat.reduceLeDiff, reduceIte, reduceCtorEq, Bool.false_eq_true, Bool.not_true, Bool.not_false, decide_eq_true_eq, decide_eq_false_iff_not, eq_self, List.getElem?_cons_zero, List.getElem?_cons_succ, List.getElem?_nil, List.set_cons_zero, List.set_cons_succ, List.nil_append, List.cons_append, List.append_nil, List.replicate_zero, List.replicate_succ, Nat.zero_add, false_implies, rng_lt, rng_end, rng_get, cells_I, cells_B, cells_sl, cut_one, Int.toNat_natCast, Int.natCast_nonneg, List.headD_cons, Int.lt_irrefl, not_false_eq_true, decide_false, decide_true, mI_length, mI_cells, mI_sz, mI_isCell, mI_mid, mI_append, mI_take, mI_drop, cells_val, cells_own, cells_agg, isCell_I, isCell_B, isCell_nil, isCell_sl, isCell_own, isCell_ptr, isCell_fn, isCell_rp, isCell_yld, cellsOk_I, cellsOk_B, cellsOk_nil, cellsOk_sl, cellsOk_own, cellsOk_ptr, cellsOk_fn, cellsOk_rp, cellsOk_yld, cellsOk_agg, cells_nil, cells_ptr, cells_fn, cells_rp, List.all_cons, List.all_nil, Bool.and_true, Nat.mul_one, Nat.zero_mul, Nat.one_mul, List.take_zero, List.take_nil, List.drop_nil, List.drop_zero, List.not_mem_nil, Nat.le_refl, Nat.zero_le, mS_length, mS_cells, mS_sz, mS_isCell, mS_mid, mS_append, mS_take, mS_drop, cells_sI, isCell_sI, cellsOk_sI, sI_eq, succ_le_self', List.take_succ_cons, List.drop_succ_cons, List.take_length, beq_self_eq_true, List.mem_cons, or_false, forall_eq, mI_put, mI_rep]
    exact leafO _ _ [some 0] (Wk.mk0 rfl (by simp [imgs, Blk.alive]) (by simp [hle, csle, mS_bnd]) (by simp [fle, vle, Fr.get])) ⟨rfl, rfl⟩
  | cons x suf =>
    simp only [w16L0, w16T1, W_skip, W_keep, KQ_canon, canon, Fr.norm, W_seq, W_block, W_cond, W_exit, W_ret, W_ops, W_draw, KQ_nil, KQ_norm_seq, KQ_exit_seq, KQ_ret_seq, KQ_norm_block, KQ_ret_block, KQ_exit_block, KQ_exit_loop, KQ_ret_loop, O_nil, O_cons, O_guard', S_call, S_mv, SE_mv, SD_mv, S_pick, SE_pick, SD_pick, S_bin, SE_bin, SD_bin, S_eqb, SE_eqb, SD_eqb, S_eqv, SE_eqv, SD_eqv, S_eqnil, SE_eqnil, SD_eqnil, S_un, SE_un, SD_un, S_conv, SE_conv, SD_conv, S_mkfn, SE_mkfn, SD_mkfn, S_load, SE_load, SD_load, S_nilck, SE_nilck, SD_nilck, S_slS, SE_slS, SD_slS, S_slP, SE_slP, SD_slP, S_fldA, SE_fldA, SD_fldA, S_fld, SE_fld, SD_fld, S_ixS, SE_ixS, SD_ixS, S_ixP, SE_ixP, SD_ixP, S_ixV, SE_ixV, SD_ixV, S_ixStr, SE_ixStr, SD_ixStr, S_ext, SE_ext, SD_ext, S_len, SE_len, SD_len, S_lenStr, SE_lenStr, SD_lenStr, S_lenc, SE_lenc, SD_lenc, S_mn, SE_mn, SD_mn, S_mx, SE_mx, SD_mx, S_build, SE_build, SD_build, S_alloc, SD_alloc, S_box, SD_box, S_bslice, SD_bslice, S_mksl, SD_mksl, S_store, SD_store, S_append, SD_append, S_copy, SD_copy, S_clr, SD_clr, aq_some, aa_some, al_some, aqd_some, aad_some, ald_some, ape_some, D_done, D_both, D_early, D_earlyG', D_step, D_stepG', SE_call, SD_call, G_bool, GE_bool, GS_bool, icond_bool, IOpd.ev, Fr.get, Fr.put, Fr.putd, entryFr, pickA, binA, binI, isSh, shI, eqbA, eqvA, ints, ints_mI, Option.map_some, eqnilA, unA, convA, loadA, nilckA, intA, slSA, slPA, fldAA, fldVA, ixSA, ixPA, ixVA, ixStrA, extA, lenA, lenStrA, mnA, mxA, AVal.fits, fillA, fillOk, buildA, opa, srcA, appA, stoA, copA, clrA, rdFree, zeros, List.length_nil, List.length_cons, List.length_map, List.map_cons, List.map_nil, Option.map_some, Option.map_none, if_true, if_false, ite_true, ite_false, true_and, and_true, and_self, implies_true, forall_const, true_implies, Nat.reduceEqDiff, Nat.reduceAdd, Nat.reduceLT, Nat.reduceLeDiff, reduceIte, reduceCtorEq, Bool.false_eq_true, Bool.not_true, Bool.not_false, decide_eq_true_eq, decide_eq_false_iff_not, eq_self, List.getElem?_cons_zero, List.getElem?_cons_succ, List.getElem?_nil, List.set_cons_zero, List.set_cons_succ, List.nil_append, List.cons_append, List.append_nil, List.replicate_zero, List.replicate_succ, Nat.zero_add, false_implies, rng_lt, rng_end, rng_get, cells_I, cells_B, cells_sl, cut_one, Int.toNat_natCast, Int.natCast_nonneg, List.headD_cons, Int.lt_irrefl, not_false_eq_true, decide_false, decide_true, mI_length, mI_cells, mI_sz, mI_isCell, mI_mid, mI_append, mI_take, mI_drop, cells_val, cells_own, cells_agg, isCell_I, isCell_B, isCell_nil, isCell_sl, isCell_own, isCell_ptr, isCell_fn, isCell_rp, isCell_yld, cellsOk_I, cellsOk_B, cellsOk_nil, cellsOk_sl, cellsOk_own, cellsOk_ptr, cellsOk_fn, cellsOk_rp, cellsOk_yld, cellsOk_agg, cells_nil, cells_ptr, cells_fn, cells_rp, List.all_cons, List.all_nil, Bool.and_true, Nat.mul_one, Nat.zero_mul, Nat.one_mul, List.take_zero, List.take_nil, List.drop_nil, List.drop_zero, List.not_mem_nil, Nat.le_refl, Nat.zero_le, mS_length, mS_cells, mS_sz, mS_isCell, mS_mid, mS_append, mS_take, mS_drop, cells_sI, isCell_sI, cellsOk_sI, sI_eq, succ_le_self', List.take_succ_cons, List.drop_succ_cons, List.take_length, beq_self_eq_true, List.mem_cons, or_false, forall_eq, mI_put, mI_rep]
    refine ⟨fun h => ?_, fun h => ?_⟩
    · refine CallK.pure (CallV.of_spec (Spec.lift (s27 false false x (hw x (by simp))) (by simp [bndL, AVal.bnd, mI_bnd]) (by simp [AVal.bnd, mI_bnd]) _)) ?_
      simp only [W_skip, W_keep, KQ_canon, canon, Fr.norm, W_seq, W_block, W_cond, W_exit, W_ret, W_ops, W_draw, KQ_nil, KQ_norm_seq, KQ_exit_seq, KQ_ret_seq, KQ_norm_block, KQ_ret_block, KQ_exit_block, KQ_exit_loop, KQ_ret_loop, O_nil, O_cons, O_guard', S_call, S_mv, SE_mv, SD_mv, S_pick, SE_pick, SD_pick, S_bin, SE_bin, SD_bin, S_eqb, SE_eqb, SD_eqb, S_eqv, SE_eqv, SD_eqv, S_eqnil, SE_eqnil, SD_eqnil, S_un, SE_un, SD_un, S_conv, SE_conv, SD_conv, S_mkfn, SE_mkfn, SD_mkfn, S_load, SE_load, SD_load, S_nilck, SE_nilck, SD_nilck, S_slS, SE_slS, SD_slS, S_slP, SE_slP, SD_slP, S_fldA, SE_fldA, SD_fldA, S_fld, SE_fld, SD_fld, S_ixS, SE_ixS, SD_ixS, S_ixP, SE_ixP, SD_ixP, S_ixV, SE_ixV, SD_ixV, S_ixStr, SE_ixStr, SD_ixStr, S_ext, SE_ext, SD_ext, S_len, SE_len, SD_len, S_lenStr, SE_lenStr, SD_lenStr, S_lenc, SE_lenc, SD_lenc, S_mn, SE_mn, SD_mn, S_mx, SE_mx, SD_mx, S_build, SE_build, SD_build, S_alloc, SD_alloc, S_box, SD_box, S_bslice, SD_bslice, S_mksl, SD_mksl, S_store, SD_store, S_append, SD_append, S_copy, SD_copy, S_clr, SD_clr, aq_some, aa_some, al_some, aqd_some, aad_some, ald_some, ape_some, D_done, D_both, D_early, D_earlyG', D_step, D_stepG', SE_call, SD_call, G_bool, GE_bool, GS_bool, icond_bool, IOpd.ev, Fr.get, Fr.put, Fr.putd, entryFr, pickA, binA, binI, isSh, shI, eqbA, eqvA, ints, ints_mI, Option.map_some, eqnilA, unA, convA, loadA, nilckA, intA, slSA, slPA, fldAA, fldVA, ixSA, ixPA, ixVA, ixStrA, extA, lenA, lenStrA, mnA, mxA, AVal.fits, fillA, fillOk, buildA, opa, srcA, appA, stoA, copA, clrA, rdFree, zeros, List.length_nil, List.length_cons, List.length_map, List.map_cons, List.map_nil, Option.map_some, Option.map_none, if_true, if_false, ite_true, ite_false, true_and, and_true, and_self, implies_true, forall_const, true_implies, Nat.reduceEqDiff, Nat.reduceAdd, Nat.reduceLT, Nat.reduceLeDiff, reduceIte, reduceCtorEq, Bool.false_eq_true, Bool.not_true, Bool.not_false, decide_eq_true_eq, decide_eq_false_iff_not, eq_self, List.getElem?_cons_zero, List.getElem?_cons_succ, List.getElem?_nil, List.set_cons_zero, List.set_cons_succ, List.nil_append, List.cons_append, List.append_nil, List.replicate_zero, List.replicate_succ, Nat.zero_add, false_implies, rng_lt, rng_end, rng_get, cells_I, cells_B, cells_sl, cut_one, Int.toNat_natCast, Int.natCast_nonneg, List.headD_cons, Int.lt_irrefl, not_false_eq_true, decide_false, decide_true, mI_length, mI_cells, mI_sz, mI_isCell, mI_mid, mI_append, mI_take, mI_drop, cells_val, cells_own, cells_agg, isCell_I, isCell_B, isCell_nil, isCell_sl, isCell_own, isCell_ptr, isCell_fn, isCell_rp, isCell_yld, cellsOk_I, cellsOk_B, cellsOk_nil, cellsOk_sl, cellsOk_own, cellsOk_ptr, cellsOk_fn, cellsOk_rp, cellsOk_yld, cellsOk_agg, cells_nil, cells_ptr, cells_fn, cells_rp, List.all_cons, List.all_nil, Bool.and_true, Nat.mul_one, Nat.zero_mul, Nat.one_mul, List.take_zero, List.take_nil, List.drop_nil, List.drop_zero, List.not_mem_nil, Nat.le_refl, Nat.zero_le, mS_length, mS_cells, mS_sz, mS_isCell, mS_mid, mS_append, mS_take, mS_drop, cells_sI, isCell_sI, cellsOk_sI, sI_eq, succ_le_self', List.take_succ_cons, List.drop_succ_cons, List.take_length, beq_self_eq_true, List.mem_cons, or_false, forall_eq, mI_put, mI_rep]
      have e : Sp.table (pre ++ [x]) = Sp.table pre ++ [x.take 9] := by
        simp only [Sp.table]
        rw [List.take_append, List.take_of_length_le (by omega)]
        have : ∃ k, 9 - pre.length = k + 1 := ⟨8 - pre.length, by omega⟩
        obtain ⟨k, hk⟩ := this
        rw [hk]; simp
      have hlt : (Sp.table pre).length ≤ 9 := by simp [Sp.table]; omega
      refine ⟨by omega, ?_⟩
      refine round1 rfl ⟨(pre ++ [x], suf), by simp⟩ [some 2] (by simp) (Wk.mk0 rfl (by simp [imgs, Blk.alive]) (by simp [hle, csle, e, mS_bnd, mS_one, mS_append]) (by simp [fle, vle, Fr.get, mS_bnd, e, rng_idx' hl]))
    · have e : Sp.table (pre ++ [x]) = Sp.table pre := by
        simp only [Sp.table]
        rw [List.take_append_of_le_length (by omega)]
      refine round1 rfl ⟨(pre ++ [x], suf), by simp⟩ [some 0] (by simp) (Wk.mk0 rfl (by simp [imgs, Blk.alive]) (by simp [hle, csle, e, mS_bnd]) (by simp [fle, vle, Fr.get, mS_bnd, e, rng_idx' hl]))


set_option maxHeartbeats 2000000 in
set_option maxRecDepth 20000 in
theorem s6 (w : List (List Int)) (i : Int) (o : List Int) (hw : ∀ l ∈ w, l.length < 9223372036854775808) (hl : w.length < 9223372036854775808) (ho : o.length < 9223372036854775808) :
    Abs.Spec Try.prog 6 [.sl false false (mS w), I i, .sl false false (mI o)] [] fun v H' => H' = [] ∧ v = B true := by
  obtain ⟨hw', hl'⟩ := tab_len hw hl
  refine Abs.Spec.walk mixed fn6 nn6 t6 q6 nt6 (by simp) ?_
  simp only [w6, go_sem, Nat.reduceEqDiff, Nat.reduceAdd, Nat.reduceLT, Nat.reduceLeDiff, reduceIte, reduceCtorEq]
  refine CallK.by (CallV.of_spec (s16 false false w hw hl)) fun v H' ⟨h1, h2⟩ => ?_
  subst h1 h2
  simp only [go_sem, Nat.reduceEqDiff, Nat.reduceAdd, Nat.reduceLT, Nat.reduceLeDiff, reduceIte, reduceCtorEq]
  refine CallK.by (CallV.of_spec (s27 false false o ho)) fun v H' ⟨h1, h2⟩ => ?_
  subst h1 h2
  simp only [go_sem, Nat.reduceEqDiff, Nat.reduceAdd, Nat.reduceLT, Nat.reduceLeDiff, reduceIte, reduceCtorEq]
  refine CallK.by (CallV.of_spec (s26 (Sp.table w) i (o.take 9) hw' hl' (by simp; omega))) fun v H' ⟨h1, h2⟩ => ?_
  subst h1 h2
  rw [lie_take]
  cases hok : lieOk w i o with
  | true =>
    have hA : lieA w i o = .tup (lieT w i.toNat o ++ [I 0]) := by rw [lieA, if_pos hok]
    obtain ⟨hv, h0, hn, hio⟩ : Sp.valid w = true ∧ 0 ≤ i ∧ i < w.length ∧ Sp.isOrder o w.length = true := by simpa [lieOk] using hok
    obtain ⟨k, rfl⟩ : ∃ k : Nat, i = k := ⟨i.toNat, by omega⟩
    have hk : k < w.length := by omega
    have g := Sp.valid_good hv
    have hv' := Sp.valid_set (i := k) hv hio
    have g' := Sp.valid_good hv'
    have g6 := g.n6
    have hall : (Sp.valid w && Sp.all o w.length) = true := by rw [hv, Sp.all_eq g.n6, hio, Bool.and_self]
    have z1 : decide ((k : Int) < 0) = false := decide_eq_false (by omega)
    have z2 : decide ((k : Int) ≥ w.length) = false := decide_eq_false (by omega)
    have hset : (w.set k o).length = w.length := List.length_set
    obtain ⟨hf1, hf2⟩ := Sp.fin_len w
    obtain ⟨hf1', hf2'⟩ := Sp.fin_len (w.set k o)
    have hk1 : k < (Sp.fin w).1.length := by omega
    have hk2 : k < (Sp.fin (w.set k o)).1.length := by omega
    have hrow := g.len _ (Sp.getD_mem (d := []) hk)
    obtain ⟨a⟩ := Sp.round_of g hk
    obtain ⟨b⟩ := Sp.round_of g' (by rw [hset]; exact hk)
    have ad := a.d
    have bd := b.d
    have hbt2 : b.t < w.length := by have := b.ht; omega
    have hhon := Sp.honest g g' (Sp.alike_set o hk) hk
    rw [ad, bd] at hhon
    have z3 : decide (Sp.pos w k a.t ≤ Sp.pos w k b.t) = true := by simpa using hhon
    have hAt : ∀ (c : Nat), c < w.length → ∀ H, CallV Try.prog (.fn (.func 24) [] []) [.sl false false (mS w), I k, I c] H fun v H' => v = I (Sp.pos w k c) ∧ H' = H := fun c hc =>
      liftV (s24 false false w k c hk (g.cov _ (Sp.getD_mem hk) c hc) (by omega)) (by simp [bndL, AVal.bnd, mS_bnd]) rfl
    have hA2 : lieA w k o = .tup [I (Sp.pos w k a.t), I (Sp.pos w k b.t), I 0] := by
      rw [hA]; unfold lieT; rw [Int.toNat_natCast, ad, bd]; rfl
    have hT : Sp.table w = w := Sp.take_valid w hv
    have hTo : o.take 9 = o := by have := (Sp.order_spec g6 hio).1; exact List.take_of_length_le (by omega)
    have eT : tradeA w = .tup [.sl false false (mI (Sp.fin w).1), I 0] := by rw [tradeA, if_pos hv]
    have eT' : tradeA (w.set k o) = .tup [.sl false false (mI (Sp.fin (w.set k o)).1), I 0] := by rw [tradeA, if_pos hv']
    have ha1 := Sp.fin_all g
    have ha2 := Sp.fin_all g'
    rw [hset] at ha2
    rw [hA2]
    simp only [List.getD_cons_zero, List.getD_cons_succ, go_sem, Nat.reduceEqDiff, Nat.reduceAdd, Nat.reduceLT, Nat.reduceLeDiff, reduceIte, reduceCtorEq]
    refine CallK.by (CallV.of_spec (s28 false false false false w o hw hl ho)) fun v H' ⟨h1, h2⟩ => ?_
    subst h1 h2
    rw [hall]
    simp only [z1, z2, go_sem, Nat.reduceEqDiff, Nat.reduceAdd, Nat.reduceLT, Nat.reduceLeDiff, reduceIte, reduceCtorEq]
    refine CallK.by (CallV.of_spec (s16 false false w hw hl)) fun v H' ⟨h1, h2⟩ => ?_
    subst h1 h2
    rw [hT]
    simp only [go_sem, Nat.reduceEqDiff, Nat.reduceAdd, Nat.reduceLT, Nat.reduceLeDiff, reduceIte, reduceCtorEq]
    refine CallK.by (CallV.of_spec (s15 false false w hw hl)) fun v H' ⟨h1, h2⟩ => ?_
    subst h1 h2
    rw [eT]
    simp only [List.getD_cons_zero, List.getD_cons_succ, go_sem, Nat.reduceEqDiff, Nat.reduceAdd, Nat.reduceLT, Nat.reduceLeDiff, reduceIte, reduceCtorEq]
    refine CallK.by (CallV.of_spec (s16o false false w hw hl)) fun v H' ⟨h1, h2⟩ => ?_
    subst h1 h2
    rw [hT]
    simp only [go_sem, Nat.reduceEqDiff, Nat.reduceAdd, Nat.reduceLT, Nat.reduceLeDiff, reduceIte, reduceCtorEq]
    refine CallK.pure (liftV (s27 false false o ho) (by simp [bndL, AVal.bnd, mI_bnd]) (by simp [AVal.bnd, mI_bnd]) _) ?_
    rw [hTo]
    have hk' : (k : Int) < w.length := by omega
    simp only [hk', mS_put, set_put, hk, go_sem, Nat.reduceEqDiff, Nat.reduceAdd, Nat.reduceLT, Nat.reduceLeDiff, reduceIte, reduceCtorEq]
    refine ⟨by omega, ?_⟩
    have hw3 : ∀ l ∈ w.set k o, l.length < 9223372036854775808 := fun l hlm => by have := g'.len l hlm; omega
    refine CallK.by (CallV.of_spec (own_give (s15 false false (w.set k o) hw3 (by omega)) (by rw [eT']; simp [AVal.bnd, bndL, mI_bnd]) hset)) fun v H' ⟨h1, h2⟩ => ?_
    subst h1 h2
    rw [eT']
    simp only [List.getD_cons_zero, List.getD_cons_succ, go_sem, Nat.reduceEqDiff, Nat.reduceAdd, Nat.reduceLT, Nat.reduceLeDiff, reduceIte, reduceCtorEq]
    refine CallK.pure (liftV (s23 false false (Sp.fin w).1 _ (by omega)) (by simp [bndL, AVal.bnd, mI_bnd]) rfl _) ?_
    rw [ha1]
    simp only [go_sem, Nat.reduceEqDiff, Nat.reduceAdd, Nat.reduceLT, Nat.reduceLeDiff, reduceIte, reduceCtorEq]
    refine CallK.pure (liftV (s23 false false (Sp.fin (w.set k o)).1 _ (by omega)) (by simp [bndL, AVal.bnd, mI_bnd]) rfl _) ?_
    rw [ha2]
    simp only [mI_get, mI_hd, hk1, ad, go_sem, Nat.reduceEqDiff, Nat.reduceAdd, Nat.reduceLT, Nat.reduceLeDiff, reduceIte, reduceCtorEq]
    refine ⟨by omega, CallK.pure (hAt a.t a.ht _) ?_⟩
    simp only [mI_get, mI_hd, hk2, bd, go_sem, Nat.reduceEqDiff, Nat.reduceAdd, Nat.reduceLT, Nat.reduceLeDiff, reduceIte, reduceCtorEq]
    refine ⟨by omega, CallK.pure (hAt b.t hbt2 _) ?_⟩
    simp only [z3, go_sem, Nat.reduceEqDiff, Nat.reduceAdd, Nat.reduceLT, Nat.reduceLeDiff, reduceIte, reduceCtorEq]
    refine CallK.pure (liftV s19 rfl rfl _) ?_
    simp only [go_sem, Nat.reduceEqDiff, Nat.reduceAdd, Nat.reduceLT, Nat.reduceLeDiff, reduceIte, reduceCtorEq]
    exact leaf (B true) rfl ⟨rfl, rfl⟩
  | false =>
    have hA : lieA w i o = .tup [I 0, I 0, I 2] := by rw [lieA, hok]; rfl
    rw [hA]
    simp only [List.getD_cons_zero, List.getD_cons_succ, go_sem, Nat.reduceEqDiff, Nat.reduceAdd, Nat.reduceLT, Nat.reduceLeDiff, reduceIte, reduceCtorEq]
    refine CallK.by (CallV.of_spec s19) fun v H' ⟨h1, h2⟩ => ?_
    subst h1 h2
    simp only [go_sem, Nat.reduceEqDiff, Nat.reduceAdd, Nat.reduceLT, Nat.reduceLeDiff, reduceIte, reduceCtorEq]
    exact leaf (B true) rfl ⟨rfl, rfl⟩
end Go.Proofs.Ytkmmngphcodjjaa
