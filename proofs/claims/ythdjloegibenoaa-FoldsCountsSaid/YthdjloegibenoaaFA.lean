/- Contracts of folds: lists, creases, places. -/
import Derived.Test.YthdjloegibenoaaDA
import Derived.Test.YthdjloegibenoaaFP
namespace Go.Proofs.Ythdjloegibenoaa
open Go.Abs AVal
set_option linter.unusedSimpArgs false
attribute [local go_sem] W_skip W_keep KQ_canon canon Fr.norm W_seq W_block W_exit W_ret W_ops W_draw KQ_nil KQ_norm_seq KQ_exit_seq KQ_ret_seq KQ_norm_block KQ_ret_block KQ_exit_block KQ_exit_loop KQ_ret_loop O_nil O_cons S_call S_mv SE_mv SD_mv S_pick SE_pick SD_pick S_bin SE_bin SD_bin S_eqb SE_eqb SD_eqb S_eqv SE_eqv SD_eqv S_eqnil SE_eqnil SD_eqnil S_un SE_un SD_un S_conv SE_conv SD_conv S_mkfn SE_mkfn SD_mkfn S_load SE_load SD_load S_nilck SE_nilck SD_nilck S_slS SE_slS SD_slS S_slP SE_slP SD_slP S_fldA SE_fldA SD_fldA S_fld SE_fld SD_fld S_ixS SE_ixS SD_ixS S_ixP SE_ixP SD_ixP S_ixV SE_ixV SD_ixV S_ixStr SE_ixStr SD_ixStr S_ext SE_ext SD_ext S_len SE_len SD_len S_lenStr SE_lenStr SD_lenStr S_lenc SE_lenc SD_lenc S_mn SE_mn SD_mn S_mx SE_mx SD_mx S_build SE_build SD_build S_alloc SD_alloc S_box SD_box S_bslice SD_bslice S_mksl SD_mksl S_store SD_store S_append SD_append S_copy SD_copy S_clr SD_clr aq_some aa_some al_some aqd_some aad_some ald_some ape_some D_done D_both D_early D_step SE_call SD_call IOpd.ev Fr.get Fr.put Fr.putd entryFr pickA binA binI isSh shI eqbA eqvA ints ints_mI Option.map_some eqnilA unA convA loadA nilckA intA slSA slPA fldAA fldVA ixSA ixPA ixVA ixStrA extA lenA lenStrA mnA mxA AVal.fits fillA fillOk buildA opa srcA appA stoA copA clrA rdFree zeros List.length_nil List.length_cons List.length_map List.map_cons List.map_nil Option.map_some Option.map_none if_true if_false ite_true ite_false true_and and_true and_self implies_true forall_const true_implies Bool.false_eq_true Bool.not_true Bool.not_false decide_eq_true_eq decide_eq_false_iff_not eq_self List.getElem?_cons_zero List.getElem?_cons_succ List.getElem?_nil List.set_cons_zero List.set_cons_succ List.nil_append List.cons_append List.append_nil List.replicate_zero List.replicate_succ Nat.zero_add false_implies rng_lt rng_end rng_get cells_I cells_B cells_sl cut_one Int.toNat_natCast Int.natCast_nonneg List.headD_cons Int.lt_irrefl not_false_eq_true decide_false decide_true mI_length mI_cells mI_sz mI_isCell mI_mid mI_append mI_take mI_drop cells_val cells_own cells_agg isCell_I isCell_B isCell_nil isCell_sl isCell_own isCell_ptr isCell_fn isCell_rp isCell_yld cellsOk_I cellsOk_B cellsOk_nil cellsOk_sl cellsOk_own cellsOk_ptr cellsOk_fn cellsOk_rp cellsOk_yld cellsOk_agg cells_nil cells_ptr cells_fn cells_rp List.all_cons List.all_nil Bool.and_true Nat.mul_one Nat.zero_mul Nat.one_mul List.take_zero List.take_nil List.drop_nil List.drop_zero List.not_mem_nil Nat.le_refl Nat.zero_le mS_length mS_cells mS_sz mS_isCell mS_mid mS_append mS_take mS_drop cells_sI isCell_sI cellsOk_sI sI_eq succ_le_self' List.take_succ_cons List.drop_succ_cons List.take_length beq_self_eq_true List.mem_cons or_false forall_eq mI_put mI_rep O_guard' D_earlyG' D_stepG' W_cond' G_tt G_tf G_ft G_ff GE_tt GE_tf GE_ft GE_ff GS_tt GS_tf GS_ft GS_ff G_u GE_u GS_u IC_t IC_f xft xff xtt xtf z00 z20 z22 z02 zz tn0

theorem s44nil : Abs.Spec Try.prog 44 [nilSl] [] fun v H' => H' = [] ∧ v = .sl false false (mI []) := by
  refine Abs.Spec.walk mixed fn44 nn44 t44 q44 nt44 (by simp) ?_
  simp only [w44, go_sem, Nat.reduceEqDiff, Nat.reduceAdd, Nat.reduceLT, Nat.reduceLeDiff, reduceIte, reduceCtorEq]
  exact leaf (.sl false false (mI [])) ⟨rfl, rfl, rfl⟩ ⟨rfl, rfl⟩
/-- Clone: what is made lies in a block of its own. -/
theorem s44o (nn t : Bool) (xs : List Int) (h1 : 1 ≤ xs.length) (hl : xs.length ≤ 137438953472) : Abs.Spec Try.prog 44 [.sl nn t (mI xs)] [] fun v H' => v = .own 0 0 xs.length xs.length 1 ∧ H' = [.cells (mI xs)] := by
  have key : Abs.Spec Try.prog 44 [.sl true t (mI xs)] [] fun v H' => v = .own 0 0 xs.length xs.length 1 ∧ H' = [.cells (mI xs)] := by
    refine Abs.Spec.walk mixed fn44 nn44 t44 q44 nt44 (by simp) ?_
    have h0 : ¬ xs.length ≤ 0 := by omega
    simp only [w44, h0, go_sem, Nat.reduceEqDiff, Nat.reduceAdd, Nat.reduceLT, Nat.reduceLeDiff, reduceIte, reduceCtorEq]
    refine ⟨by omega, ?_⟩
    exact leafO _ _ [some 1] (Wk.mk0 rfl (by simp [imgs, Blk.alive]) (by simp [hle, csle, mI_bnd]) (by simp [fle, vle, Fr.get])) ⟨rfl, rfl⟩
  cases nn with
  | true => exact key
  | false => exact Spec.split_nil (fun h => by have : xs = [] := by simpa [mI] using h
                                               subst this; simp at h1) key
theorem s44 (nn t : Bool) (xs : List Int) (hl : xs.length ≤ 137438953472) : Abs.Spec Try.prog 44 [.sl nn t (mI xs)] [] fun v H' => H' = [] ∧ v = .sl false false (mI xs) := by
  by_cases h0 : xs.length ≤ 0
  · have : xs = [] := List.eq_nil_of_length_eq_zero (by omega)
    subst this
    have key : Abs.Spec Try.prog 44 [.sl true t (mI [])] [] fun v H' => H' = [] ∧ v = .sl false false (mI []) := by
      refine Abs.Spec.walk mixed fn44 nn44 t44 q44 nt44 (by simp) ?_
      simp only [w44, go_sem, Nat.reduceEqDiff, Nat.reduceAdd, Nat.reduceLT, Nat.reduceLeDiff, reduceIte, reduceCtorEq]
      exact leaf (.sl false false (mI [])) (vle_mI (cs := []) rfl (by simp) rfl rfl) ⟨rfl, rfl⟩
    cases nn with
    | true => exact key
    | false => exact Spec.split_nil (fun _ => s44nil) key
  · exact Spec.frozen (s44o nn t xs (by omega) hl) (by omega) mI_bnd mI_length (by rw [mI_sz]; trivial) (by rw [Nat.mul_one, take_mI, mI_cells])

theorem s16 (nn t : Bool) (xs : List Int) (hl : xs.length < 9223372036854775808) : Abs.Spec Try.prog 16 [.sl nn t (mI xs)] [] fun v H' => H' = [] ∧ v = .sl false false (mI (xs.take 11)) := by
  refine Abs.Spec.walk mixed fn16 nn16 t16 q16 nt16 (by simp) ?_
  simp only [w16, go_sem, Nat.reduceEqDiff, Nat.reduceAdd, Nat.reduceLT, Nat.reduceLeDiff, reduceIte, reduceCtorEq]
  have e : List.take (if (11 : Int) < xs.length then (11 : Int) else xs.length).toNat xs = xs.take 11 := by
    split
    · rfl
    · rw [Int.toNat_natCast, List.take_length, List.take_of_length_le (by omega)]
  rw [e]
  refine ⟨⟨Int.le_refl _, ?_, ?_⟩, ?_⟩
  · split <;> omega
  · split <;> omega
  · refine CallK.by (CallV.of_spec (s44 nn false (xs.take 11) (by simp; omega))) fun v H' ⟨h1, h2⟩ => ?_
    subst h1 h2
    simp only [go_sem, Nat.reduceEqDiff, Nat.reduceAdd, Nat.reduceLT, Nat.reduceLeDiff, reduceIte, reduceCtorEq]
    exact leaf (.sl false false (mI (xs.take 11))) (by simp [vle, Fr.get, mI_bnd]) ⟨rfl, rfl⟩
theorem s16o (nn t : Bool) (xs : List Int) (h1 : 1 ≤ xs.length) (hl : xs.length ≤ 11) : Abs.Spec Try.prog 16 [.sl nn t (mI xs)] [] fun v H' => v = .own 0 0 xs.length xs.length 1 ∧ H' = [.cells (mI xs)] := by
  refine Abs.Spec.walk mixed fn16 nn16 t16 q16 nt16 (by simp) ?_
  simp only [w16, go_sem, Nat.reduceEqDiff, Nat.reduceAdd, Nat.reduceLT, Nat.reduceLeDiff, reduceIte, reduceCtorEq]
  have e : List.take (if (11 : Int) < xs.length then (11 : Int) else xs.length).toNat xs = xs := by
    rw [if_neg (by omega), Int.toNat_natCast, List.take_length]
  rw [e]
  refine ⟨⟨Int.le_refl _, ?_, ?_⟩, ?_⟩
  · split <;> omega
  · split <;> omega
  · refine CallK.by (CallV.of_spec (s44o nn false xs h1 (by omega))) fun v H' ⟨h1, h2⟩ => ?_
    subst h1 h2
    simp only [go_sem, Nat.reduceEqDiff, Nat.reduceAdd, Nat.reduceLT, Nat.reduceLeDiff, reduceIte, reduceCtorEq]
    exact leafO _ _ [some 0] (Wk.mk0 rfl (by simp [imgs, Blk.alive]) (by simp [hle, csle, mI_bnd]) (by simp [fle, vle, Fr.get])) ⟨rfl, rfl⟩

theorem s55 (nn t : Bool) (xs : List Int) (n : Int) (hl : xs.length < 9223372036854775808) : Abs.Spec Try.prog 55 [.sl nn t (mI xs), I n] [] fun v H' => H' = [] ∧ v = B (Sp.isOrder xs n) := by
  refine Abs.Spec.walk mixed fn55 nn55 t55 q55 nt55 (by simp) ?_
  simp only [w55, W_skip, W_keep, KQ_canon, canon, Fr.norm, W_seq, W_block, W_cond, W_exit, W_ret, W_ops, W_draw, KQ_nil, KQ_norm_seq, KQ_exit_seq, KQ_ret_seq, KQ_norm_block, KQ_ret_block, KQ_exit_block, KQ_exit_loop, KQ_ret_loop, O_nil, O_cons, O_guard', S_call, S_mv, SE_mv, SD_mv, S_pick, SE_pick, SD_pick, S_bin, SE_bin, SD_bin, S_eqb, SE_eqb, SD_eqb, S_eqv, SE_eqv, SD_eqv, S_eqnil, SE_eqnil, SD_eqnil, S_un, SE_un, SD_un, S_conv, SE_conv, SD_conv, S_mkfn, SE_mkfn, SD_mkfn, S_load, SE_load, SD_load, S_nilck, SE_nilck, SD_nilck, S_slS, SE_slS, SD_slS, S_slP, SE_slP, SD_slP, S_fldA, SE_fldA, SD_fldA, S_fld, SE_fld, SD_fld, S_ixS, SE_ixS, SD_ixS, S_ixP, SE_ixP, SD_ixP, S_ixV, SE_ixV, SD_ixV, S_ixStr, SE_ixStr, SD_ixStr, S_ext, SE_ext, SD_ext, S_len, SE_len, SD_len, S_lenStr, SE_lenStr, SD_lenStr, S_lenc, SE_lenc, SD_lenc, S_mn, SE_mn, SD_mn, S_mx, SE_mx, SD_mx, S_build, SE_build, SD_build, S_alloc, SD_alloc, S_box, SD_box, S_bslice, SD_bslice, S_mksl, SD_mksl, S_store, SD_store, S_append, SD_append, S_copy, SD_copy, S_clr, SD_clr, aq_some, aa_some, al_some, aqd_some, aad_some, ald_some, ape_some, D_done, D_both, D_early, D_earlyG', D_step, D_stepG', SE_call, SD_call, G_bool, GE_bool, GS_bool, icond_bool, IOpd.ev, Fr.get, Fr.put, Fr.putd, entryFr, pickA, binA, binI, isSh, shI, eqbA, eqvA, ints, ints_mI, Option.map_some, eqnilA, unA, convA, loadA, nilckA, intA, slSA, slPA, fldAA, fldVA, ixSA, ixPA, ixVA, ixStrA, extA, lenA, lenStrA, mnA, mxA, AVal.fits, fillA, fillOk, buildA, opa, srcA, appA, stoA, copA, clrA, rdFree, zeros, List.length_nil, List.length_cons, List.length_map, List.map_cons, List.map_nil, Option.map_some, Option.map_none, if_true, if_false, ite_true, ite_false, true_and, and_true, and_self, implies_true, forall_const, true_implies, Nat.reduceEqDiff, Nat.reduceAdd, Nat.reduceLT, Nat.reduceLeDiff, reduceIte, reduceCtorEq, Bool.false_eq_true, Bool.not_true, Bool.not_false, decide_eq_true_eq, decide_eq_false_iff_not, eq_self, List.getElem?_cons_zero, List.getElem?_cons_succ, List.getElem?_nil, List.set_cons_zero, List.set_cons_succ, List.nil_append, List.cons_append, List.append_nil, List.replicate_zero, List.replicate_succ, Nat.zero_add, false_implies, rng_lt, rng_end, rng_get, cells_I, cells_B, cells_sl, cut_one, Int.toNat_natCast, Int.natCast_nonneg, List.headD_cons, Int.lt_irrefl, not_false_eq_true, decide_false, decide_true, mI_length, mI_cells, mI_sz, mI_isCell, mI_mid, mI_append, mI_take, mI_drop, cells_val, cells_own, cells_agg, isCell_I, isCell_B, isCell_nil, isCell_sl, isCell_own, isCell_ptr, isCell_fn, isCell_rp, isCell_yld, cellsOk_I, cellsOk_B, cellsOk_nil, cellsOk_sl, cellsOk_own, cellsOk_ptr, cellsOk_fn, cellsOk_rp, cellsOk_yld, cellsOk_agg, cells_nil, cells_ptr, cells_fn, cells_rp, List.all_cons, List.all_nil, Bool.and_true, Nat.mul_one, Nat.zero_mul, Nat.one_mul, List.take_zero, List.take_nil, List.drop_nil, List.drop_zero, List.not_mem_nil, Nat.le_refl, Nat.zero_le, mS_length, mS_cells, mS_sz, mS_isCell, mS_mid, mS_append, mS_take, mS_drop, cells_sI, isCell_sI, cellsOk_sI, sI_eq, succ_le_self', List.take_succ_cons, List.drop_succ_cons, List.take_length, beq_self_eq_true, List.mem_cons, or_false, forall_eq, mI_put, mI_rep]
  refine W_loop (fun p : { p : List Int × List Int × Int // p.1 ++ p.2.1 = xs ∧ Sp.isOrderGo n p.2.2 p.2.1 = Sp.isOrderGo n 0 xs } => ([(0, sl nn t (mI xs)), (1, I n), (5, I p.1.2.2), (8, sl nn t (mI xs)), (9, I xs.length), (10, I p.1.1.length)], [])) (fun p => p.1.2.1.length) ⟨([], xs, 0), rfl, rfl⟩ [] (Wk.nil (by simp [fle, vle, Fr.get, mI_bnd])) ?_
  rintro ⟨⟨pre, suf, seen⟩, hp, hinv⟩
  dsimp only at hp hinv
  subst hp
  cases suf with
  | nil =>
    simp only [w55L0, w55T1, W_skip, W_keep, KQ_canon, canon, Fr.norm, W_seq, W_block, W_cond, W_exit, W_ret, W_ops, W_draw, KQ_nil, KQ_norm_seq, KQ_exit_seq, KQ_ret_seq, KQ_norm_block, KQ_ret_block, KQ_exit_block, KQ_exit_loop, KQ_ret_loop, O_nil, O_cons, O_guard', S_call, S_mv, SE_mv, SD_mv, S_pick, SE_pick, SD_pick, S_bin, SE_bin, SD_bin, S_eqb, SE_eqb, SD_eqb, S_eqv, SE_eqv, SD_eqv, S_eqnil, SE_eqnil, SD_eqnil, S_un, SE_un, SD_un, S_conv, SE_conv, SD_conv, S_mkfn, SE_mkfn, SD_mkfn, S_load, SE_load, SD_load, S_nilck, SE_nilck, SD_nilck, S_slS, SE_slS, SD_slS, S_slP, SE_slP, SD_slP, S_fldA, SE_fldA, SD_fldA, S_fld, SE_fld, SD_fld, S_ixS, SE_ixS, SD_ixS, S_ixP, SE_ixP, SD_ixP, S_ixV, SE_ixV, SD_ixV, S_ixStr, SE_ixStr, SD_ixStr, S_ext, SE_ext, SD_ext, S_len, SE_len, SD_len, S_lenStr, SE_lenStr, SD_lenStr, S_lenc, SE_lenc, SD_lenc, S_mn, SE_mn, SD_mn, S_mx, SE_mx, SD_mx, S_build, SE_build, SD_build, S_alloc, SD_alloc, S_box, SD_box, S_bslice, SD_bslice, S_mksl, SD_mksl, S_store, SD_store, S_append, SD_append, S_copy, SD_copy, S_clr, SD_clr, aq_some, aa_some, al_some, aqd_some, aad_some, ald_some, ape_some, D_done, D_both, D_early, D_earlyG', D_step, D_stepG', SE_call, SD_call, G_bool, GE_bool, GS_bool, icond_bool, IOpd.ev, Fr.get, Fr.put, Fr.putd, entryFr, pickA, binA, binI, isSh, shI, eqbA, eqvA, ints, ints_mI, Option.map_some, eqnilA, unA, convA, loadA, nilckA, intA, slSA, slPA, fldAA, fldVA, ixSA, ixPA, ixVA, ixStrA, extA, lenA, lenStrA, mnA, mxA, AVal.fits, fillA, fillOk, buildA, opa, srcA, appA, stoA, copA, clrA, rdFree, zeros, List.length_nil, List.length_cons, List.length_map, List.map_cons, List.map_nil, Option.map_some, Option.map_none, if_true, if_false, ite_true, ite_false, true_and, and_true, and_self, implies_true, forall_const, true_implies, Nat.reduceEqDiff, Nat.reduceAdd, Nat.reduceLT, Nat.reduceLeDiff, reduceIte, reduceCtorEq, Bool.false_eq_true, Bool.not_true, Bool.not_false, decide_eq_true_eq, decide_eq_false_iff_not, eq_self, List.getElem?_cons_zero, List.getElem?_cons_succ, List.getElem?_nil, List.set_cons_zero, List.set_cons_succ, List.nil_append, List.cons_append, List.append_nil, List.replicate_zero, List.replicate_succ, Nat.zero_add, false_implies, rng_lt, rng_end, rng_get, cells_I, cells_B, cells_sl, cut_one, Int.toNat_natCast, Int.natCast_nonneg, List.headD_cons, Int.lt_irrefl, not_false_eq_true, decide_false, decide_true, mI_length, mI_cells, mI_sz, mI_isCell, mI_mid, mI_append, mI_take, mI_drop, cells_val, cells_own, cells_agg, isCell_I, isCell_B, isCell_nil, isCell_sl, isCell_own, isCell_ptr, isCell_fn, isCell_rp, isCell_yld, cellsOk_I, cellsOk_B, cellsOk_nil, cellsOk_sl, cellsOk_own, cellsOk_ptr, cellsOk_fn, cellsOk_rp, cellsOk_yld, cellsOk_agg, cells_nil, cells_ptr, cells_fn, cells_rp, List.all_cons, List.all_nil, Bool.and_true, Nat.mul_one, Nat.zero_mul, Nat.one_mul, List.take_zero, List.take_nil, List.drop_nil, List.drop_zero, List.not_mem_nil, Nat.le_refl, Nat.zero_le, mS_length, mS_cells, mS_sz, mS_isCell, mS_mid, mS_append, mS_take, mS_drop, cells_sI, isCell_sI, cellsOk_sI, sI_eq, succ_le_self', List.take_succ_cons, List.drop_succ_cons, List.take_length, beq_self_eq_true, List.mem_cons, or_false, forall_eq, mI_put, mI_rep]
    simp only [List.append_nil, Sp.isOrderGo] at hinv
    refine ⟨fun h => ⟨?_, ?_⟩, fun h => ?_⟩
    · simp at h; omega
    · exact leaf (B _) rfl ⟨rfl, by simp only [Sp.isOrder, ← hinv, h, if_true, Sp.shl1, IntKind.bits]⟩
    · exact leaf (B _) rfl ⟨rfl, by simp [Sp.isOrder, ← hinv, h]⟩
  | cons x suf =>
    simp only [w55L0, w55T1, W_skip, W_keep, KQ_canon, canon, Fr.norm, W_seq, W_block, W_cond, W_exit, W_ret, W_ops, W_draw, KQ_nil, KQ_norm_seq, KQ_exit_seq, KQ_ret_seq, KQ_norm_block, KQ_ret_block, KQ_exit_block, KQ_exit_loop, KQ_ret_loop, O_nil, O_cons, O_guard', S_call, S_mv, SE_mv, SD_mv, S_pick, SE_pick, SD_pick, S_bin, SE_bin, SD_bin, S_eqb, SE_eqb, SD_eqb, S_eqv, SE_eqv, SD_eqv, S_eqnil, SE_eqnil, SD_eqnil, S_un, SE_un, SD_un, S_conv, SE_conv, SD_conv, S_mkfn, SE_mkfn, SD_mkfn, S_load, SE_load, SD_load, S_nilck, SE_nilck, SD_nilck, S_slS, SE_slS, SD_slS, S_slP, SE_slP, SD_slP, S_fldA, SE_fldA, SD_fldA, S_fld, SE_fld, SD_fld, S_ixS, SE_ixS, SD_ixS, S_ixP, SE_ixP, SD_ixP, S_ixV, SE_ixV, SD_ixV, S_ixStr, SE_ixStr, SD_ixStr, S_ext, SE_ext, SD_ext, S_len, SE_len, SD_len, S_lenStr, SE_lenStr, SD_lenStr, S_lenc, SE_lenc, SD_lenc, S_mn, SE_mn, SD_mn, S_mx, SE_mx, SD_mx, S_build, SE_build, SD_build, S_alloc, SD_alloc, S_box, SD_box, S_bslice, SD_bslice, S_mksl, SD_mksl, S_store, SD_store, S_append, SD_append, S_copy, SD_copy, S_clr, SD_clr, aq_some, aa_some, al_some, aqd_some, aad_some, ald_some, ape_some, D_done, D_both, D_early, D_earlyG', D_step, D_stepG', SE_call, SD_call, G_bool, GE_bool, GS_bool, icond_bool, IOpd.ev, Fr.get, Fr.put, Fr.putd, entryFr, pickA, binA, binI, isSh, shI, eqbA, eqvA, ints, ints_mI, Option.map_some, eqnilA, unA, convA, loadA, nilckA, intA, slSA, slPA, fldAA, fldVA, ixSA, ixPA, ixVA, ixStrA, extA, lenA, lenStrA, mnA, mxA, AVal.fits, fillA, fillOk, buildA, opa, srcA, appA, stoA, copA, clrA, rdFree, zeros, List.length_nil, List.length_cons, List.length_map, List.map_cons, List.map_nil, Option.map_some, Option.map_none, if_true, if_false, ite_true, ite_false, true_and, and_true, and_self, implies_true, forall_const, true_implies, Nat.reduceEqDiff, Nat.reduceAdd, Nat.reduceLT, Nat.reduceLeDiff, reduceIte, reduceCtorEq, Bool.false_eq_true, Bool.not_true, Bool.not_false, decide_eq_true_eq, decide_eq_false_iff_not, eq_self, List.getElem?_cons_zero, List.getElem?_cons_succ, List.getElem?_nil, List.set_cons_zero, List.set_cons_succ, List.nil_append, List.cons_append, List.append_nil, List.replicate_zero, List.replicate_succ, Nat.zero_add, false_implies, rng_lt, rng_end, rng_get, cells_I, cells_B, cells_sl, cut_one, Int.toNat_natCast, Int.natCast_nonneg, List.headD_cons, Int.lt_irrefl, not_false_eq_true, decide_false, decide_true, mI_length, mI_cells, mI_sz, mI_isCell, mI_mid, mI_append, mI_take, mI_drop, cells_val, cells_own, cells_agg, isCell_I, isCell_B, isCell_nil, isCell_sl, isCell_own, isCell_ptr, isCell_fn, isCell_rp, isCell_yld, cellsOk_I, cellsOk_B, cellsOk_nil, cellsOk_sl, cellsOk_own, cellsOk_ptr, cellsOk_fn, cellsOk_rp, cellsOk_yld, cellsOk_agg, cells_nil, cells_ptr, cells_fn, cells_rp, List.all_cons, List.all_nil, Bool.and_true, Nat.mul_one, Nat.zero_mul, Nat.one_mul, List.take_zero, List.take_nil, List.drop_nil, List.drop_zero, List.not_mem_nil, Nat.le_refl, Nat.zero_le, mS_length, mS_cells, mS_sz, mS_isCell, mS_mid, mS_append, mS_take, mS_drop, cells_sI, isCell_sI, cellsOk_sI, sI_eq, succ_le_self', List.take_succ_cons, List.drop_succ_cons, List.take_length, beq_self_eq_true, List.mem_cons, or_false, forall_eq, mI_put, mI_rep]
    simp only [Sp.isOrderGo] at hinv
    refine ⟨fun h1 => ⟨fun h2 => ?_, fun h2 => ⟨?_, ?_⟩⟩, fun h1 => ?_⟩
    · exact leaf (B _) rfl ⟨rfl, by simp only [Sp.isOrder, ← hinv, if_neg h1, if_pos h2]⟩
    · omega
    · refine round0 rfl ⟨(pre ++ [x], suf, Sp.orI seen (Sp.shl1 x)), by simp, by rw [← hinv, if_neg h1, if_neg h2]⟩ (by simp) rfl ?_
      simp [fle, vle, Fr.get, rng_idx' hl, mI_bnd, Sp.orI, Sp.shl1, IntKind.bits]
    · exact leaf (B _) rfl ⟨rfl, by simp only [Sp.isOrder, ← hinv, if_pos h1]⟩

theorem s48 (nn t : Bool) (xs : List Int) (hl : xs.length < 9223372036854775808) : Abs.Spec Try.prog 48 [.sl nn t (mI xs)] [] fun v H' => H' = [] ∧ v = B (Sp.isStrip xs) := by
  have e1 : decide ((xs.length : Int) ≥ 1) = decide (1 ≤ xs.length) := decide_eq_decide.2 (by omega)
  have e2 : decide ((xs.length : Int) ≤ 7) = decide (xs.length ≤ 7) := decide_eq_decide.2 (by omega)
  refine Abs.Spec.walk mixed fn48 nn48 t48 q48 nt48 (by simp) ?_
  simp only [w48, e1, e2, go_sem, Nat.reduceEqDiff, Nat.reduceAdd, Nat.reduceLT, Nat.reduceLeDiff, reduceIte, reduceCtorEq]
  refine G.split (fun h => ?_) fun h => ?_
  · simp only [e2, go_sem, Nat.reduceEqDiff, Nat.reduceAdd, Nat.reduceLT, Nat.reduceLeDiff, reduceIte, reduceCtorEq]
    refine G.split (fun h2 => ?_) fun h2 => ?_
    · simp only [go_sem, Nat.reduceEqDiff, Nat.reduceAdd, Nat.reduceLT, Nat.reduceLeDiff, reduceIte, reduceCtorEq]
      refine CallK.by (CallV.of_spec (s55 nn t xs xs.length hl)) fun v H' ⟨h1, h2⟩ => ?_
      subst h1 h2
      simp only [go_sem, Nat.reduceEqDiff, Nat.reduceAdd, Nat.reduceLT, Nat.reduceLeDiff, reduceIte, reduceCtorEq]
      exact leaf (B _) rfl ⟨rfl, by rw [Sp.isStrip, h, h2]; rfl⟩
    · simp only [go_sem, Nat.reduceEqDiff, Nat.reduceAdd, Nat.reduceLT, Nat.reduceLeDiff, reduceIte, reduceCtorEq]
      exact leaf (B _) rfl ⟨rfl, by rw [Sp.isStrip, h, h2]; rfl⟩
  · simp only [go_sem, Nat.reduceEqDiff, Nat.reduceAdd, Nat.reduceLT, Nat.reduceLeDiff, reduceIte, reduceCtorEq]
    exact leaf (B _) rfl ⟨rfl, by rw [Sp.isStrip, h]; rfl⟩
end Go.Proofs.Ythdjloegibenoaa
