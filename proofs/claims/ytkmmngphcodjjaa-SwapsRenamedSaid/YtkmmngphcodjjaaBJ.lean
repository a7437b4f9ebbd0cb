/- Contracts: copies of wishes, ranks, lies. -/
import Derived.Test.YtkmmngphcodjjaaBH
import Derived.Test.YtkmmngphcodjjaaCE
import Derived.Test.YtkmmngphcodjjaaPZ
namespace Go.Proofs.Ytkmmngphcodjjaa
open Go.Abs AVal
set_option linter.unusedSimpArgs false
attribute [local go_sem] W_skip W_keep KQ_canon canon Fr.norm W_seq W_block W_exit W_ret W_ops W_draw KQ_nil KQ_norm_seq KQ_exit_seq KQ_ret_seq KQ_norm_block KQ_ret_block KQ_exit_block KQ_exit_loop KQ_ret_loop O_nil O_cons S_call S_mv SE_mv SD_mv S_pick SE_pick SD_pick S_bin SE_bin SD_bin S_eqb SE_eqb SD_eqb S_eqv SE_eqv SD_eqv S_eqnil SE_eqnil SD_eqnil S_un SE_un SD_un S_conv SE_conv SD_conv S_mkfn SE_mkfn SD_mkfn S_load SE_load SD_load S_nilck SE_nilck SD_nilck S_slS SE_slS SD_slS S_slP SE_slP SD_slP S_fldA SE_fldA SD_fldA S_fld SE_fld SD_fld S_ixS SE_ixS SD_ixS S_ixP SE_ixP SD_ixP S_ixV SE_ixV SD_ixV S_ixStr SE_ixStr SD_ixStr S_ext SE_ext SD_ext S_len SE_len SD_len S_lenStr SE_lenStr SD_lenStr S_lenc SE_lenc SD_lenc S_mn SE_mn SD_mn S_mx SE_mx SD_mx S_build SE_build SD_build S_alloc SD_alloc S_box SD_box S_bslice SD_bslice S_mksl SD_mksl S_store SD_store S_append SD_append S_copy SD_copy S_clr SD_clr aq_some aa_some al_some aqd_some aad_some ald_some ape_some D_done D_both D_early D_step SE_call SD_call IOpd.ev Fr.get Fr.put Fr.putd entryFr pickA binA binI isSh shI eqbA eqvA ints ints_mI Option.map_some eqnilA unA convA loadA nilckA intA slSA slPA fldAA fldVA ixSA ixPA ixVA ixStrA extA lenA lenStrA mnA mxA AVal.fits fillA fillOk buildA opa srcA appA stoA copA clrA rdFree zeros List.length_nil List.length_cons List.length_map List.map_cons List.map_nil Option.map_some Option.map_none if_true if_false ite_true ite_false true_and and_true and_self implies_true forall_const true_implies Bool.false_eq_true Bool.not_true Bool.not_false decide_eq_true_eq decide_eq_false_iff_not eq_self List.getElem?_cons_zero List.getElem?_cons_succ List.getElem?_nil List.set_cons_zero List.set_cons_succ List.nil_append List.cons_append List.append_nil List.replicate_zero List.replicate_succ Nat.zero_add false_implies rng_lt rng_end rng_get cells_I cells_B cells_sl cut_one Int.toNat_natCast Int.natCast_nonneg List.headD_cons Int.lt_irrefl not_false_eq_true decide_false decide_true mI_length mI_cells mI_sz mI_isCell mI_mid mI_append mI_take mI_drop cells_val cells_own cells_agg isCell_I isCell_B isCell_nil isCell_sl isCell_own isCell_ptr isCell_fn isCell_rp isCell_yld cellsOk_I cellsOk_B cellsOk_nil cellsOk_sl cellsOk_own cellsOk_ptr cellsOk_fn cellsOk_rp cellsOk_yld cellsOk_agg cells_nil cells_ptr cells_fn cells_rp List.all_cons List.all_nil Bool.and_true Nat.mul_one Nat.zero_mul Nat.one_mul List.take_zero List.take_nil List.drop_nil List.drop_zero List.not_mem_nil Nat.le_refl Nat.zero_le mS_length mS_cells mS_sz mS_isCell mS_mid mS_append mS_take mS_drop cells_sI isCell_sI cellsOk_sI sI_eq succ_le_self' List.take_succ_cons List.drop_succ_cons List.take_length beq_self_eq_true List.mem_cons or_false forall_eq mI_put mI_rep O_guard' D_earlyG' D_stepG' W_cond' G_tt G_tf G_ft G_ff GE_tt GE_tf GE_ft GE_ff GS_tt GS_tf GS_ft GS_ff G_u GE_u GS_u IC_t IC_f xft xff xtt xtf z00 z20 z22 z02 zz tn0

theorem s60t (t : Bool) (w : List (List Int)) (hl : w.length ≤ 1000) :
    Abs.Spec Try.prog 60 [.sl true t (mS w)] [] fun v H' => v = .own 0 0 w.length w.length 1 ∧ H' = [.cells (mS w)] := by
  refine Abs.Spec.walk mixed fn60 nn60 t60 q60 nt60 (by simp) ?_
  by_cases h0 : w.length ≤ 0
  · have : w = [] := List.eq_nil_of_length_eq_zero (by omega)
    subst this
    simp only [w60, go_sem, Nat.reduceEqDiff, Nat.reduceAdd, Nat.reduceLT, Nat.reduceLeDiff, reduceIte, reduceCtorEq]
    exact leafO _ _ [some 0] (Wk.mk0 rfl (by simp [imgs, Blk.alive]) (by simp [hle, csle, mS_bnd]) (by simp [fle, vle, Fr.get])) ⟨rfl, rfl⟩
  · simp only [w60, h0, go_sem, Nat.reduceEqDiff, Nat.reduceAdd, Nat.reduceLT, Nat.reduceLeDiff, reduceIte, reduceCtorEq]
    refine ⟨by omega, ?_⟩
    exact leafO _ _ [some 1] (Wk.mk0 rfl (by simp [imgs, Blk.alive]) (by simp [hle, csle, mS_bnd]) (by simp [fle, vle, Fr.get])) ⟨rfl, rfl⟩

theorem s60 (t : Bool) (w : List (List Int)) (h1 : 1 ≤ w.length) (h6 : w.length ≤ 6) : Abs.Spec Try.prog 60 [.sl false t (mS w)] [] fun v H' => v = .own 0 0 w.length w.length 1 ∧ H' = [.cells (mS w)] :=
  Spec.split_nil (fun h => by have : w = [] := by simpa [mS] using h
                              subst this; simp at h1) (s60t t w (by omega))

theorem s61 (nn t : Bool) (w : List (List Int)) (i : Nat) (c : Int) (hi : i < w.length) (hl : (w.getD i []).length < 9223372036854775808) :
    Abs.Spec Try.prog 61 [.sl nn t (mS w), I i, I c] [] fun v H' => H' = [] ∧ v = I (Sp.pos w i c) := by
  refine Abs.Spec.walk mixed fn61 nn61 t61 q61 nt61 (by simp) ?_
  simp only [w61, mS_get, hi, go_sem, Nat.reduceEqDiff, Nat.reduceAdd, Nat.reduceLT, Nat.reduceLeDiff, reduceIte, reduceCtorEq]
  refine ⟨by omega, ?_⟩
  refine CallK.by (CallV.of_spec (s58 false false (w.getD i []) c hl)) fun v H' ⟨h1, h2⟩ => ?_
  subst h1 h2
  simp only [go_sem, Nat.reduceEqDiff, Nat.reduceAdd, Nat.reduceLT, Nat.reduceLeDiff, reduceIte, reduceCtorEq]
  exact leaf (I _) rfl ⟨rfl, rfl⟩

theorem s28 (nn t nn' t' : Bool) (w : List (List Int)) (d : List Int) (hw : ∀ l ∈ w, l.length < 9223372036854775808) (hl : w.length < 9223372036854775808) (hd : d.length < 9223372036854775808) :
    Abs.Spec Try.prog 28 [.sl nn t (mS w), .sl nn' t' (mI d)] [] fun v H' => H' = [] ∧ v = B (Sp.valid w && Sp.all d w.length) := by
  refine Abs.Spec.walk mixed fn28 nn28 t28 q28 nt28 (by simp) ?_
  simp only [w28, go_sem, Nat.reduceEqDiff, Nat.reduceAdd, Nat.reduceLT, Nat.reduceLeDiff, reduceIte, reduceCtorEq]
  refine CallK.by (CallV.of_spec (s18 nn t w hw hl)) fun v H' ⟨h1, h2⟩ => ?_
  subst h1 h2
  rw [Sp.wishes_valid]
  simp only [go_sem, Nat.reduceEqDiff, Nat.reduceAdd, Nat.reduceLT, Nat.reduceLeDiff, reduceIte, reduceCtorEq]
  refine G.split (fun hv => ?_) fun hv => ?_
  · simp only [go_sem, Nat.reduceEqDiff, Nat.reduceAdd, Nat.reduceLT, Nat.reduceLeDiff, reduceIte, reduceCtorEq]
    refine CallK.by (CallV.of_spec (s23 nn' t' d _ hd)) fun v H' ⟨h1, h2⟩ => ?_
    subst h1 h2
    simp only [go_sem, Nat.reduceEqDiff, Nat.reduceAdd, Nat.reduceLT, Nat.reduceLeDiff, reduceIte, reduceCtorEq]
    exact leaf (B _) rfl ⟨rfl, by rw [hv]; rfl⟩
  · simp only [go_sem, Nat.reduceEqDiff, Nat.reduceAdd, Nat.reduceLT, Nat.reduceLeDiff, reduceIte, reduceCtorEq]
    exact leaf (B _) rfl ⟨rfl, by rw [hv]; rfl⟩
end Go.Proofs.Ytkmmngphcodjjaa
