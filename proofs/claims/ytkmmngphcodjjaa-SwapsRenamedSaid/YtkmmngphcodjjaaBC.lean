/- Contracts: valid wishes, the best card. -/
import Derived.Test.YtkmmngphcodjjaaBB
namespace Go.Proofs.Ytkmmngphcodjjaa
open Go.Abs AVal
set_option linter.unusedSimpArgs false
attribute [local go_sem] W_skip W_keep KQ_canon canon Fr.norm W_seq W_block W_cond W_exit W_ret W_ops W_draw KQ_nil KQ_norm_seq KQ_exit_seq KQ_ret_seq KQ_norm_block KQ_ret_block KQ_exit_block KQ_exit_loop KQ_ret_loop O_nil O_cons O_guard' S_call S_mv SE_mv SD_mv S_pick SE_pick SD_pick S_bin SE_bin SD_bin S_eqb SE_eqb SD_eqb S_eqv SE_eqv SD_eqv S_eqnil SE_eqnil SD_eqnil S_un SE_un SD_un S_conv SE_conv SD_conv S_mkfn SE_mkfn SD_mkfn S_load SE_load SD_load S_nilck SE_nilck SD_nilck S_slS SE_slS SD_slS S_slP SE_slP SD_slP S_fldA SE_fldA SD_fldA S_fld SE_fld SD_fld S_ixS SE_ixS SD_ixS S_ixP SE_ixP SD_ixP S_ixV SE_ixV SD_ixV S_ixStr SE_ixStr SD_ixStr S_ext SE_ext SD_ext S_len SE_len SD_len S_lenStr SE_lenStr SD_lenStr S_lenc SE_lenc SD_lenc S_mn SE_mn SD_mn S_mx SE_mx SD_mx S_build SE_build SD_build S_alloc SD_alloc S_box SD_box S_bslice SD_bslice S_mksl SD_mksl S_store SD_store S_append SD_append S_copy SD_copy S_clr SD_clr aq_some aa_some al_some aqd_some aad_some ald_some ape_some D_done D_both D_early D_earlyG' D_step D_stepG' SE_call SD_call G_bool GE_bool GS_bool icond_bool IOpd.ev Fr.get Fr.put Fr.putd entryFr pickA binA binI isSh shI eqbA eqvA ints ints_mI Option.map_some eqnilA unA convA loadA nilckA intA slSA slPA fldAA fldVA ixSA ixPA ixVA ixStrA extA lenA lenStrA mnA mxA AVal.fits fillA fillOk buildA opa srcA appA stoA copA clrA rdFree zeros List.length_nil List.length_cons List.length_map List.map_cons List.map_nil Option.map_some Option.map_none if_true if_false ite_true ite_false true_and and_true and_self implies_true forall_const true_implies Bool.false_eq_true Bool.not_true Bool.not_false decide_eq_true_eq decide_eq_false_iff_not eq_self List.getElem?_cons_zero List.getElem?_cons_succ List.getElem?_nil List.set_cons_zero List.set_cons_succ List.nil_append List.cons_append List.append_nil List.replicate_zero List.replicate_succ Nat.zero_add false_implies rng_lt rng_end rng_get cells_I cells_B cells_sl cut_one Int.toNat_natCast Int.natCast_nonneg List.headD_cons Int.lt_irrefl not_false_eq_true decide_false decide_true mI_length mI_cells mI_sz mI_isCell mI_mid mI_append mI_take mI_drop cells_val cells_own cells_agg isCell_I isCell_B isCell_nil isCell_sl isCell_own isCell_ptr isCell_fn isCell_rp isCell_yld cellsOk_I cellsOk_B cellsOk_nil cellsOk_sl cellsOk_own cellsOk_ptr cellsOk_fn cellsOk_rp cellsOk_yld cellsOk_agg cells_nil cells_ptr cells_fn cells_rp List.all_cons List.all_nil Bool.and_true Nat.mul_one Nat.zero_mul Nat.one_mul List.take_zero List.take_nil List.drop_nil List.drop_zero List.not_mem_nil Nat.le_refl Nat.zero_le mS_length mS_cells mS_sz mS_isCell mS_mid mS_append mS_take mS_drop cells_sI isCell_sI cellsOk_sI sI_eq succ_le_self' List.take_succ_cons List.drop_succ_cons List.take_length beq_self_eq_true List.mem_cons or_false forall_eq mI_put mI_rep

theorem s80 (nn t : Bool) (l : List Int) (w : List (List Int)) (hl : l.length < 9223372036854775808) : Abs.Spec Try.prog 80 [sI l, .rp [.sl nn t (mS w)]] [] fun v H' => v = B (!Sp.isOrder l w.length) ∧ H' = [] := by
  refine Abs.Spec.walk mixed fn80 nn80 t80 q80 nt80 (by simp) ?_
  simp only [w80, go_sem, Nat.reduceEqDiff, Nat.reduceAdd, Nat.reduceLT, Nat.reduceLeDiff, reduceIte, reduceCtorEq]
  refine CallK.by (CallV.of_spec (s59 false false l w.length hl)) fun v H' ⟨h1, h2⟩ => ?_
  subst h1 h2
  simp only [go_sem, Nat.reduceEqDiff, Nat.reduceAdd, Nat.reduceLT, Nat.reduceLeDiff, reduceIte, reduceCtorEq]
  exact leaf (B _) rfl ⟨rfl, rfl⟩

theorem s55 (nn t : Bool) (w : List (List Int)) (hw : ∀ l ∈ w, l.length < 9223372036854775808) (hl : w.length < 9223372036854775808) : Abs.Spec Try.prog 55 [.sl nn t (mS w)] [] fun v H' => H' = [] ∧ v = B (Sp.valid w) := by
  refine Abs.Spec.walk mixed fn55 nn55 t55 q55 nt55 (by simp) ?_
  simp only [w55, go_sem, Nat.reduceEqDiff, Nat.reduceAdd, Nat.reduceLT, Nat.reduceLeDiff, reduceIte, reduceCtorEq]
  refine ⟨fun h1 => ⟨fun h2 => ?_, fun h2 => ?_⟩, fun h1 => ?_⟩
  · refine CallK.pure (CallV.of_spec (Spec.lend (args' := [.sl nn t (mS w), .fn (.func 80) [] [.rp [.sl nn t (mS w)]]]) (s79 nn t w _ (fun l => !Sp.isOrder l w.length) (fun l hm => CallV.of_spec (s80 nn t l w (hw l hm))) (fun H => by simp [vle, vle.vleL, bndL, AVal.bnd, mS_bnd]) hl) rfl (by simp [vle, vle.vleL, bndL, AVal.bnd, mS_bnd]))) ?_
    simp only [go_sem, Nat.reduceEqDiff, Nat.reduceAdd, Nat.reduceLT, Nat.reduceLeDiff, reduceIte, reduceCtorEq]
    exact leaf (B _) rfl ⟨rfl, by rw [Sp.valid, if_pos ⟨by omega, by omega⟩]⟩
  · exact leaf (B _) rfl ⟨rfl, by rw [Sp.valid, if_neg (by omega)]⟩
  · exact leaf (B _) rfl ⟨rfl, by rw [Sp.valid, if_neg (by omega)]⟩

theorem s91 (c set : Int) (hc : 0 ≤ c) : Abs.Spec Try.prog 91 [I c, .rp [I set]] [] fun v H' => v = B (Sp.bitAt set c == 1) ∧ H' = [] := by
  refine Abs.Spec.walk mixed fn91 nn91 t91 q91 nt91 (by simp) ?_
  simp only [w91, go_sem, Nat.reduceEqDiff, Nat.reduceAdd, Nat.reduceLT, Nat.reduceLeDiff, reduceIte, reduceCtorEq]
  refine ⟨hc, ?_⟩
  exact leaf (B _) rfl ⟨rfl, rfl⟩

theorem s81 (nn t : Bool) (w : List (List Int)) (i : Nat) (set : Int) (hi : i < w.length) (hc : ∀ c ∈ w.getD i [], 0 ≤ c) (hl : (w.getD i []).length < 9223372036854775808) (hb : ∃ c ∈ w.getD i [], (Sp.bitAt set c == 1) = true) :
    Abs.Spec Try.prog 81 [.sl nn t (mS w), I i, I set] [] fun v H' => H' = [] ∧ v = I (Sp.bestAt w i set) := by
  refine Abs.Spec.walk mixed fn81 nn81 t81 q81 nt81 (by simp) ?_
  simp only [w81, mS_get, hi, go_sem, Nat.reduceEqDiff, Nat.reduceAdd, Nat.reduceLT, Nat.reduceLeDiff, reduceIte, reduceCtorEq]
  refine ⟨by omega, ?_⟩
  refine CallK.pure (CallV.of_spec (Spec.lend (args' := [.sl false false (mI (w.getD i [])), .fn (.func 91) [] [.rp [I set]]]) (s90 false false (w.getD i []) _ (fun c => Sp.bitAt set c == 1) (fun c hm => CallV.of_spec (s91 c set (hc c hm))) (fun H => by simp [vle, vle.vleL, bndL, AVal.bnd]) hl) rfl (by simp [vle, vle.vleL, bndL, AVal.bnd, mI_bnd]))) ?_
  have h1 := Sp.idx_pos hb
  have h2 := Sp.idx_lt (fun c => Sp.bitAt set c == 1) (w.getD i [])
  have h3 : (Sp.idx (fun c => Sp.bitAt set c == 1) (w.getD i [])).toNat < (w.getD i []).length := by omega
  simp only [mS_get, hi, mI_get, h3, go_sem, Nat.reduceEqDiff, Nat.reduceAdd, Nat.reduceLT, Nat.reduceLeDiff, reduceIte, reduceCtorEq]
  refine ⟨by omega, ⟨h1, h2.2⟩, ?_⟩
  exact leaf (I _) rfl ⟨rfl, rfl⟩
end Go.Proofs.Ytkmmngphcodjjaa
