/- Contracts: lists and tables,cut. -/
import Derived.Test.YtipfjfmdjmaflaaKA
import Derived.Test.YtipfjfmdjmaflaaKL
namespace Go.Proofs.Ytipfjfmdjmaflaa
open Go.Abs AVal
set_option linter.unusedSimpArgs false
attribute [local go_sem] W_skip W_keep KQ_canon canon Fr.norm W_seq W_block W_scope W_cond W_exit W_ret W_ops W_draw KQ_nil KQ_norm_seq KQ_exit_seq KQ_ret_seq KQ_norm_block KQ_ret_block KQ_exit_block KQ_exit_loop KQ_ret_loop O_nil O_cons O_guard' S_call S_mv SE_mv SD_mv S_pick SE_pick SD_pick S_bin SE_bin SD_bin S_eqb SE_eqb SD_eqb S_eqv SE_eqv SD_eqv S_eqnil SE_eqnil SD_eqnil S_un SE_un SD_un S_conv SE_conv SD_conv S_mkfn SE_mkfn SD_mkfn S_load SE_load SD_load S_nilck SE_nilck SD_nilck S_slS SE_slS SD_slS S_slP SE_slP SD_slP S_fldA SE_fldA SD_fldA S_fld SE_fld SD_fld S_ixS SE_ixS SD_ixS S_ixP SE_ixP SD_ixP S_ixV SE_ixV SD_ixV S_ixStr SE_ixStr SD_ixStr S_ext SE_ext SD_ext S_len SE_len SD_len S_lenStr SE_lenStr SD_lenStr S_lenc SE_lenc SD_lenc S_mn SE_mn SD_mn S_mx SE_mx SD_mx S_build SE_build SD_build S_alloc SD_alloc S_box SD_box S_bslice SD_bslice S_mksl SD_mksl S_store SD_store S_append SD_append S_copy SD_copy S_clr SD_clr S_mlen SE_mlen SD_mlen S_mget SE_mget SD_mget S_mval SE_mval SD_mval S_mentry SE_mentry SD_mentry S_mkmap SD_mkmap S_mset SD_mset S_mrange SD_mrange S_mnext mlenA mgetA mvalA mentryA msetA mrangeA cells_mp isCell_mp cellsOk_mp aq_some aa_some al_some alA_some aqd_some aad_some ald_some ape_some D_done D_both D_early D_earlyG' D_step D_stepG' SE_call SD_call G_bool GE_bool GS_bool icond_bool IOpd.ev Fr.get Fr.put Fr.putd entryFr pickA binA binI isSh shI eqbA eqvA ints ints_mI Option.map_some eqnilA unA convA loadA nilckA intA slSA slPA fldAA fldVA ixSA ixPA ixVA ixStrA extA lenA lenStrA mnA mxA AVal.fits fillA fillOk buildA opa srcA appA stoA copA clrA rdFree zeros List.length_nil List.length_cons List.length_map List.map_cons List.map_nil Option.map_some Option.map_none if_true if_false ite_true ite_false true_and and_true and_self implies_true forall_const true_implies Bool.false_eq_true Bool.not_true Bool.not_false decide_eq_true_eq decide_eq_false_iff_not eq_self List.getElem?_cons_zero List.getElem?_cons_succ List.getElem?_nil List.set_cons_zero List.set_cons_succ List.nil_append List.cons_append List.append_nil List.replicate_zero List.replicate_succ Nat.zero_add false_implies rng_lt rng_end rng_get cells_I cells_B cells_sl cut_one Int.toNat_natCast Int.natCast_nonneg List.headD_cons Int.lt_irrefl not_false_eq_true decide_false decide_true mI_length mI_cells mI_sz mI_isCell mI_mid mI_append mI_take mI_drop cells_val cells_own cells_agg isCell_I isCell_B isCell_nil isCell_sl isCell_own isCell_ptr isCell_fn isCell_rp isCell_yld cellsOk_I cellsOk_B cellsOk_nil cellsOk_sl cellsOk_own cellsOk_ptr cellsOk_fn cellsOk_rp cellsOk_yld cellsOk_agg cells_nil cells_ptr cells_fn cells_rp List.all_cons List.all_nil Bool.and_true Nat.mul_one Nat.zero_mul Nat.one_mul List.take_zero List.take_nil List.drop_nil List.drop_zero List.not_mem_nil Nat.le_refl Nat.zero_le mS_length mS_cells mS_sz mS_isCell mS_mid mS_append mS_take mS_drop cells_sI isCell_sI cellsOk_sI sI_eq succ_le_self' List.take_succ_cons List.drop_succ_cons List.take_length beq_self_eq_true List.mem_cons or_false forall_eq mI_put mI_rep
theorem s38nil : Abs.Spec Try.prog 38 [nilSl] [] fun v H' => H' = [] ∧ v = .sl false false (mI []) := by
  refine Abs.Spec.walk mixed fn38 nn38 t38 q38 nt38 (by simp) ?_
  simp only [w38,go_sem,Nat.reduceEqDiff,Nat.reduceAdd,Nat.reduceLT,Nat.reduceLeDiff,reduceIte,reduceCtorEq]
  exact leaf (.sl false false (mI [])) ⟨rfl,rfl,rfl⟩ ⟨rfl,rfl⟩
theorem s38 (t : Bool) (xs : List Int) (hl : xs.length ≤ 137388953472) : Abs.Spec Try.prog 38 [.sl true t (mI xs)] [] fun v H' => H' = [] ∧ v = .sl false false (mI xs) := by
  refine Abs.Spec.walk mixed fn38 nn38 t38 q38 nt38 (by simp) ?_
  by_cases h0 : xs.length ≤ 0
  · have : xs = [] := List.eq_nil_of_length_eq_zero (by omega)
    subst this
    simp only [w38,go_sem,Nat.reduceEqDiff,Nat.reduceAdd,Nat.reduceLT,Nat.reduceLeDiff,reduceIte,reduceCtorEq]
    exact leaf (.sl false false (mI [])) (vle_mI (cs := []) rfl (by simp) rfl rfl) ⟨rfl,rfl⟩
  · simp only [w38,h0,go_sem,Nat.reduceEqDiff,Nat.reduceAdd,Nat.reduceLT,Nat.reduceLeDiff,reduceIte,reduceCtorEq]
    refine ⟨?_,?_⟩
    · simp; omega
    · exact leaf (.sl false false (mI xs)) (vle_mI rfl (by simp) rfl take_mI) ⟨rfl,rfl⟩
theorem s38' (nn t : Bool) (xs : List Int) (hl : xs.length ≤ 137388953472) : Abs.Spec Try.prog 38 [.sl nn t (mI xs)] [] fun v H' => H' = [] ∧ v = .sl false false (mI xs) := by
  cases nn with
  | true => exact s38 t xs hl
  | false => exact Spec.split_nil (fun h => by have : xs = [] := by simpa [mI] using h
                                               subst this; exact s38nil) (s38 t xs hl)
theorem s19 (nn t : Bool) (xs : List Int) (hl : xs.length < 9223372036854775808) : Abs.Spec Try.prog 19 [.sl nn t (mI xs)] [] fun v H' => H' = [] ∧ v = .sl false false (mI (xs.take 6)) := by
  refine Abs.Spec.walk mixed fn19 nn19 t19 q19 nt19 (by simp) ?_
  simp only [w19,go_sem,Nat.reduceEqDiff,Nat.reduceAdd,Nat.reduceLT,Nat.reduceLeDiff,reduceIte,reduceCtorEq]
  have e : List.drop (Int.toNat 0) (List.take (if (6 : Int) < xs.length then (6 : Int) else xs.length).toNat xs) = xs.take 6 := by
    split
    · rfl
    · show List.drop 0 _ = _
      rw [List.drop_zero,Int.toNat_natCast,List.take_length,List.take_of_length_le (by omega)]
  rw [e]
  refine ⟨⟨Int.le_refl _,?_,?_⟩,?_⟩
  · split <;> omega
  · split <;> omega
  · refine CallK.by (CallV.of_spec (s38' nn false (xs.take 6) (by simp; omega))) fun v H' ⟨h1,h2⟩ => ?_
    subst h1 h2
    simp only [go_sem,Nat.reduceEqDiff,Nat.reduceAdd,Nat.reduceLT,Nat.reduceLeDiff,reduceIte,reduceCtorEq]
    exact leaf (.sl false false (mI (xs.take 6))) (by simp [vle,Fr.get,mI_bnd]) ⟨rfl,rfl⟩
theorem s18 (nn t : Bool) (w : List (List Int)) (hw : ∀ l ∈ w,l.length < 9223372036854775808) (hl : w.length < 9223372036854775808) : Abs.Spec Try.prog 18 [.sl nn t (mS w)] [] fun v H' => H' = [] ∧ v = .sl false false (mS (Sp.table6 w)) := by
  refine Abs.Spec.walk mixed fn18 nn18 t18 q18 nt18 (by simp) ?_
  simp only [w18,go_sem,Nat.reduceEqDiff,Nat.reduceAdd,Nat.reduceLT,Nat.reduceLeDiff,reduceIte,reduceCtorEq]
  refine W_loop (fun q : { q : List (List Int) × List (List Int) // q.1 ++ q.2 = w } => ([(3,own 0 0 (Sp.table6 q.1.1).length (Sp.table6 q.1.1).length 1),(6,sl nn t (mS w)),(7,I w.length),(8,I q.1.1.length)],[.cells (mS (Sp.table6 q.1.1))])) (fun q => q.1.2.length) ⟨([],w),rfl⟩ [none] (Wk.mk0 rfl (by simp [imgs,Blk.alive]) (by simp [hle,Sp.table6,mS]) (by simp [fle,vle,Fr.get,mS_bnd,Sp.table6])) ?_
  rintro ⟨⟨pre,suf⟩,hp⟩
  dsimp only at hp
  subst hp
  cases suf with
  | nil =>
    simp only [w18L0,w18T1,go_sem,Nat.reduceEqDiff,Nat.reduceAdd,Nat.reduceLT,Nat.reduceLeDiff,reduceIte,reduceCtorEq]
    exact leaf _ (vle_mS rfl (by simp) rfl take_mS) ⟨rfl,rfl⟩
  | cons x suf =>
    simp only [w18L0,w18T1,go_sem,Nat.reduceEqDiff,Nat.reduceAdd,Nat.reduceLT,Nat.reduceLeDiff,reduceIte,reduceCtorEq]
    refine ⟨fun h => ?_,fun h => ?_⟩
    · refine CallK.pure (CallV.of_spec (Spec.lift (s19 false false x (hw x (by simp))) (by simp [bndL,AVal.bnd,mI_bnd]) (by simp [AVal.bnd,mI_bnd]) _)) ?_
      simp only [go_sem,Nat.reduceEqDiff,Nat.reduceAdd,Nat.reduceLT,Nat.reduceLeDiff,reduceIte,reduceCtorEq]
      have e : Sp.table6 (pre ++ [x]) = Sp.table6 pre ++ [x.take 6] := by
        simp only [Sp.table6]
        rw [List.take_append,List.take_of_length_le (by omega)]
        have : ∃ k,250 - pre.length = k + 1 := ⟨249 - pre.length,by omega⟩
        obtain ⟨k,hk⟩ := this
        rw [hk]; simp
      have hlt : (Sp.table6 pre).length ≤ 250 := by simp [Sp.table6]; omega
      refine ⟨by omega,?_⟩
      refine round1 rfl ⟨(pre ++ [x],suf),by simp⟩ [some 2] (by simp) (Wk.mk0 rfl (by simp [imgs,Blk.alive]) (by simp [hle,csle,e,mS_bnd,mS_one,mS_append]) (by simp [fle,vle,Fr.get,mS_bnd,e,rng_idx' hl]))
    · have e : Sp.table6 (pre ++ [x]) = Sp.table6 pre := by
        simp only [Sp.table6]
        rw [List.take_append_of_le_length (by omega)]
      refine round1 rfl ⟨(pre ++ [x],suf),by simp⟩ [some 0] (by simp) (Wk.mk0 rfl (by simp [imgs,Blk.alive]) (by simp [hle,csle,e,mS_bnd]) (by simp [fle,vle,Fr.get,mS_bnd,e,rng_idx' hl]))
theorem s22 (nn t nn' t' : Bool) (xs ys : List Int) (hl : xs.length < 9223372036854775808) : Abs.Spec Try.prog 22 [.sl nn t (mI xs),.sl nn' t' (mI ys)] [] fun v H' => H' = [] ∧ v = B (xs == ys) := by
  refine Abs.Spec.walk mixed fn22 nn22 t22 q22 nt22 (by simp) ?_
  simp only [w22,go_sem,Nat.reduceEqDiff,Nat.reduceAdd,Nat.reduceLT,Nat.reduceLeDiff,reduceIte,reduceCtorEq]
  refine ⟨fun h => ?_,fun h => ?_⟩
  · exact leaf (B _) rfl ⟨rfl,by congr 1; simp at h; symm; simp; rintro rfl; exact h rfl⟩
  have hlen : xs.length = ys.length := by simp at h; omega
  refine W_loop (fun q : { q : List Int × List Int × List Int // q.1 ++ q.2.1 = xs ∧ q.1 ++ q.2.2 = ys } => ([(0,sl nn t (mI xs)),(1,sl nn' t' (mI ys)),(12,I xs.length),(13,I q.1.1.length)],[])) (fun q => q.1.2.1.length) ⟨([],xs,ys),rfl,rfl⟩ [] (Wk.nil (by simp [fle,vle,Fr.get,mI_bnd])) ?_
  rintro ⟨⟨pre,suf,suf'⟩,hp,hp'⟩
  dsimp only at hp hp'
  subst hp hp'
  simp only [List.length_append] at hlen
  cases suf with
  | nil =>
    cases suf' with
    | cons y suf' => simp at hlen
    | nil =>
    simp only [w22L0,w22T1,go_sem,Nat.reduceEqDiff,Nat.reduceAdd,Nat.reduceLT,Nat.reduceLeDiff,reduceIte,reduceCtorEq]
    exact leaf (B _) rfl ⟨rfl,by simp⟩
  | cons x suf =>
    cases suf' with
    | nil => simp at hlen
    | cons y suf' =>
    simp only [w22L0,w22T1,go_sem,Nat.reduceEqDiff,Nat.reduceAdd,Nat.reduceLT,Nat.reduceLeDiff,reduceIte,reduceCtorEq]
    refine ⟨fun h1 => ?_,fun h1 => ?_⟩
    · exact leaf (B _) rfl ⟨rfl,by congr 1; symm; simpa using fun e => absurd e (by simpa using h1)⟩
    · refine round0 rfl ⟨(pre ++ [x],suf,suf'),by simp,by simp at h1; simp [h1]⟩ (by simp) rfl ?_
      simp [fle,vle,Fr.get,rng_idx' hl,mI_bnd]
theorem gd_mem' {L : List (List Int)} {i : Nat} (h : i < L.length) : L.getD i [] ∈ L := by
  rw [List.getD_eq_getElem?_getD,List.getElem?_eq_getElem h]; exact List.getElem_mem _
end Go.Proofs.Ytipfjfmdjmaflaa
