/- Contracts: adding vectors. -/
import Derived.Test.YtlonaefihjdkpaaTM6
import Derived.Test.YtlonaefihjdkpaaTLZ
namespace Go.Proofs.Ytlonaefihjdkpaa
open Go.Abs AVal
set_option linter.unusedSimpArgs false
attribute [local go_sem] W_skip W_keep KQ_canon canon Fr.norm W_seq W_block W_scope W_exit W_ret W_ops W_draw KQ_nil KQ_norm_seq KQ_exit_seq KQ_ret_seq KQ_norm_block KQ_ret_block KQ_exit_block KQ_exit_loop KQ_ret_loop O_nil O_cons S_call S_mv SE_mv SD_mv S_pick SE_pick SD_pick S_bin SE_bin SD_bin S_eqb SE_eqb SD_eqb S_eqv SE_eqv SD_eqv S_eqnil SE_eqnil SD_eqnil S_un SE_un SD_un S_conv SE_conv SD_conv S_mkfn SE_mkfn SD_mkfn S_load SE_load SD_load S_nilck SE_nilck SD_nilck S_slS SE_slS SD_slS S_slP SE_slP SD_slP S_fldA SE_fldA SD_fldA S_fld SE_fld SD_fld S_ixS SE_ixS SD_ixS S_ixP SE_ixP SD_ixP S_ixV SE_ixV SD_ixV S_ixStr SE_ixStr SD_ixStr S_ext SE_ext SD_ext S_len SE_len SD_len S_lenStr SE_lenStr SD_lenStr S_lenc SE_lenc SD_lenc S_mn SE_mn SD_mn S_mx SE_mx SD_mx S_build SE_build SD_build S_alloc SD_alloc S_box SD_box S_bslice SD_bslice S_mksl SD_mksl S_store SD_store S_append SD_append S_copy SD_copy S_clr SD_clr S_mlen SE_mlen SD_mlen S_mget SE_mget SD_mget S_mval SE_mval SD_mval S_mentry SE_mentry SD_mentry S_mkmap SD_mkmap S_mset SD_mset S_mrange SD_mrange S_mnext mlenA mgetA mvalA mentryA msetA mrangeA cells_mp isCell_mp cellsOk_mp aq_some aa_some al_some alA_some aqd_some aad_some ald_some ape_some D_done D_both D_early D_step SE_call SD_call IOpd.ev Fr.get Fr.put Fr.putd entryFr pickA binA binI isSh shI eqbA eqvA ints ints_mI Option.map_some eqnilA unA convA loadA nilckA intA slSA slPA fldAA fldVA ixSA ixPA ixVA ixStrA extA lenA lenStrA mnA mxA AVal.fits fillA fillOk buildA opa srcA appA stoA copA clrA rdFree zeros List.length_nil List.length_cons List.length_map List.map_cons List.map_nil Option.map_some Option.map_none if_true if_false ite_true ite_false true_and and_true and_self implies_true forall_const true_implies Bool.false_eq_true Bool.not_true Bool.not_false decide_eq_true_eq decide_eq_false_iff_not eq_self List.getElem?_cons_zero List.getElem?_cons_succ List.getElem?_nil List.set_cons_zero List.set_cons_succ List.nil_append List.cons_append List.append_nil List.replicate_zero List.replicate_succ Nat.zero_add false_implies rng_lt rng_end rng_get cells_I cells_B cells_sl cut_one Int.toNat_natCast Int.natCast_nonneg List.headD_cons Int.lt_irrefl not_false_eq_true decide_false decide_true mI_length mI_cells mI_sz mI_isCell mI_mid mI_append mI_take mI_drop cells_val cells_own cells_agg isCell_I isCell_B isCell_nil isCell_sl isCell_own isCell_ptr isCell_fn isCell_rp isCell_yld cellsOk_I cellsOk_B cellsOk_nil cellsOk_sl cellsOk_own cellsOk_ptr cellsOk_fn cellsOk_rp cellsOk_yld cellsOk_agg cells_nil cells_ptr cells_fn cells_rp List.all_cons List.all_nil Bool.and_true Nat.mul_one Nat.zero_mul Nat.one_mul List.take_zero List.take_nil List.drop_nil List.drop_zero List.not_mem_nil Nat.le_refl Nat.zero_le mS_length mS_cells mS_sz mS_isCell mS_mid mS_append mS_take mS_drop cells_sI isCell_sI cellsOk_sI sI_eq succ_le_self' List.take_succ_cons List.drop_succ_cons List.take_length beq_self_eq_true List.mem_cons or_false forall_eq mI_put mI_rep O_guard' D_earlyG' D_stepG' W_cond' G_tt G_tf G_ft G_ff GE_tt GE_tf GE_ft GE_ff GS_tt GS_tf GS_ft GS_ff G_u GE_u GS_u IC_t IC_f xft xff xtt xtf z00 z20 z22 z02 zz tn0
theorem mI_hd0 {l : List Int} {i : Nat} (h : i < l.length) : (mI (l.drop i)).headD any = I (l.getD i 0) := by
  rw [List.drop_eq_getElem_cons h,List.getD_eq_getElem?_getD,List.getElem?_eq_getElem h]; rfl
theorem mI_pt0 {l : List Int} {i : Nat} (h : i < l.length) (v : Int) : mI (l.take i) ++ [I v] ++ mI (l.drop (i + 1)) = mI (l.set i v) := by
  rw [List.set_eq_take_append_cons_drop,if_pos h]; simp [mI]
def plusV (k : Int) (x y : List Int) : List Int := List.zipWith (fun a b => a + k * b) x y
theorem plusV_len {k : Int} {x y : List Int} (hx : x.length = 4) (hy : y.length = 4) : (plusV k x y).length = 4 := by simp [plusV,hx,hy]
theorem plusV_get {k : Int} {x y : List Int} (hx : x.length = 4) (hy : y.length = 4) (i : Nat) : (plusV k x y).getD i 0 = x.getD i 0 + k * y.getD i 0 := by
  unfold plusV
  rw [List.getD_eq_getElem?_getD,List.getD_eq_getElem?_getD,List.getD_eq_getElem?_getD]
  by_cases hi : i < 4
  · rw [List.getElem?_eq_getElem (by simp; omega),List.getElem?_eq_getElem (by omega),List.getElem?_eq_getElem (by omega),List.getElem_zipWith]; rfl
  · rw [List.getElem?_eq_none (by simp; omega),List.getElem?_eq_none (by omega),List.getElem?_eq_none (by omega)]; simp
theorem s118 (x y : List Int) (k : Int) (hx : x.length = 4) (hy : y.length = 4) (hk : k = 1 ∨ k = -1) (bx : Sp.inB 100000 x) (by' : Sp.inB 100000 y) : Abs.Spec Try.prog 118 [vec x,I k,vec y] [] fun v H' => H' = [] ∧ v = vec (plusV k x y) := by
  refine Abs.Spec.walk mixed fn118 nn118 t118 q118 nt118 (by simp) ?_
  have hxl : (mI x).length = 4 := by rw [mI_length,hx]
  have hyl : (mI y).length = 4 := by rw [mI_length,hy]
  obtain ⟨P,hP⟩ : ∃ P,plusV k x y = P := ⟨_,rfl⟩
  have pl : P.length = 4 := by rw [← hP]; exact plusV_len hx hy
  simp only [w118,vec_eq,hxl,hyl,go_sem,Nat.reduceEqDiff,Nat.reduceAdd,Nat.reduceLT,Nat.reduceLeDiff,reduceIte,reduceCtorEq]
  refine ⟨allI_cell x,allI_cell y,?_⟩
  have z4e : [I 0,I 0,I 0,I 0] = mI [0,0,0,0] := rfl
  rw [z4e]
  refine W_loop (fun p : { i : Nat // i ≤ 4 } => ([(1,I k),(3,ptr 0 0),(5,ptr 1 0),(6,ptr 2 0),(8,I p.1)],[.cells (mI (P.take p.1 ++ x.drop p.1)),.cells (mI y),.cells (mI [0,0,0,0])])) (fun p => 4 - p.1) ⟨0,by omega⟩ [some 0,some 1,some 2] (Wk.mk0 rfl (by simp [imgs,Blk.alive]) (by simp [hle,csle,mI_bnd]) (by simp [fle,vle,Fr.get])) ?_
  rintro ⟨i,hin⟩
  dsimp only
  have ml : (P.take i ++ x.drop i).length = 4 := by rw [List.length_append,List.length_take,List.length_drop]; omega
  by_cases hi : i < 4
  · have d1 : (i : Int) < 4 := by omega
    have qi : (P.take i ++ x.drop i).getD i 0 = x.getD i 0 := by
      rw [List.getD_eq_getElem?_getD,List.getElem?_append_right (by rw [List.length_take]; omega),List.length_take,List.getElem?_drop,show i + (i - min i P.length) = i by omega,← List.getD_eq_getElem?_getD]
    have qs : (P.take i ++ x.drop i).set i (P.getD i 0) = P.take (i + 1) ++ x.drop (i + 1) := by
      rw [List.set_append_right _ _ (by rw [List.length_take]; omega),List.length_take,show i - min i P.length = 0 by omega,List.drop_eq_getElem_cons (show i < x.length by omega),List.set_cons_zero,List.getD_eq_getElem?_getD,List.getElem?_eq_getElem (show i < P.length by omega),List.take_add_one,List.getElem?_eq_getElem (show i < P.length by omega)]
      simp only [Nat.sub_self,List.append_assoc,Option.toList,Option.getD_some,List.cons_append,List.nil_append]
    have xi := Sp.inB_getD bx i
    have yi := Sp.inB_getD by' i
    have pe : P.getD i 0 = x.getD i 0 + k * y.getD i 0 := by rw [← hP]; exact plusV_get hx hy i
    have ky : k * y.getD i 0 = y.getD i 0 ∨ k * y.getD i 0 = -(y.getD i 0) := by rcases hk with rfl | rfl <;> omega
    have e1 : IntKind.i64.wrap (k * y.getD i 0) = k * y.getD i 0 := wrap64 (by omega) (by omega)
    have e2 : IntKind.i64.wrap (x.getD i 0 + k * y.getD i 0) = P.getD i 0 := by rw [pe]; exact wrap64 (by omega) (by omega)
    have hw : IntKind.i64.wrap ((i : Int) + 1) = i + 1 := wrap64 (by omega) (by omega)
    obtain ⟨Q,hQ⟩ : ∃ Q,P.take i ++ x.drop i = Q := ⟨_,rfl⟩
    rw [hQ] at ml qi qs
    have p1 := mI_hd0 (l := Q) (i := i) (by omega)
    have p2 := mI_hd0 (l := y) (i := i) (by omega)
    have p3 := mI_pt0 (l := Q) (i := i) (by omega) (P.getD i 0)
    rw [qi] at p1
    rw [qs] at p3
    obtain ⟨X,hX⟩ : ∃ X,x.getD i 0 = X := ⟨_,rfl⟩
    obtain ⟨Y,hY⟩ : ∃ Y,y.getD i 0 = Y := ⟨_,rfl⟩
    obtain ⟨Z,hZ⟩ : ∃ Z,P.getD i 0 = Z := ⟨_,rfl⟩
    rw [hX] at p1 e2
    rw [hY] at p2 e1 e2
    rw [hZ] at p3 e2
    rw [hQ]
    simp only [w118L0,d1,p1,p2,e1,e2,p3,hw,go_sem,Nat.reduceEqDiff,Nat.reduceAdd,Nat.reduceLT,Nat.reduceLeDiff,reduceIte,reduceCtorEq]
    refine ⟨by omega,by omega,by omega,by omega,by omega,by omega,?_⟩
    exact round1 rfl ⟨i + 1,by omega⟩ [some 0,some 1,some 2] (by dsimp only; omega) (Wk.mk0 rfl (by simp [imgs,Blk.alive]) (by simp [hle,csle,mI_bnd]) (by simp [fle,vle,Fr.get]))
  · have d1 : ¬ (i : Int) < 4 := by omega
    have ei : i = 4 := by omega
    subst ei
    rw [List.take_of_length_le (by omega),List.drop_of_length_le (by omega),List.append_nil]
    have pc := cut_vec pl
    have pm : (mI P).length = 4 := by rw [mI_length,pl]
    simp only [w118L0,w118T1,d1,pc,vec_eq,pl,pm,go_sem,Nat.reduceEqDiff,Nat.reduceAdd,Nat.reduceLT,Nat.reduceLeDiff,reduceIte,reduceCtorEq]
    refine ⟨allI_cell P,?_⟩
    exact leafC (cut true 4 (mI P)) (vec P) rfl ⟨by rw [pm]; omega,fun h => by cases h⟩ (by rw [pc]; exact vle_vec _) ⟨rfl,by rw [hP]; rfl⟩
end Go.Proofs.Ytlonaefihjdkpaa
