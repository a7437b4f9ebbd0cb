/- Contracts: matrices and vectors; Contracts: how far basic moves reach; Contracts: whether columns can balance,and whether a vector is a move; Contracts: all moves with numbers up to a bound,gathered. -/
import Derived.Test.YtlonaefihjdkpaaTKB
import Derived.Test.YtlonaefihjdkpaaTLA
import Derived.Test.YtlonaefihjdkpaaTLP
import Derived.Test.YtlonaefihjdkpaaAN
namespace Go.Proofs.Ytlonaefihjdkpaa
open Go.Abs AVal
set_option linter.unusedSimpArgs false
attribute [local go_sem] W_skip W_keep KQ_canon canon Fr.norm W_seq W_block W_scope W_exit W_ret W_ops W_draw KQ_nil KQ_norm_seq KQ_exit_seq KQ_ret_seq KQ_norm_block KQ_ret_block KQ_exit_block KQ_exit_loop KQ_ret_loop O_nil O_cons S_call S_mv SE_mv SD_mv S_pick SE_pick SD_pick S_bin SE_bin SD_bin S_eqb SE_eqb SD_eqb S_eqv SE_eqv SD_eqv S_eqnil SE_eqnil SD_eqnil S_un SE_un SD_un S_conv SE_conv SD_conv S_mkfn SE_mkfn SD_mkfn S_load SE_load SD_load S_nilck SE_nilck SD_nilck S_slS SE_slS SD_slS S_slP SE_slP SD_slP S_fldA SE_fldA SD_fldA S_fld SE_fld SD_fld S_ixS SE_ixS SD_ixS S_ixP SE_ixP SD_ixP S_ixV SE_ixV SD_ixV S_ixStr SE_ixStr SD_ixStr S_ext SE_ext SD_ext S_len SE_len SD_len S_lenStr SE_lenStr SD_lenStr S_lenc SE_lenc SD_lenc S_mn SE_mn SD_mn S_mx SE_mx SD_mx S_build SE_build SD_build S_alloc SD_alloc S_box SD_box S_bslice SD_bslice S_mksl SD_mksl S_store SD_store S_append SD_append S_copy SD_copy S_clr SD_clr S_mlen SE_mlen SD_mlen S_mget SE_mget SD_mget S_mval SE_mval SD_mval S_mentry SE_mentry SD_mentry S_mkmap SD_mkmap S_mset SD_mset S_mrange SD_mrange S_mnext mlenA mgetA mvalA mentryA msetA mrangeA cells_mp isCell_mp cellsOk_mp aq_some aa_some al_some alA_some aqd_some aad_some ald_some ape_some D_done D_both D_early D_step SE_call SD_call IOpd.ev Fr.get Fr.put Fr.putd entryFr pickA binA binI isSh shI eqbA eqvA ints ints_mI Option.map_some eqnilA unA convA loadA nilckA intA slSA slPA fldAA fldVA ixSA ixPA ixVA ixStrA extA lenA lenStrA mnA mxA AVal.fits fillA fillOk buildA opa srcA appA stoA copA clrA rdFree zeros List.length_nil List.length_cons List.length_map List.map_cons List.map_nil Option.map_some Option.map_none if_true if_false ite_true ite_false true_and and_true and_self implies_true forall_const true_implies Bool.false_eq_true Bool.not_true Bool.not_false decide_eq_true_eq decide_eq_false_iff_not eq_self List.getElem?_cons_zero List.getElem?_cons_succ List.getElem?_nil List.set_cons_zero List.set_cons_succ List.nil_append List.cons_append List.append_nil List.replicate_zero List.replicate_succ Nat.zero_add false_implies rng_lt rng_end rng_get cells_I cells_B cells_sl cut_one Int.toNat_natCast Int.natCast_nonneg List.headD_cons Int.lt_irrefl not_false_eq_true decide_false decide_true mI_length mI_cells mI_sz mI_isCell mI_mid mI_append mI_take mI_drop cells_val cells_own cells_agg isCell_I isCell_B isCell_nil isCell_sl isCell_own isCell_ptr isCell_fn isCell_rp isCell_yld cellsOk_I cellsOk_B cellsOk_nil cellsOk_sl cellsOk_own cellsOk_ptr cellsOk_fn cellsOk_rp cellsOk_yld cellsOk_agg cells_nil cells_ptr cells_fn cells_rp List.all_cons List.all_nil Bool.and_true Nat.mul_one Nat.zero_mul Nat.one_mul List.take_zero List.take_nil List.drop_nil List.drop_zero List.not_mem_nil Nat.le_refl Nat.zero_le mS_length mS_cells mS_sz mS_isCell mS_mid mS_append mS_take mS_drop cells_sI isCell_sI cellsOk_sI sI_eq succ_le_self' List.take_succ_cons List.drop_succ_cons List.take_length beq_self_eq_true List.mem_cons or_false forall_eq mI_put mI_rep O_guard' D_earlyG' D_stepG' W_cond' G_tt G_tf G_ft G_ff GE_tt GE_tf GE_ft GE_ff GS_tt GS_tf GS_ft GS_ff G_u GE_u GS_u IC_t IC_f xft xff xtt xtf z00 z20 z22 z02 zz tn0
theorem s77 (nn t : Bool) (x : Int) (xs : List Int) (hl : (x :: xs).length < 9223372036854775808) : Abs.Spec Try.prog 77 [.sl nn t (mI (x :: xs))] [] fun v H' => H' = [] ∧ v = I (Sp.minL (x :: xs)) := by
  refine Abs.Spec.walk mixed fn77 nn77 t77 q77 nt77 (by simp) ?_
  have h0 : decide (((xs.length + 1 : Nat) : Int) < 1) = false := decide_eq_false (by omega)
  have h1 : (0 < xs.length + 1) = True := by simp
  simp only [w77,h0,mI_get,h1,List.getD_cons_zero,go_sem,Nat.reduceEqDiff,Nat.reduceAdd,Nat.reduceLT,Nat.reduceLeDiff,reduceIte,reduceCtorEq]
  refine ⟨by omega,?_⟩
  refine W_loop (fun p : { p : List Int × List Int // p.1 ++ p.2 = x :: xs ∧ p.1 ≠ [] } => ([(0,sl nn t (mI (x :: xs))),(3,I (Sp.minL p.1.1)),(4,I p.1.1.length)],[])) (fun p => p.1.2.length) ⟨([x],xs),rfl,by simp⟩ [] (Wk.nil (by simp [fle,vle,Fr.get,mI_bnd,Sp.minL])) ?_
  rintro ⟨⟨pre,suf⟩,hp,hne⟩
  dsimp only at hp hne
  rw [← hp] at hl
  simp only [← hp]
  cases suf with
  | nil =>
    simp only [w77L0,w77T1,go_sem,Nat.reduceEqDiff,Nat.reduceAdd,Nat.reduceLT,Nat.reduceLeDiff,reduceIte,reduceCtorEq]
    exact leaf (I _) rfl ⟨rfl,rfl⟩
  | cons y suf =>
    simp only [w77L0,go_sem,Nat.reduceEqDiff,Nat.reduceAdd,Nat.reduceLT,Nat.reduceLeDiff,reduceIte,reduceCtorEq]
    refine round0 rfl ⟨(pre ++ [y],suf),by simp [← hp],by simp⟩ (by simp) rfl ?_
    simp [fle,vle,Fr.get,rng_idx' hl,mI_bnd,← hp,Sp.minL_snoc hne]
theorem s78 (nn t : Bool) (x : Int) (xs : List Int) (hl : (x :: xs).length < 9223372036854775808) : Abs.Spec Try.prog 78 [.sl nn t (mI (x :: xs))] [] fun v H' => H' = [] ∧ v = I (Sp.maxL (x :: xs)) := by
  refine Abs.Spec.walk mixed fn78 nn78 t78 q78 nt78 (by simp) ?_
  have h0 : decide (((xs.length + 1 : Nat) : Int) < 1) = false := decide_eq_false (by omega)
  have h1 : (0 < xs.length + 1) = True := by simp
  simp only [w78,h0,mI_get,h1,List.getD_cons_zero,go_sem,Nat.reduceEqDiff,Nat.reduceAdd,Nat.reduceLT,Nat.reduceLeDiff,reduceIte,reduceCtorEq]
  refine ⟨by omega,?_⟩
  refine W_loop (fun p : { p : List Int × List Int // p.1 ++ p.2 = x :: xs ∧ p.1 ≠ [] } => ([(0,sl nn t (mI (x :: xs))),(3,I (Sp.maxL p.1.1)),(4,I p.1.1.length)],[])) (fun p => p.1.2.length) ⟨([x],xs),rfl,by simp⟩ [] (Wk.nil (by simp [fle,vle,Fr.get,mI_bnd,Sp.maxL])) ?_
  rintro ⟨⟨pre,suf⟩,hp,hne⟩
  dsimp only at hp hne
  rw [← hp] at hl
  simp only [← hp]
  cases suf with
  | nil =>
    simp only [w78L0,w78T1,go_sem,Nat.reduceEqDiff,Nat.reduceAdd,Nat.reduceLT,Nat.reduceLeDiff,reduceIte,reduceCtorEq]
    exact leaf (I _) rfl ⟨rfl,rfl⟩
  | cons y suf =>
    simp only [w78L0,go_sem,Nat.reduceEqDiff,Nat.reduceAdd,Nat.reduceLT,Nat.reduceLeDiff,reduceIte,reduceCtorEq]
    refine round0 rfl ⟨(pre ++ [y],suf),by simp [← hp],by simp⟩ (by simp) rfl ?_
    simp [fle,vle,Fr.get,rng_idx' hl,mI_bnd,← hp,Sp.maxL_snoc hne]
theorem s87 (x : Int) : Abs.Spec Try.prog 87 [I x] [] fun v H' => H' = [] ∧ v = I (Sp.absW x) := by
  refine Abs.Spec.walk mixed fn87 nn87 t87 q87 nt87 (by simp) ?_
  simp only [w87,go_sem,Nat.reduceEqDiff,Nat.reduceAdd,Nat.reduceLT,Nat.reduceLeDiff,reduceIte,reduceCtorEq]
  exact leaf (I _) rfl ⟨rfl,rfl⟩
theorem s82 (nn t : Bool) (xs : List Int) (hl : xs.length ≤ 4) : Abs.Spec Try.prog 82 [.sl nn t (mI xs)] [] fun v H' => H' = [] ∧ v = vec (Sp.pad xs) := by
  refine Abs.Spec.walk mixed fn82 nn82 t82 q82 nt82 (by simp) ?_
  have h4 := Sp.pad_len hl
  have hcl : (mI (Sp.pad xs)).length = 4 := by rw [mI_length,h4]
  have hpe := pad_eq hl
  have e4 : 4 - 0 = 4 := rfl
  have hac := allI_cell (Sp.pad xs)
  change _ = mI (Sp.pad xs) at hpe
  simp only [w82,e4,hpe,hcl,cut_vec,h4,cells_vec,go_sem,Nat.reduceEqDiff,Nat.reduceAdd,Nat.reduceLT,Nat.reduceLeDiff,reduceIte,reduceCtorEq]
  refine ⟨by simp,hac,?_⟩
  exact leafC (cut true 4 (mI (Sp.pad xs))) (vec (Sp.pad xs)) rfl ⟨by rw [hcl]; omega,fun h => by cases h⟩ (by rw [cut_vec h4]; exact vle_vec _) ⟨rfl,rfl⟩
theorem s130 (x y : List Int) (hx : x.length = 4) (hy : y.length = 4) : Abs.Spec Try.prog 130 [vec x,vec y] [] fun v H' => H' = [] ∧ v = I (Sp.dot x y) := by
  refine Abs.Spec.walk mixed fn130 nn130 t130 q130 nt130 (by simp) ?_
  simp only [w130T1,w130L0,w130,vec_eq,go_sem,Nat.reduceEqDiff,Nat.reduceAdd,Nat.reduceLT,Nat.reduceLeDiff,reduceIte,reduceCtorEq]
  refine ⟨allI_cell x,allI_cell y,?_⟩
  refine W_loop (fun p : { p : Nat × Int // p.1 ≤ 4 ∧ Sp.dotG p.2 (x.drop p.1) (y.drop p.1) = Sp.dot x y } => ([(2,ptr 0 0),(3,ptr 1 0),(5,I p.1.2),(7,I p.1.1)],[.cells (mI x),.cells (mI y)])) (fun p => 4 - p.1.1) ⟨(0,0),by omega,rfl⟩ [some 0,some 1] (Wk.mk0 rfl (by simp [imgs,Blk.alive]) (by simp [hle,csle,mI_bnd]) (by simp [fle,vle,Fr.get])) ?_
  rintro ⟨⟨i,s⟩,hi4,hinv⟩
  dsimp only at hi4 hinv
  by_cases hi : i < 4
  · have hi' : decide ((i : Int) < 4) = true := decide_eq_true (by omega)
    have hix : i < x.length := by omega
    have hiy : i < y.length := by omega
    have hw : IntKind.i64.wrap ((i : Int) + 1) = i + 1 := wrap64 (by omega) (by omega)
    simp only [w130L0,hi',mI_hd,hix,hiy,go_sem,Nat.reduceEqDiff,Nat.reduceAdd,Nat.reduceLT,Nat.reduceLeDiff,reduceIte,reduceCtorEq]
    refine ⟨by omega,by omega,by omega,by omega,?_⟩
    refine round1 rfl ⟨(i + 1,IntKind.i64.wrap (s + IntKind.i64.wrap (x.getD i 0 * y.getD i 0))),by omega,?_⟩ [some 0,some 1] (by dsimp only; omega) (Wk.mk0 rfl (by simp [imgs,Blk.alive]) (by simp [hle,csle,mI_bnd]) (by simp [fle,vle,Fr.get,hw]))
    rw [← hinv,List.drop_eq_getElem_cons hix,List.drop_eq_getElem_cons hiy]
    simp only [Sp.dotG,List.getD_eq_getElem?_getD,List.getElem?_eq_getElem hix,List.getElem?_eq_getElem hiy,Option.getD_some]
  · have hi' : decide ((i : Int) < 4) = false := decide_eq_false (by omega)
    simp only [w130L0,hi',w130T1,go_sem,Nat.reduceEqDiff,Nat.reduceAdd,Nat.reduceLT,Nat.reduceLeDiff,reduceIte,reduceCtorEq]
    rw [List.drop_of_length_le (by omega),List.drop_of_length_le (by omega)] at hinv
    exact leaf (I _) rfl ⟨rfl,by rw [← hinv]; rfl⟩
def matV (vs : List (List Int)) (n : Int) : AVal := .agg [.sl false false (mV vs),I n]
theorem matV_eq (vs : List (List Int)) (n : Int) : matV vs n = .agg [.sl false false (mV vs),I n] := rfl
theorem s90 (x y : List Int) (hx : x.length = 4) (hy : y.length = 4) : Abs.Spec Try.prog 90 [vec x,vec y] [] fun v H' => H' = [] ∧ v = B (Sp.fitG x y) := by
  refine Abs.Spec.walk mixed fn90 nn90 t90 q90 nt90 (by simp) ?_
  simp only [w90,vec_eq,go_sem,Nat.reduceEqDiff,Nat.reduceAdd,Nat.reduceLT,Nat.reduceLeDiff,reduceIte,reduceCtorEq]
  refine ⟨allI_cell x,allI_cell y,?_⟩
  refine W_loop (fun p : { i : Nat // i ≤ 4 ∧ Sp.fitG (x.drop i) (y.drop i) = Sp.fitG x y } => ([(2,ptr 0 0),(3,ptr 1 0),(6,I p.1)],[.cells (mI x),.cells (mI y)])) (fun p => 4 - p.1) ⟨0,by omega,rfl⟩ [some 0,some 1] (Wk.mk0 rfl (by simp [imgs,Blk.alive]) (by simp [hle,csle,mI_bnd]) (by simp [fle,vle,Fr.get])) ?_
  rintro ⟨i,hin,hinv⟩
  dsimp only at hin hinv ⊢
  by_cases hi : i < 4
  · have hi' : decide ((i : Int) < 4) = true := decide_eq_true (by omega)
    have hix : i < x.length := by omega
    have hiy : i < y.length := by omega
    have hw : IntKind.i64.wrap ((i : Int) + 1) = i + 1 := wrap64 (by omega) (by omega)
    rw [Sp.fitG_step hix hiy] at hinv
    obtain ⟨u,hu⟩ : ∃ u,u = x.getD i 0 := ⟨_,rfl⟩
    obtain ⟨z,hz⟩ : ∃ z,z = y.getD i 0 := ⟨_,rfl⟩
    have hu' := hu.symm
    have hz' := hz.symm
    rw [hu',hz'] at hinv
    simp only [w90L0,hi',mI_hd,hix,hiy,hu',hz',go_sem,Nat.reduceEqDiff,Nat.reduceAdd,Nat.reduceLT,Nat.reduceLeDiff,reduceIte,reduceCtorEq]
    refine ⟨by omega,by omega,?_⟩
    have bx : (true ^^ decide (u > 0) == decide (z > 0)) = (decide (u > 0) != decide (z > 0)) := Bool.true_xor _
    refine GE.split (fun g1 => ?_) fun g1 => ?_
    · rw [g1,Bool.true_and] at hinv
      simp only [mI_hd,hix,hiy,hu',hz',bx,go_sem,Nat.reduceEqDiff,Nat.reduceAdd,Nat.reduceLT,Nat.reduceLeDiff,reduceIte,reduceCtorEq]
      repeat (refine ⟨by omega,?_⟩)
      refine GE.split (fun g2 => ?_) fun g2 => ?_
      · rw [g2,Bool.true_or] at hinv
        simp only [go_sem,Nat.reduceEqDiff,Nat.reduceAdd,Nat.reduceLT,Nat.reduceLeDiff,reduceIte,reduceCtorEq]
        exact leaf (B _) rfl ⟨rfl,by rw [← hinv]; rfl⟩
      · rw [g2,Bool.false_or] at hinv
        simp only [mI_hd,hix,hiy,hu',hz',go_sem,Nat.reduceEqDiff,Nat.reduceAdd,Nat.reduceLT,Nat.reduceLeDiff,reduceIte,reduceCtorEq]
        repeat (refine ⟨by omega,?_⟩)
        refine CallKD.pure (liftV (s87 u) rfl rfl) ?_
        simp only [mI_hd,hix,hiy,hu',hz',go_sem,Nat.reduceEqDiff,Nat.reduceAdd,Nat.reduceLT,Nat.reduceLeDiff,reduceIte,reduceCtorEq]
        repeat (refine ⟨by omega,?_⟩)
        refine CallKD.pure (liftV (s87 z) rfl rfl) ?_
        simp only [go_sem,Nat.reduceEqDiff,Nat.reduceAdd,Nat.reduceLT,Nat.reduceLeDiff,reduceIte,reduceCtorEq]
        refine IC.splitP (fun g3 => ?_) fun g3 => ?_
        · rw [decide_eq_true g3] at hinv
          simp only [go_sem,Nat.reduceEqDiff,Nat.reduceAdd,Nat.reduceLT,Nat.reduceLeDiff,reduceIte,reduceCtorEq]
          exact leaf (B _) rfl ⟨rfl,by rw [← hinv]; rfl⟩
        · rw [decide_eq_false g3] at hinv
          simp only [go_sem,Nat.reduceEqDiff,Nat.reduceAdd,Nat.reduceLT,Nat.reduceLeDiff,reduceIte,reduceCtorEq]
          refine round1 rfl ⟨i + 1,by omega,hinv⟩ [some 0,some 1] (by dsimp only; omega) (Wk.mk0 rfl (by simp [imgs,Blk.alive]) (by simp [hle,csle,mI_bnd]) (by simp [fle,vle,Fr.get,hw]))
    · rw [g1,Bool.false_and] at hinv
      simp only [go_sem,Nat.reduceEqDiff,Nat.reduceAdd,Nat.reduceLT,Nat.reduceLeDiff,reduceIte,reduceCtorEq]
      refine round1 rfl ⟨i + 1,by omega,hinv⟩ [some 0,some 1] (by dsimp only; omega) (Wk.mk0 rfl (by simp [imgs,Blk.alive]) (by simp [hle,csle,mI_bnd]) (by simp [fle,vle,Fr.get,hw]))
  · have hi' : decide ((i : Int) < 4) = false := decide_eq_false (by omega)
    rw [List.drop_of_length_le (by omega),List.drop_of_length_le (by omega)] at hinv
    simp only [w90L0,hi',w90T1,go_sem,Nat.reduceEqDiff,Nat.reduceAdd,Nat.reduceLT,Nat.reduceLeDiff,reduceIte,reduceCtorEq]
    exact leaf (B _) rfl ⟨rfl,by rw [← hinv]; rfl⟩
theorem s54 (nn t : Bool) (c : AVal) (hc : c.isCell = true) (n : Nat) (xs : List Int) (lo hi : Int) (h1 : 1 ≤ n) (h4 : n ≤ 4) (hl : xs.length < 9223372036854775808) : Abs.Spec Try.prog 54 [.agg [c,I n],.sl nn t (mI xs),I lo,I hi] [] fun v H' => H' = [] ∧ v = if decide (xs.length = n) && Sp.numbers xs lo hi then .tup [vec (Sp.pad xs),B true] else .tup [vec [0,0,0,0],B false] := by
  refine Abs.Spec.walk mixed fn54 nn54 t54 q54 nt54 (by simp) ?_
  obtain ⟨R,hR⟩ : ∃ R : Bool → AVal,R = fun b => if b then .tup [vec (Sp.pad xs),B true] else .tup [vec [0,0,0,0],B false] := ⟨_,rfl⟩
  have bad : ∀ {e : Ex} {fr : Fr} {H : AHeap},(e = .norm ∨ e = .ret) → (decide (xs.length = n) && Sp.numbers xs lo hi) = false → fr.get 8 = ptr 1 0 → fr.get 9 = B false → H[1]? = some (.cells (mI [0,0,0,0])) → retA 0 r54 (fun v H' => H' = [] ∧ v = if decide (xs.length = n) && Sp.numbers xs lo hi then .tup [vec (Sp.pad xs),B true] else .tup [vec [0,0,0,0],B false]) e fr H [] := fun {e fr H} he hb h8 h9 hH => by
    refine leafCT (vec [0,0,0,0]) (.tup [vec [0,0,0,0],B false]) (p := 0 + 4 ≤ 4 ∧ (true = false → 4 = 1)) (by rw [h8]; simp only [loadA,hH]; rfl) ⟨by omega,fun h => by cases h⟩ ⟨vle_vec _,by rw [h9]; rfl,trivial⟩ ⟨rfl,by rw [hb]; rfl⟩ he
  simp only [w54,hc,go_sem,Nat.reduceEqDiff,Nat.reduceAdd,Nat.reduceLT,Nat.reduceLeDiff,reduceIte,reduceCtorEq]
  refine G.split (fun g1 => ?_) fun g1 => ?_
  · have hne : ¬ xs.length = n := fun h => by rw [h] at g1; simp at g1
    simp only [go_sem,Nat.reduceEqDiff,Nat.reduceAdd,Nat.reduceLT,Nat.reduceLeDiff,reduceIte,reduceCtorEq]
    refine bad (.inr rfl) (by rw [decide_eq_false hne]; rfl) rfl rfl rfl
  have hlen : xs.length = n := by have := bne_eq_false_iff_eq.1 g1; omega
  obtain ⟨x0,xs',rfl⟩ : ∃ x0 xs',xs = x0 :: xs' := by
    cases xs with
    | nil => simp at hlen; omega
    | cons a b => exact ⟨a,b,rfl⟩
  have hnum := Sp.numbers_iff (l := x0 :: xs') (by simp) (lo := lo) (hi := hi)
  simp only [go_sem,Nat.reduceEqDiff,Nat.reduceAdd,Nat.reduceLT,Nat.reduceLeDiff,reduceIte,reduceCtorEq]
  refine CallK.pure (liftV (s77 nn t x0 xs' hl) (by simp [bndL,AVal.bnd,mI_bnd]) rfl _) ?_
  simp only [go_sem,Nat.reduceEqDiff,Nat.reduceAdd,Nat.reduceLT,Nat.reduceLeDiff,reduceIte,reduceCtorEq]
  refine G.splitP (fun g2 => ?_) fun g2 => ?_
  · simp only [go_sem,Nat.reduceEqDiff,Nat.reduceAdd,Nat.reduceLT,Nat.reduceLeDiff,reduceIte,reduceCtorEq]
    refine bad (.inr rfl) ?_ rfl rfl rfl
    cases hb : Sp.numbers (x0 :: xs') lo hi with
    | false => exact Bool.and_false _
    | true => have := hnum.1 hb; omega
  simp only [go_sem,Nat.reduceEqDiff,Nat.reduceAdd,Nat.reduceLT,Nat.reduceLeDiff,reduceIte,reduceCtorEq]
  refine CallK.pure (liftV (s78 nn t x0 xs' hl) (by simp [bndL,AVal.bnd,mI_bnd]) rfl _) ?_
  simp only [go_sem,Nat.reduceEqDiff,Nat.reduceAdd,Nat.reduceLT,Nat.reduceLeDiff,reduceIte,reduceCtorEq]
  refine IC.splitP (fun g3 => ?_) fun g3 => ?_
  · simp only [go_sem,Nat.reduceEqDiff,Nat.reduceAdd,Nat.reduceLT,Nat.reduceLeDiff,reduceIte,reduceCtorEq]
    refine bad (.inr rfl) ?_ rfl rfl rfl
    cases hb : Sp.numbers (x0 :: xs') lo hi with
    | false => exact Bool.and_false _
    | true => have := hnum.1 hb; omega
  have hok : (decide ((x0 :: xs').length = n) && Sp.numbers (x0 :: xs') lo hi) = true := by
    rw [decide_eq_true hlen,hnum.2 ⟨by omega,by omega⟩]; rfl
  have h44 : (x0 :: xs').length ≤ 4 := by omega
  have hp4 := Sp.pad_len h44
  have hpl : (mI (Sp.pad (x0 :: xs'))).length = 4 := by rw [mI_length,hp4]
  have hac := allI_cell (Sp.pad (x0 :: xs'))
  simp only [go_sem,Nat.reduceEqDiff,Nat.reduceAdd,Nat.reduceLT,Nat.reduceLeDiff,reduceIte,reduceCtorEq]
  refine CallK.pure (liftV (s82 nn t (x0 :: xs') h44) (by simp [bndL,AVal.bnd,mI_bnd]) (by simp [vec,AVal.bnd,mI_bnd]) _) ?_
  simp only [vec_eq,hpl,hac,go_sem,Nat.reduceEqDiff,Nat.reduceAdd,Nat.reduceLT,Nat.reduceLeDiff,reduceIte,reduceCtorEq]
  exact leafCT (cut true 4 (mI (Sp.pad (x0 :: xs')))) (.tup [vec (Sp.pad (x0 :: xs')),B true]) rfl ⟨by rw [hpl]; omega,fun h => by cases h⟩ ⟨by rw [cut_vec hp4]; exact vle_vec _,rfl,trivial⟩ ⟨rfl,(if_pos hok).symm⟩
def readR (a : List (List Int)) (v : AVal) : Prop := (Sp.mat a = true ∧ v = .tup [matV (a.map Sp.pad) (a.getD 0 []).length,B true]) ∨ (Sp.mat a = false ∧ ∃ vs n,v = .tup [matV vs n,B false])
set_option maxHeartbeats 2000000 in
theorem s53 (nn t : Bool) (a : List (List Int)) (ha : ∀ l ∈ a,l.length < 9223372036854775808) (hl : a.length < 9223372036854775808) : Abs.Spec Try.prog 53 [.sl nn t (mS a)] [] fun v H' => H' = [] ∧ readR a v := by
  have no : ∀ {e : Ex} {fr : Fr} {H : AHeap} {vs : List (List Int)} {n : Int} {b : Bool} {k i : Nat},(e = .norm ∨ e = .ret) → (∀ v ∈ vs,v.length = 4) → k = vs.length → readR a (.tup [matV vs n,B b]) → fr.get 2 = ptr 0 0 → fr.get 3 = B b → H[0]? = some (.cells [own i 0 k k 4,I n]) → H[i]? = some (.cells (mI vs.flatten)) → retA 0 r53 (fun v H' => H' = [] ∧ readR a v) e fr H [] := fun {e fr H vs n b k i} he h4 hk hR h2 h3 hH hi => by
    refine leafCT (.agg [own i 0 k k 4,I n]) (.tup [matV vs n,B b]) (p := 0 + 2 ≤ 2 ∧ (true = false → 2 = 1)) (by rw [h2]; simp only [loadA,hH]; rfl) ⟨by omega,fun h => by cases h⟩ ⟨.inr ⟨vle_mV h4 hi (by simp) hk,rfl,trivial⟩,by rw [h3]; rfl,trivial⟩ ⟨rfl,hR⟩ he
  have no0 : ∀ {e : Ex} {fr : Fr} {H : AHeap},(e = .norm ∨ e = .ret) → Sp.mat a = false → fr.get 2 = ptr 0 0 → fr.get 3 = B false → H[0]? = some (.cells [nilSl,I 0]) → retA 0 r53 (fun v H' => H' = [] ∧ readR a v) e fr H [] := fun {e fr H} he hm h2 h3 hH => by
    refine leafCT (.agg [nilSl,I 0]) (.tup [matV [] 0,B false]) (p := 0 + 2 ≤ 2 ∧ (true = false → 2 = 1)) (by rw [h2]; simp only [loadA,hH]; rfl) ⟨by omega,fun h => by cases h⟩ ⟨.inr ⟨⟨rfl,rfl,rfl⟩,rfl,trivial⟩,by rw [h3]; rfl,trivial⟩ ⟨rfl,.inr ⟨hm,[],0,rfl⟩⟩ he
  have bad : Sp.mat a = false → ∀ vs n,readR a (.tup [matV vs n,B false]) := fun h vs n => .inr ⟨h,vs,n,rfl⟩
  refine Abs.Spec.walk mixed fn53 nn53 t53 q53 nt53 (by simp) ?_
  simp only [w53,go_sem,Nat.reduceEqDiff,Nat.reduceAdd,Nat.reduceLT,Nat.reduceLeDiff,reduceIte,reduceCtorEq]
  refine G.splitP (fun h1 => ?_) fun h1 => ?_
  · simp only [cut_two,go_sem,Nat.reduceEqDiff,Nat.reduceAdd,Nat.reduceLT,Nat.reduceLeDiff,reduceIte,reduceCtorEq]
    exact no0 (.inr rfl) (by rw [Sp.mat,decide_eq_false (show ¬ 1 ≤ a.length by omega)]; rfl) rfl rfl rfl
  simp only [go_sem,Nat.reduceEqDiff,Nat.reduceAdd,Nat.reduceLT,Nat.reduceLeDiff,reduceIte,reduceCtorEq]
  refine IC.splitP (fun h2 => ?_) fun h2 => ?_
  · simp only [cut_two,go_sem,Nat.reduceEqDiff,Nat.reduceAdd,Nat.reduceLT,Nat.reduceLeDiff,reduceIte,reduceCtorEq]
    exact no0 (.inr rfl) (by rw [Sp.mat,decide_eq_false (show ¬ a.length ≤ 2 by omega),Bool.false_and,Bool.and_false]) rfl rfl rfl
  have h0 : 0 < a.length := by omega
  obtain ⟨n,hn⟩ : ∃ n,n = (a.getD 0 []).length := ⟨_,rfl⟩
  obtain ⟨q,hq⟩ : ∃ q : List Int → Bool,q = fun r => decide (r.length = n) && (decide (1 ≤ r.length) && (decide (r.length ≤ 4) && Sp.numbers r (-2) 2)) := ⟨_,rfl⟩
  have hmat : Sp.mat a = a.all q := by
    rw [Sp.mat,decide_eq_true (show 1 ≤ a.length by omega),decide_eq_true (show a.length ≤ 2 by omega),hq,hn]; rfl
  have hn' := hn.symm
  have hal2 : a.length ≤ 2 := by omega
  simp only [mS_get,h0,hn',go_sem,Nat.reduceEqDiff,Nat.reduceAdd,Nat.reduceLT,Nat.reduceLeDiff,reduceIte,reduceCtorEq]
  refine ⟨by omega,?_⟩
  refine W_loop (fun p : { p : List (List Int) × List (List Int) // p.1 ++ p.2 = a ∧ a.all q = p.2.all q ∧ ∀ r ∈ p.1,r.length ≤ 4 } => ([(2,ptr 0 0),(4,ptr 1 0),(21,sl nn t (mS a)),(22,I a.length),(23,I p.1.1.length)],[.cells [nilSl,I 0],.cells [own 2 0 p.1.1.length p.1.1.length 4,I n],.cells (mI (p.1.1.map Sp.pad).flatten)])) (fun p => p.1.2.length) ⟨([],a),rfl,rfl,by simp⟩ [some 0,some 1,none]
    (Wk.mk0 rfl (by simp [imgs,Blk.alive]) ⟨.inl ⟨rfl,rfl⟩,.inr ⟨⟨by simp,by simp⟩,rfl,trivial⟩,rfl,trivial⟩ (by simp [fle,vle,Fr.get,mS_bnd])) ?_
  rintro ⟨⟨pre,suf⟩,hp,hinv,hpre⟩
  dsimp only at hp hinv hpre
  rw [← hmat] at hinv
  have hp4 : ∀ v ∈ pre.map Sp.pad,v.length = 4 := fun v hv => by
    obtain ⟨r,hr,rfl⟩ := List.mem_map.1 hv
    exact Sp.pad_len (hpre r hr)
  have hpl' : pre.length = (pre.map Sp.pad).length := by simp
  cases suf with
  | nil =>
    have hpl : pre.length = a.length := by rw [← hp]; simp
    have hz : decide ((pre.length : Int) < a.length) = false := decide_eq_false (by omega)
    have hpa : pre = a := by simpa using hp
    simp only [w53L0,hz,w53T1,cut_two,go_sem,Nat.reduceEqDiff,Nat.reduceAdd,Nat.reduceLT,Nat.reduceLeDiff,reduceIte,reduceCtorEq]
    exact no (.inr rfl) hp4 hpl' (.inl ⟨by rw [hinv]; rfl,by rw [hpa,hn]⟩) rfl rfl rfl rfl
  | cons r suf =>
    have hpl : pre.length < a.length := by rw [← hp]; simp
    have hz : decide ((pre.length : Int) < a.length) = true := decide_eq_true (by omega)
    have hget : a.getD pre.length [] = r := by rw [← hp]; simp [List.getD_eq_getElem?_getD]
    have hra : r ∈ a := by rw [← hp]; simp
    have hrl := ha r hra
    have hqr : (r :: suf).all q = (q r && suf.all q) := rfl
    rw [hqr] at hinv
    have badq : q r = false → Sp.mat a = false := fun h => by rw [hinv,h]; rfl
    have hwk : IntKind.i64.wrap ((pre.length : Int) + 1) = pre.length + 1 := wrap64 (by omega) (by omega)
    simp only [w53L0,hz,mS_get,hpl,hget,go_sem,Nat.reduceEqDiff,Nat.reduceAdd,Nat.reduceLT,Nat.reduceLeDiff,reduceIte,reduceCtorEq]
    refine ⟨by omega,?_⟩
    refine G.split (fun g1 => ?_) fun g1 => ?_
    · simp only [cut_two,go_sem,Nat.reduceEqDiff,Nat.reduceAdd,Nat.reduceLT,Nat.reduceLeDiff,reduceIte,reduceCtorEq]
      exact no (.inr rfl) hp4 hpl' (bad (badq (by rw [hq]; simp; simp at g1; omega)) _ _) rfl rfl rfl rfl
    simp only [go_sem,Nat.reduceEqDiff,Nat.reduceAdd,Nat.reduceLT,Nat.reduceLeDiff,reduceIte,reduceCtorEq]
    refine G.splitP (fun g2 => ?_) fun g2 => ?_
    · simp only [cut_two,go_sem,Nat.reduceEqDiff,Nat.reduceAdd,Nat.reduceLT,Nat.reduceLeDiff,reduceIte,reduceCtorEq]
      exact no (.inr rfl) hp4 hpl' (bad (badq (by rw [hq]; simp; simp at g1; omega)) _ _) rfl rfl rfl rfl
    simp only [go_sem,Nat.reduceEqDiff,Nat.reduceAdd,Nat.reduceLT,Nat.reduceLeDiff,reduceIte,reduceCtorEq]
    refine G.splitP (fun g3 => ?_) fun g3 => ?_
    · simp only [cut_two,go_sem,Nat.reduceEqDiff,Nat.reduceAdd,Nat.reduceLT,Nat.reduceLeDiff,reduceIte,reduceCtorEq]
      exact no (.inr rfl) hp4 hpl' (bad (badq (by rw [hq]; simp; simp at g1; omega)) _ _) rfl rfl rfl rfl
    have hrn : r.length = n := by have := bne_eq_false_iff_eq.1 g1; omega
    have hn1 : 1 ≤ n := by omega
    have hn4 : n ≤ 4 := by omega
    obtain ⟨x0,xs',hrx⟩ : ∃ x0 xs',r = x0 :: xs' := by
      cases r with
      | nil => simp at hrn; omega
      | cons a b => exact ⟨a,b,rfl⟩
    have hnum := Sp.numbers_iff (l := r) (by rw [hrx]; simp) (lo := -2) (hi := 2)
    have m1 := s77 false false x0 xs' (by rw [← hrx]; exact hrl)
    have m2 := s78 false false x0 xs' (by rw [← hrx]; exact hrl)
    rw [← hrx] at m1 m2
    simp only [go_sem,Nat.reduceEqDiff,Nat.reduceAdd,Nat.reduceLT,Nat.reduceLeDiff,reduceIte,reduceCtorEq]
    refine CallK.pure (liftV m1 (by simp [bndL,AVal.bnd,mI_bnd]) rfl _) ?_
    simp only [go_sem,Nat.reduceEqDiff,Nat.reduceAdd,Nat.reduceLT,Nat.reduceLeDiff,reduceIte,reduceCtorEq]
    refine G.splitP (fun g4 => ?_) fun g4 => ?_
    · simp only [cut_two,go_sem,Nat.reduceEqDiff,Nat.reduceAdd,Nat.reduceLT,Nat.reduceLeDiff,reduceIte,reduceCtorEq]
      exact no (.inr rfl) hp4 hpl' (bad (badq (by
        cases hb : Sp.numbers r (-2) 2 with
        | true => have := hnum.1 hb; omega
        | false => rw [hq]; simp [hb])) _ _) rfl rfl rfl rfl
    simp only [go_sem,Nat.reduceEqDiff,Nat.reduceAdd,Nat.reduceLT,Nat.reduceLeDiff,reduceIte,reduceCtorEq]
    refine CallK.pure (liftV m2 (by simp [bndL,AVal.bnd,mI_bnd]) rfl _) ?_
    simp only [go_sem,Nat.reduceEqDiff,Nat.reduceAdd,Nat.reduceLT,Nat.reduceLeDiff,reduceIte,reduceCtorEq]
    refine IC.splitP (fun g5 => ?_) fun g5 => ?_
    · simp only [cut_two,go_sem,Nat.reduceEqDiff,Nat.reduceAdd,Nat.reduceLT,Nat.reduceLeDiff,reduceIte,reduceCtorEq]
      exact no (.inr rfl) hp4 hpl' (bad (badq (by
        cases hb : Sp.numbers r (-2) 2 with
        | true => have := hnum.1 hb; omega
        | false => rw [hq]; simp [hb])) _ _) rfl rfl rfl rfl
    have hqt : q r = true := by
      rw [hq]
      simp only [hnum.2 ⟨by omega,by omega⟩,Bool.and_true,Bool.and_eq_true,decide_eq_true_eq]
      omega
    simp only [go_sem,Nat.reduceEqDiff,Nat.reduceAdd,Nat.reduceLT,Nat.reduceLeDiff,reduceIte,reduceCtorEq]
    refine ⟨by simp,CallKD.pure (liftV (s82 false false r (by omega)) (by simp [bndL,AVal.bnd,mI_bnd]) (by simp [vec,AVal.bnd,mI_bnd])) ?_⟩
    have h4r := Sp.pad_len (show r.length ≤ 4 by omega)
    have hml : (mI (Sp.pad r)).length = 4 := by rw [mI_length,h4r]
    have eD : List.drop 4 [[I 0,I 0,I 0,I 0]].flatten = [] := rfl
    have eP : List.take 4 (Sp.pad r) = Sp.pad r := List.take_of_length_le (by omega)
    have hfl := flat_len hp4
    rw [List.length_map] at hfl
    have eF : List.take (pre.length * 4) (List.map Sp.pad pre).flatten = (List.map Sp.pad pre).flatten := List.take_of_length_le (by omega)
    have eG : (List.map Sp.pad pre).flatten ++ Sp.pad r = (List.map Sp.pad (pre ++ [r])).flatten := by simp
    have h44 : 4 ≤ (Sp.pad r).length := by omega
    simp only [cells_vec,hml,eD,eP,eF,eG,h44,go_sem,Nat.reduceEqDiff,Nat.reduceAdd,Nat.reduceLT,Nat.reduceLeDiff,reduceIte,reduceCtorEq]
    refine ⟨rfl,⟨by omega,by omega⟩,?_⟩
    refine round1 rfl ⟨(pre ++ [r],suf),by simp [hp],by rw [← hmat,hinv,hqt]; rfl,fun x hx => by rcases List.mem_append.1 hx with hx | hx; exact hpre x hx; simp at hx; subst hx; omega⟩ [some 0,some 1,some 4] (by simp)
      (Wk.mk0 rfl (by simp [imgs,Blk.alive]) ⟨.inl ⟨rfl,rfl⟩,.inr ⟨⟨by simp,by simp⟩,rfl,trivial⟩,.inl ⟨rfl,mI_bnd⟩,trivial⟩ (by simp [fle,vle,Fr.get,mS_bnd,hwk]))
open Go.Abs AVal
theorem s112 (x : List Int) (hx : x.length = 4) : Abs.Spec Try.prog 112 [vec x] [] fun v H' => H' = [] ∧ v = B (x == Sp.z4) := by
  refine Abs.Spec.walk mixed fn112 nn112 t112 q112 nt112 (by simp) ?_
  have hpl : (mI x).length = 4 := by rw [mI_length,hx]
  have hz : AVal.agg [I 0,I 0,I 0,I 0] = .agg (mI Sp.z4) := rfl
  simp only [w112,vec_eq,cut_vec,hpl,hx,cells_vec,hz,eqvA,ints_mI,go_sem,Nat.reduceEqDiff,Nat.reduceAdd,Nat.reduceLT,Nat.reduceLeDiff,reduceIte,reduceCtorEq]
  exact ⟨allI_cell x,rfl,leaf (B _) rfl ⟨rfl,by simp⟩⟩
theorem s116 (d : Int) : Abs.Spec Try.prog 116 [I d] [] fun v H' => H' = [] ∧ v = B (d != 0) := by
  refine Abs.Spec.walk mixed fn116 nn116 t116 q116 nt116 (by simp) ?_
  simp only [w116,go_sem,Nat.reduceEqDiff,Nat.reduceAdd,Nat.reduceLT,Nat.reduceLeDiff,reduceIte,reduceCtorEq]
  exact leaf (B _) rfl ⟨rfl,rfl⟩
theorem s114 (t : Bool) (vs : List (List Int)) (h0 : vs ≠ []) (h4 : ∀ v ∈ vs,v.length = 4) (hl : vs.length ≤ 1000000000) : Abs.Spec Try.prog 114 [.sl true t (mV vs)] [] fun v H' => v = .own 0 0 vs.length vs.length 4 ∧ H' = [.cells (mI vs.flatten)] := by
  refine Abs.Spec.walk mixed fn114 nn114 t114 q114 nt114 (by simp) ?_
  have h1 : ¬ vs.length ≤ 0 := by have := List.length_pos_iff.2 h0; omega
  simp only [w114,mV_length,h1,mV_cells,go_sem,Nat.reduceEqDiff,Nat.reduceAdd,Nat.reduceLT,Nat.reduceLeDiff,reduceIte,reduceCtorEq]
  refine ⟨⟨mV_sz h4,by omega⟩,?_⟩
  exact leafO _ _ [some 1] (Wk.one rfl rfl mI_bnd (by simp [fle,vle,Fr.get])) ⟨rfl,rfl⟩
theorem s114' (t : Bool) (vs : List (List Int)) (h0 : vs ≠ []) (h4 : ∀ v ∈ vs,v.length = 4) (hl : vs.length ≤ 1000000000) : Abs.Spec Try.prog 114 [.sl false t (mV vs)] [] fun v H' => v = .own 0 0 vs.length vs.length 4 ∧ H' = [.cells (mI vs.flatten)] :=
  Spec.split_nil (post := []) (fun h => absurd (by simpa [mV] using h) h0) (s114 t vs h0 h4 hl)
theorem s91 (nn t : Bool) (xs : List (List Int)) (h4 : ∀ x ∈ xs,x.length = 4) (fv : AVal) (p : List Int → Bool) (hf : ∀ x ∈ xs,CallV Try.prog fv [vec x] [] fun v H' => v = B (p x) ∧ H' = []) (hv : ∀ H,vle H [] [] 3 fv fv) (hl : xs.length < 9223372036854775808) :
    Abs.Spec Try.prog 91 [.sl nn t (mV xs),fv] [] fun v H' => H' = [] ∧ v = I (Sp.idx p xs) := by
  refine Abs.Spec.walk mixed fn91 nn91 t91 q91 nt91 (by simp) ?_
  simp only [w91,mV_length,go_sem,Nat.reduceEqDiff,Nat.reduceAdd,Nat.reduceLT,Nat.reduceLeDiff,reduceIte,reduceCtorEq]
  refine W_loop (fun q : { q : List (List Int) × List (List Int) // q.1 ++ q.2 = xs ∧ ∀ x ∈ q.1,p x = false } => ([(0,sl nn t (mV xs)),(1,fv),(7,I xs.length),(8,I q.1.1.length)],[])) (fun q => q.1.2.length) ⟨([],xs),rfl,by simp⟩ [] (Wk.nil (by simp [fle,vle,Fr.get,mV_bnd,hv])) ?_
  rintro ⟨⟨pre,suf⟩,hp,hinv⟩
  dsimp only at hp hinv
  subst hp
  cases suf with
  | nil =>
    simp only [w91L0,w91T1,go_sem,Nat.reduceEqDiff,Nat.reduceAdd,Nat.reduceLT,Nat.reduceLeDiff,reduceIte,reduceCtorEq]
    exact leaf (I _) rfl ⟨rfl,by rw [Sp.idx_none hinv]⟩
  | cons x suf =>
    have hx4 : x.length = 4 := h4 x (by simp)
    have hxl : (mI x).length = 4 := by rw [mI_length,hx4]
    simp only [w91L0,mV_mid,mV_length,cells_vec,cut_vec,hx4,hxl,go_sem,Nat.reduceEqDiff,Nat.reduceAdd,Nat.reduceLT,Nat.reduceLeDiff,reduceIte,reduceCtorEq]
    refine CallK.pure (hf x (by simp)) ?_
    simp only [go_sem,Nat.reduceEqDiff,Nat.reduceAdd,Nat.reduceLT,Nat.reduceLeDiff,reduceIte,reduceCtorEq]
    refine IC.split (fun h => ?_) fun h => ?_
    · simp only [go_sem,Nat.reduceEqDiff,Nat.reduceAdd,Nat.reduceLT,Nat.reduceLeDiff,reduceIte,reduceCtorEq]
      exact leaf (I _) rfl ⟨rfl,by rw [Sp.idx_mid p pre _ hinv]; simp [Sp.idx,h]⟩
    · simp only [go_sem,Nat.reduceEqDiff,Nat.reduceAdd,Nat.reduceLT,Nat.reduceLeDiff,reduceIte,reduceCtorEq]
      refine round0 rfl ⟨(pre ++ [x],suf),by simp,fun y hy => by rcases List.mem_append.1 hy with hy | hy; exact hinv y hy; simp at hy; subst hy; exact h⟩ (by simp) rfl ?_
      simp [fle,vle,Fr.get,rng_idx' hl,mV_bnd,hv]
theorem s69 (nn t : Bool) (xs : List Int) (fv : AVal) (p : Int → Bool) (hf : ∀ x ∈ xs,CallV Try.prog fv [I x] [] fun v H' => v = B (p x) ∧ H' = []) (hv : ∀ H,vle H [] [] 3 fv fv) (hl : xs.length < 9223372036854775808) :
    Abs.Spec Try.prog 69 [.sl nn t (mI xs),fv] [] fun v H' => H' = [] ∧ v = I (Sp.idx p xs) := by
  refine Abs.Spec.walk mixed fn69 nn69 t69 q69 nt69 (by simp) ?_
  simp only [w69,go_sem,Nat.reduceEqDiff,Nat.reduceAdd,Nat.reduceLT,Nat.reduceLeDiff,reduceIte,reduceCtorEq]
  refine W_loop (fun q : { q : List Int × List Int // q.1 ++ q.2 = xs ∧ ∀ x ∈ q.1,p x = false } => ([(0,sl nn t (mI xs)),(1,fv),(7,I xs.length),(8,I q.1.1.length)],[])) (fun q => q.1.2.length) ⟨([],xs),rfl,by simp⟩ [] (Wk.nil (by simp [fle,vle,Fr.get,mI_bnd,hv])) ?_
  rintro ⟨⟨pre,suf⟩,hp,hinv⟩
  dsimp only at hp hinv
  subst hp
  cases suf with
  | nil =>
    simp only [w69L0,w69T1,go_sem,Nat.reduceEqDiff,Nat.reduceAdd,Nat.reduceLT,Nat.reduceLeDiff,reduceIte,reduceCtorEq]
    exact leaf (I _) rfl ⟨rfl,by rw [Sp.idx_none hinv]⟩
  | cons x suf =>
    simp only [w69L0,go_sem,Nat.reduceEqDiff,Nat.reduceAdd,Nat.reduceLT,Nat.reduceLeDiff,reduceIte,reduceCtorEq]
    refine CallK.pure (hf x (by simp)) ?_
    simp only [go_sem,Nat.reduceEqDiff,Nat.reduceAdd,Nat.reduceLT,Nat.reduceLeDiff,reduceIte,reduceCtorEq]
    refine IC.split (fun h => ?_) fun h => ?_
    · simp only [go_sem,Nat.reduceEqDiff,Nat.reduceAdd,Nat.reduceLT,Nat.reduceLeDiff,reduceIte,reduceCtorEq]
      exact leaf (I _) rfl ⟨rfl,by rw [Sp.idx_mid p pre _ hinv]; simp [Sp.idx,h]⟩
    · simp only [go_sem,Nat.reduceEqDiff,Nat.reduceAdd,Nat.reduceLT,Nat.reduceLeDiff,reduceIte,reduceCtorEq]
      refine round0 rfl ⟨(pre ++ [x],suf),by simp,fun y hy => by rcases List.mem_append.1 hy with hy | hy; exact hinv y hy; simp at hy; subst hy; exact h⟩ (by simp) rfl ?_
      simp [fle,vle,Fr.get,rng_idx' hl,mI_bnd,hv]
def minorsTo (a b : List Int) (j i : Nat) : List Int := ((List.range j).flatMap fun j => (List.range j).map fun i => a.getD i 0 * b.getD j 0 - a.getD j 0 * b.getD i 0) ++ (List.range i).map fun i => a.getD i 0 * b.getD j 0 - a.getD j 0 * b.getD i 0
theorem minorsTo_next {a b : List Int} {j : Nat} : minorsTo a b j j = minorsTo a b (j + 1) 0 := by
  simp [minorsTo,List.range_succ,List.flatMap_append]
theorem minorsTo_step {a b : List Int} {j i : Nat} : minorsTo a b j i ++ [a.getD i 0 * b.getD j 0 - a.getD j 0 * b.getD i 0] = minorsTo a b j (i + 1) := by
  simp [minorsTo,List.range_succ]
theorem minorsTo_len {a b : List Int} {j i : Nat} (hj : j ≤ 4) (hi : i ≤ 4) : (minorsTo a b j i).length ≤ 20 := by
  have : ∀ j,j ≤ 4 → ((List.range j).flatMap fun j => (List.range j).map fun i => a.getD i 0 * b.getD j 0 - a.getD j 0 * b.getD i 0).length ≤ 16 := by
    intro j hj
    match j,hj with
    | 0,_ => simp
    | 1,_ => simp [List.range_succ]
    | 2,_ => simp [List.range_succ]
    | 3,_ => simp [List.range_succ]
    | 4,_ => simp [List.range_succ]
  have := this j hj
  simp [minorsTo]; simp at this; omega
theorem minor_wrap {x y z w : Int} (hx : -2 ≤ x ∧ x ≤ 2) (hy : -2 ≤ y ∧ y ≤ 2) (hz : -2 ≤ z ∧ z ≤ 2) (hw : -2 ≤ w ∧ w ≤ 2) : IntKind.i64.wrap (IntKind.i64.wrap (x * w) - IntKind.i64.wrap (y * z)) = x * w - y * z := by
  have h1 := Sp.mul_bound hx.1 hx.2 hw.1 hw.2
  have h2 := Sp.mul_bound hy.1 hy.2 hz.1 hz.2
  rw [wrap64 (x := x * w) (by omega) (by omega),wrap64 (x := y * z) (by omega) (by omega),wrap64 (by omega) (by omega)]
theorem s115 (a b : List Int) (ha : a.length = 4) (hb : b.length = 4) (ba : Sp.inB 2 a) (bb : Sp.inB 2 b) : Abs.Spec Try.prog 115 [vec a,vec b] [] fun v H' => H' = [] ∧ v = .sl false false (mI (Sp.minors a b)) := by
  refine Abs.Spec.walk mixed fn115 nn115 t115 q115 nt115 (by simp) ?_
  simp only [w115,vec_eq,go_sem,Nat.reduceEqDiff,Nat.reduceAdd,Nat.reduceLT,Nat.reduceLeDiff,reduceIte,reduceCtorEq]
  refine ⟨allI_cell a,allI_cell b,?_⟩
  refine W_loop (fun p : { j : Nat // j ≤ 4 } => ([(2,ptr 0 0),(3,ptr 1 0),(5,own 2 0 (minorsTo a b p.1 0).length (minorsTo a b p.1 0).length 1),(8,I p.1)],[.cells (mI a),.cells (mI b),.cells (mI (minorsTo a b p.1 0))])) (fun p => 4 - p.1) ⟨0,by omega⟩ [some 0,some 1,none] (Wk.mk0 rfl (by simp [imgs,Blk.alive]) (by simp [hle,csle,mI_bnd,minorsTo,mI_nil]) (by simp [fle,vle,Fr.get,minorsTo])) ?_
  rintro ⟨j,hj4⟩
  dsimp only
  by_cases hj : j < 4
  · have hj' : decide ((j : Int) < 4) = true := decide_eq_true (by omega)
    have hwj : IntKind.i64.wrap ((j : Int) + 1) = ((j + 1 : Nat) : Int) := by rw [wrap64 (by omega) (by omega)]; rfl
    simp only [w115L0,hj',go_sem,Nat.reduceEqDiff,Nat.reduceAdd,Nat.reduceLT,Nat.reduceLeDiff,reduceIte,reduceCtorEq]
    refine W_loop (fun p : { i : Nat // i ≤ j } => ([(2,ptr 0 0),(3,ptr 1 0),(5,own 2 0 (minorsTo a b j p.1).length (minorsTo a b j p.1).length 1),(6,I j),(8,I j),(11,I j),(12,I p.1)],[.cells (mI a),.cells (mI b),.cells (mI (minorsTo a b j p.1))])) (fun p => j - p.1) ⟨0,by omega⟩ [some 0,some 1,some 2] (Wk.mk0 rfl (by simp [imgs,Blk.alive]) (by simp [hle,csle,mI_bnd]) (by simp [fle,vle,Fr.get])) ?_
    rintro ⟨i,hij⟩
    dsimp only
    by_cases hi : i < j
    · have hi' : decide ((i : Int) < j) = true := decide_eq_true (by omega)
      have hwi : IntKind.i64.wrap ((i : Int) + 1) = ((i + 1 : Nat) : Int) := by rw [wrap64 (by omega) (by omega)]; rfl
      have hia : i < a.length := by omega
      have hib : i < b.length := by omega
      have hja : j < a.length := by omega
      have hjb : j < b.length := by omega
      have hmn := minor_wrap (Sp.inB_getD ba i) (Sp.inB_getD ba j) (Sp.inB_getD bb i) (Sp.inB_getD bb j)
      have hmn' := minorsTo_len (a := a) (b := b) (j := j) (i := i) (by omega) (by omega)
      simp only [w115L1,hi',mI_hd,hia,hib,hja,hjb,hmn,hwi,mI_snoc,minorsTo_step,go_sem,Nat.reduceEqDiff,Nat.reduceAdd,Nat.reduceLT,Nat.reduceLeDiff,reduceIte,reduceCtorEq]
      repeat (refine ⟨by omega,?_⟩)
      refine round1 rfl ⟨i + 1,by omega⟩ [some 0,some 1,some 4] (by dsimp only; omega) (Wk.mk0 rfl (by simp [imgs,Blk.alive]) (by simp [hle,csle,mI_bnd]) (by simp [fle,vle,Fr.get,← minorsTo_step]))
    · have hi' : decide ((i : Int) < j) = false := decide_eq_false (by omega)
      obtain rfl : i = j := by omega
      simp only [w115L1,hi',w115T2,hwj,go_sem,Nat.reduceEqDiff,Nat.reduceAdd,Nat.reduceLT,Nat.reduceLeDiff,reduceIte,reduceCtorEq]
      refine round1 rfl ⟨i + 1,by omega⟩ [some 0,some 1,some 2] (by dsimp only; omega) (Wk.mk0 rfl (by simp [imgs,Blk.alive]) (by simp [hle,csle,mI_bnd,minorsTo_next]) (by simp [fle,vle,Fr.get,minorsTo_next]))
  · have hj' : decide ((j : Int) < 4) = false := decide_eq_false (by omega)
    obtain rfl : j = 4 := by omega
    simp only [w115L0,hj',w115T3,go_sem,Nat.reduceEqDiff,Nat.reduceAdd,Nat.reduceLT,Nat.reduceLeDiff,reduceIte,reduceCtorEq]
    exact leaf (.sl false false (mI (Sp.minors a b))) (vle_mI rfl (by simp) (by simp [minorsTo,Sp.minors]) (List.take_of_length_le (by simp [mI_length]))) ⟨rfl,rfl⟩
theorem idx_miss {α : Type} {p : α → Bool} {xs : List α} (h : Sp.idx p xs < 0) : xs.filter (fun x => !p x) = xs := by
  refine List.filter_eq_self.2 fun x hx => ?_
  cases hp : p x with
  | false => rfl
  | true => have := Sp.idx_pos (p := p) ⟨x,hx,hp⟩; omega
theorem idx_at {α : Type} {p : α → Bool} : ∀ {xs : List α},0 ≤ Sp.idx p xs → ∃ (i : Nat) (x : α),Sp.idx p xs = i ∧ xs[i]? = some x ∧ p x = true ∧ ∀ y ∈ xs.take i,p y = false
  | [],h => by simp [Sp.idx] at h
  | x :: xs,h => by
    unfold Sp.idx at h ⊢
    by_cases hp : p x = true
    · rw [if_pos hp]; exact ⟨0,x,rfl,rfl,hp,by simp⟩
    · rw [if_neg hp] at h ⊢
      by_cases h0 : Sp.idx p xs < 0
      · rw [if_pos h0] at h; omega
      · rw [if_neg h0]
        obtain ⟨i,y,h1,h2,h3,h4⟩ := idx_at (p := p) (xs := xs) (by omega)
        refine ⟨i + 1,y,by omega,by simpa using h2,h3,fun z hz => ?_⟩
        rw [List.take_succ_cons] at hz
        rcases List.mem_cons.1 hz with rfl | hz
        · simpa using hp
        · exact h4 z hz
theorem idx_found {α : Type} {p : α → Bool} {xs : List α} (h : 0 ≤ Sp.idx p xs) : ∃ i : Nat,Sp.idx p xs = i ∧ i < xs.length ∧ (xs.take (i + 1)).filter (fun x => !p x) = xs.take i := by
  obtain ⟨i,x,h1,h2,h3,h4⟩ := idx_at h
  have hi := (List.getElem?_eq_some_iff.1 h2).1
  refine ⟨i,h1,hi,?_⟩
  rw [List.take_add_one,h2,List.filter_append,List.filter_eq_self.2 fun y hy => by simp [h4 y hy]]
  simp [h3]
theorem z4_flat (n : Nat) : (List.replicate n [I 0,I 0,I 0,I 0]).flatten = mI (List.replicate n Sp.z4).flatten := by
  rw [show [I 0,I 0,I 0,I 0] = mI Sp.z4 from rfl]
  simp [mI,List.map_flatten]
theorem ok2 {b0 : Blk} (h : blkOk 2 b0 = true) (xs : List Int) : ∀ b ∈ [b0,Blk.cells (mI xs)],blkOk 2 b = true := fun b hb => by
  rcases List.mem_cons.1 hb with rfl | hb
  · exact h
  · simp at hb; subst hb; simp [blkOk,mI_bnd]
set_option maxHeartbeats 2000000 in
/-- DeleteFunc,of vectors that are owned. -/
theorem s113 (b0 : Blk) (hb0 : blkOk 2 b0 = true) (D : List (List Int)) (h4 : ∀ v ∈ D,v.length = 4) (g : FuncId) (p : List Int → Bool) (hf : ∀ x : List Int,x.length = 4 → Abs.Spec Try.prog g [vec x] [] fun v H' => H' = [] ∧ v = B (p x)) (hl : D.length ≤ 1000000000) : Abs.Spec Try.prog 113 [.own 1 0 D.length D.length 4,.fn (.func g) [] []] [b0,.cells (mI D.flatten)] fun v H' =>
    ∃ (k : Nat) (ys : List (List Int)),k ≤ ys.length ∧ (∀ v ∈ ys,v.length = 4) ∧ ys.length = D.length ∧ v = .own 1 0 k D.length 4 ∧ H' = [b0,.cells (mI ys.flatten)] ∧ ys.take k = D.filter fun x => !p x := by
  have hvb : ∀ x : List Int,(vec x).bnd 0 = true := fun x => by simp [vec,AVal.bnd,mI_bnd]
  refine Abs.Spec.walk mixed fn113 nn113 t113 q113 nt113 (by simp) ?_
  simp only [w113,go_sem,Nat.reduceEqDiff,Nat.reduceAdd,Nat.reduceLT,Nat.reduceLeDiff,reduceIte,reduceCtorEq]
  refine CallK.pure (CallV.of_spec (first := []) (cap := []) (Spec.lend (args' := [.sl false false (mV D),.fn (.func g) [] []]) (s91 false false D h4 _ p (fun x hx => (CallV.of_spec (first := []) (cap := []) (hf x (h4 x hx))).mono fun v H' ⟨a,b⟩ => ⟨b,a⟩) (fun H => by simp [vle,vle.vleL]) (by omega)) rfl ⟨vle_mV h4 rfl (by simp) rfl,by simp [vle,vle.vleL],trivial⟩)) ?_
  by_cases hm : Sp.idx p D < 0
  · have hm1 : Sp.idx p D = -1 := by have := Sp.idx_lt p D; omega
    rw [hm1]
    have z : ((-1 : Int) == -1) = true := rfl
    simp only [z,go_sem,Nat.reduceEqDiff,Nat.reduceAdd,Nat.reduceLT,Nat.reduceLeDiff,reduceIte,reduceCtorEq]
    exact leafB' _ rfl rfl (ok2 hb0 _) (by simp [Fr.get,vid]) ⟨D.length,D,Nat.le_refl _,h4,rfl,rfl,rfl,by rw [List.take_length,idx_miss hm]⟩
  · obtain ⟨i0,e,hi0,hfl⟩ := idx_found (p := p) (xs := D) (by omega)
    rw [e]
    have z : ((i0 : Int) == -1) = false := by rw [beq_eq_false_iff_ne]; omega
    have hw : IntKind.i64.wrap ((i0 : Int) + 1) = ((i0 + 1 : Nat) : Int) := by rw [wrap64 (by omega) (by omega)]; rfl
    simp only [z,hw,go_sem,Nat.reduceEqDiff,Nat.reduceAdd,Nat.reduceLT,Nat.reduceLeDiff,reduceIte,reduceCtorEq]
    refine W_loop (fun q : { q : Nat × Nat × List (List Int) // q.1 < q.2.1 ∧ q.2.1 ≤ D.length ∧ (∀ v ∈ q.2.2,v.length = 4) ∧ q.2.2.length = D.length ∧ q.2.2.take q.1 = (D.take q.2.1).filter (fun x => !p x) ∧ q.2.2.drop q.2.1 = D.drop q.2.1 } => ([(0,own 1 0 D.length D.length 4),(1,.fn (.func g) [] []),(5,I q.1.1),(6,I q.1.2.1)],[b0,.cells (mI q.1.2.2.flatten)])) (fun q => D.length - q.1.2.1)
      ⟨(i0,i0 + 1,D),by simp,by dsimp only; omega,h4,rfl,hfl.symm,rfl⟩ (idρ 2) (WkB (B := 2) rfl (ok2 hb0 _) (by simp [Fr.get,vid])) ?_
    rintro ⟨⟨i,j,ys⟩,hij,hj,hy4,hyl,htake,hdrop⟩
    dsimp only at hij hj hy4 hyl htake hdrop ⊢
    by_cases hjl : j < D.length
    · have hz : decide ((j : Int) < D.length) = true := decide_eq_true (by omega)
      have hjl' : (j : Int) < D.length := by omega
      have hjy : j < ys.length := by omega
      have hiy : i < ys.length := by omega
      have hil' : (i : Int) < D.length := by omega
      have hwj : IntKind.i64.wrap ((j : Int) + 1) = ((j + 1 : Nat) : Int) := by rw [wrap64 (by omega) (by omega)]; rfl
      have hwi : IntKind.i64.wrap ((i : Int) + 1) = ((i + 1 : Nat) : Int) := by rw [wrap64 (by omega) (by omega)]; rfl
      obtain ⟨y,hy⟩ : ∃ y,ys.getD j [] = y := ⟨_,rfl⟩
      have hy4' : y.length = 4 := by rw [← hy]; exact getD4 hy4 hjy
      have hy' : ys[j] = y := by rw [← hy,List.getD_eq_getElem?_getD,List.getElem?_eq_getElem hjy]; rfl
      have hyD : D[j] = y := by
        have := congrArg (·[0]?) hdrop
        simp only [List.getElem?_drop,Nat.add_zero,List.getElem?_eq_getElem hjy,List.getElem?_eq_getElem hjl,Option.some.injEq] at this
        rw [← this,hy']
      have hdrop2 : ys.drop (j + 1) = D.drop (j + 1) := by
        have := congrArg (List.drop 1) hdrop
        simpa [List.drop_drop,Nat.add_comm] using this
      have htk : D.take (j + 1) = D.take j ++ [y] := by rw [List.take_add_one,List.getElem?_eq_getElem hjl,hyD]; rfl
      have hcut : cut true 4 (mI (ys.flatten.drop (j * 4))) = vec y := by rw [mF_cut' hy4 hjy,hy]
      have hyc : cut true 4 (mI y) = vec y := cut_vec hy4'
      have hyl' : (mI y).length = 4 := by rw [mI_length,hy4']
      have hput := flat_set hy4 hiy y
      have hcok : (vec y).cellsOk = true := allI_cell y
      have hml : (mI ys.flatten).length = ys.length * 4 := mF_len hy4
      simp only [w113L0,hz,hjl',hcut,hml,cells_vec,hyc,hyl',hcok,go_sem,Nat.reduceEqDiff,Nat.reduceAdd,Nat.reduceLT,Nat.reduceLeDiff,reduceIte,reduceCtorEq]
      refine ⟨by omega,?_⟩
      refine CallK.pure (CallV.of_spec (first := []) (cap := []) (Spec.lift (hf y hy4') (by simp [bndL,hvb]) rfl _)) ?_
      cases hpy : p y with
      | true =>
        simp only [hwj,go_sem,Nat.reduceEqDiff,Nat.reduceAdd,Nat.reduceLT,Nat.reduceLeDiff,reduceIte,reduceCtorEq]
        refine roundB1 (H1 := [.cells (mI y)]) ⟨(i,j + 1,ys),by dsimp only; omega,by dsimp only; omega,hy4,hyl,by dsimp only; rw [htk,List.filter_append,← htake]; simp [hpy],hdrop2⟩ (by dsimp only; omega) rfl rfl (ok2 hb0 _) (by simp [Fr.get,vid])
      | false =>
        simp only [hil',hwi,hwj,hyc,hyl',hcok,hml,cells_vec,hput,go_sem,Nat.reduceEqDiff,Nat.reduceAdd,Nat.reduceLT,Nat.reduceLeDiff,reduceIte,reduceCtorEq]
        refine ⟨by omega,?_⟩
        refine roundB1 (H1 := [.cells (mI y)]) ⟨(i + 1,j + 1,ys.set i y),by dsimp only; omega,by dsimp only; omega,set4 hy4 hy4',by simp [hyl],?_,?_⟩ (by dsimp only; omega) rfl rfl (ok2 hb0 _) (by simp [Fr.get,vid])
        · dsimp only
          rw [htk,List.filter_append,← htake,List.take_add_one,List.getElem?_set_self hiy,List.take_set_of_le (Nat.le_refl _)]
          simp [hpy]
        · dsimp only
          rw [List.drop_set_of_lt (by omega),hdrop2]
    · have hz : decide ((j : Int) < D.length) = false := decide_eq_false (by omega)
      obtain rfl : j = D.length := by omega
      rw [List.take_length] at htake
      have hil' : (i : Int) ≤ D.length := by omega
      have hml : (mI ys.flatten).length = ys.length * 4 := mF_len hy4
      have hfin : ys.flatten.take (i * 4) ++ (List.replicate (D.length - i) Sp.z4).flatten ++ ys.flatten.drop (i * 4 + (D.length - i) * 4) = (ys.take i ++ List.replicate (D.length - i) Sp.z4).flatten := by
        rw [flat_take hy4,List.drop_of_length_le (by rw [flat_len hy4]; omega)]
        simp
      have hend : ¬ ((i : Int) = (D.length : Nat) ∧ 0 < (i : Int)) := by omega
      simp only [w113L0,hz,w113T1,hil',hml,z4_flat,hfin,Nat.sub_zero,hend,go_sem,Nat.reduceEqDiff,Nat.reduceAdd,Nat.reduceLT,Nat.reduceLeDiff,reduceIte,reduceCtorEq]
      refine ⟨by omega,by omega,⟨by omega,.inl trivial⟩,?_⟩
      refine leafB' _ rfl rfl (ok2 hb0 _) (by simp [Fr.get,vid]) ⟨i,_,?_,?_,?_,rfl,rfl,?_⟩
      · simp; omega
      · intro v hv
        rcases List.mem_append.1 hv with hv | hv
        · exact hy4 v (List.mem_of_mem_take hv)
        · rw [List.eq_of_mem_replicate hv]; rfl
      · simp; omega
      · rw [List.take_append_of_le_length (by simp; omega),List.take_take,Nat.min_self,htake]
theorem filter_len {α : Type} (p : α → Bool) (l : List α) : (l.filter p).length ≤ l.length := List.length_filter_le p l
set_option maxHeartbeats 2000000 in
theorem s84 (vs : List (List Int)) (n : Int) (h0 : vs ≠ []) (hr : Sp.Rows4 vs) : Abs.Spec Try.prog 84 [matV vs n] [] fun v H' => H' = [] ∧ v = I (Sp.mostOf vs) := by
  refine Abs.Spec.walk mixed fn84 nn84 t84 q84 nt84 (by simp) ?_
  have hl2 := hr.two
  simp only [w84,matV_eq,go_sem,Nat.reduceEqDiff,Nat.reduceAdd,Nat.reduceLT,Nat.reduceLeDiff,reduceIte,reduceCtorEq]
  refine CallK.by (CallV.of_spec (first := []) (cap := []) (Spec.made (s114' false vs h0 hr.len (by omega)) (by simp [bndL,AVal.bnd,mV_bnd]) mI_bnd _)) fun v H' ⟨e1,e2⟩ => ?_
  subst e1 e2
  simp only [go_sem,Nat.reduceEqDiff,Nat.reduceAdd,Nat.reduceLT,Nat.reduceLeDiff,reduceIte,reduceCtorEq]
  refine CallK.by (CallV.of_spec (first := []) (cap := []) (s113 _ (by simp [blkOk,bndL,AVal.bnd,mV_bnd]) vs hr.len 112 (fun x => x == Sp.z4) (fun x hx => s112 x hx) (by omega))) fun v H' ⟨k,ys,hk,hy4,hyl,hv,hH,htk⟩ => ?_
  subst hv hH
  have hnl : (vs.filter fun x => !(x == Sp.z4)).length ≤ 2 := Nat.le_trans (filter_len _ _) hl2
  have hkl : (vs.filter fun x => !(x == Sp.z4)).length = k := by rw [← htk,List.length_take]; omega
  have hmem : ∀ x ∈ vs.filter (fun x => !(x == Sp.z4)),Sp.inB 2 x := fun x hx => hr.bnd x (List.mem_filter.1 hx |>.1)
  rcases Nat.lt_or_ge k 1 with h1 | h1
  · obtain rfl : k = 0 := by omega
    have e : Sp.mostOf vs = 1 := by rw [Sp.mostOf,List.eq_nil_of_length_eq_zero hkl]
    have k0 : (((0 : Nat) : Int) == 0) = true := rfl
    simp only [k0,go_sem,Nat.reduceEqDiff,Nat.reduceAdd,Nat.reduceLT,Nat.reduceLeDiff,reduceIte,reduceCtorEq]
    exact leaf (I _) rfl ⟨rfl,by rw [e]; rfl⟩
  rcases Nat.lt_or_ge k 2 with h2 | h2
  · obtain rfl : k = 1 := by omega
    obtain ⟨a,ha⟩ := List.length_eq_one_iff.1 hkl
    have e : Sp.mostOf vs = 3 := by rw [Sp.mostOf,ha]
    have k0 : (((1 : Nat) : Int) == 0) = false := rfl
    have k1 : (((1 : Nat) : Int) == 1) = true := rfl
    simp only [k0,k1,go_sem,Nat.reduceEqDiff,Nat.reduceAdd,Nat.reduceLT,Nat.reduceLeDiff,reduceIte,reduceCtorEq]
    exact leaf (I _) rfl ⟨rfl,by rw [e]; rfl⟩
  obtain rfl : k = 2 := by omega
  obtain ⟨a,b,hab⟩ : ∃ a b,(vs.filter fun x => !(x == Sp.z4)) = [a,b] := by
    match (vs.filter fun x => !(x == Sp.z4)),hkl with
    | [a,b],_ => exact ⟨a,b,rfl⟩
  rw [hab] at htk hmem
  obtain ⟨ys',rfl⟩ : ∃ ys',ys = a :: b :: ys' := ⟨ys.drop 2,by have := List.take_append_drop 2 ys; rw [htk] at this; simpa using this.symm⟩
  have e : Sp.mostOf vs = if (Sp.minors a b).all (fun d => !(d != 0)) then 3 else 16 := by rw [Sp.mostOf,hab]
  have ha4 : a.length = 4 := hy4 a (by simp)
  have hb4 : b.length = 4 := hy4 b (by simp)
  have c0 := mF_cut' hy4 (i := 0) (by simp)
  have c1 := mF_cut' hy4 (i := 1) (by simp)
  have hml : (mI (a :: b :: ys').flatten).length = (a :: b :: ys').length * 4 := mF_len hy4
  have k0 : (((2 : Nat) : Int) == 0) = false := rfl
  have k1 : (((2 : Nat) : Int) == 1) = false := rfl
  have c0 : cut true 4 (mI (a :: b :: ys').flatten) = vec a := c0
  have c1 : cut true 4 (mI (List.drop (Int.toNat 1 * 4) (a :: b :: ys').flatten)) = vec b := c1
  have ba : Sp.inB 2 a := hmem a (by simp)
  have bb : Sp.inB 2 b := hmem b (by simp)
  simp only [c0,c1,hml,k0,k1,go_sem,Nat.reduceEqDiff,Nat.reduceAdd,Nat.reduceLT,Nat.reduceLeDiff,reduceIte,reduceCtorEq]
  refine ⟨⟨Int.le_refl 0,by decide⟩,by omega,⟨by decide,by decide⟩,by show 1 * 4 + 4 ≤ _; omega,?_⟩
  refine CallKD.pure (liftV (s115 a b ha4 hb4 ba bb) (by simp [bndL,vec,AVal.bnd,mI_bnd]) (by simp [AVal.bnd,mI_bnd])) ?_
  simp only [go_sem,Nat.reduceEqDiff,Nat.reduceAdd,Nat.reduceLT,Nat.reduceLeDiff,reduceIte,reduceCtorEq]
  have hmnl : (Sp.minors a b).length ≤ 20 := by
    have := minorsTo_len (a := a) (b := b) (j := 4) (i := 0) (by omega) (by omega)
    simpa [minorsTo,Sp.minors] using this
  refine CallKD.pure (liftV (s69 false false (Sp.minors a b) (.fn (.func 116) [] []) (fun d => d != 0) (fun d _ => (CallV.of_spec (first := []) (cap := []) (s116 d)).mono fun v H' ⟨a,b⟩ => ⟨b,a⟩) (fun H => by simp [vle,vle.vleL]) (by omega)) (by simp [bndL,AVal.bnd,mI_bnd]) rfl) ?_
  by_cases hm : Sp.idx (fun d => d != 0) (Sp.minors a b) < 0
  · have hz : decide (Sp.idx (fun d => d != 0) (Sp.minors a b) < 0) = true := decide_eq_true hm
    have hall : (Sp.minors a b).all (fun d => !(d != 0)) = true := List.all_eq_true.2 fun d hd => (List.mem_filter.1 (by rw [idx_miss hm]; exact hd : d ∈ (Sp.minors a b).filter fun d => !(d != 0))).2
    rw [hall] at e
    simp only [hz,go_sem,Nat.reduceEqDiff,Nat.reduceAdd,Nat.reduceLT,Nat.reduceLeDiff,reduceIte,reduceCtorEq]
    exact leaf (I _) rfl ⟨rfl,by rw [e]; rfl⟩
  · have hz : decide (Sp.idx (fun d => d != 0) (Sp.minors a b) < 0) = false := decide_eq_false hm
    have hall : (Sp.minors a b).all (fun d => !(d != 0)) = false := by
      obtain ⟨i,d,h1,h2,h3,-⟩ := idx_at (p := fun d => d != 0) (xs := Sp.minors a b) (by omega)
      exact List.all_eq_false.2 ⟨d,List.mem_of_getElem? h2,by simpa using h3⟩
    rw [hall] at e
    simp only [hz,go_sem,Nat.reduceEqDiff,Nat.reduceAdd,Nat.reduceLT,Nat.reduceLeDiff,reduceIte,reduceCtorEq]
    exact leaf (I _) rfl ⟨rfl,by rw [e]; rfl⟩
theorem mI_ne {x : List Int} (h : x.length = 4) : mI x ≠ [] := fun e => by have := congrArg List.length e; rw [mI_length,h] at this; cases this
theorem vec_bnd (x : List Int) : (vec x).bnd 0 = true := by simp [vec,AVal.bnd,mI_bnd]
theorem s129 (r x : List Int) (A M : Int) (hA : 0 ≤ A) (hM : 0 ≤ M) (hAM : A * M ≤ 1152921504606846976) (hr : r.length = 4) (hx : x.length = 4) (br : Sp.inB A r) (bx : Sp.inB M x) : Abs.Spec Try.prog 129 [vec r,.rp (mI x)] [] fun v H' => H' = [] ∧ v = B (Sp.dp r x != 0) := by
  refine Abs.Spec.walk mixed fn129 nn129 t129 q129 nt129 (by simp) ?_
  have hrl : (mI r).length = 4 := by rw [mI_length,hr]
  have hxl : (mI x).length = 4 := by rw [mI_length,hx]
  have hrc : cut true 4 (mI r) = vec r := cut_vec hr
  have hxc : cut true 4 (mI x) = vec x := cut_vec hx
  simp only [w129,hrl,hxl,hrc,hxc,vec_eq,go_sem,Nat.reduceEqDiff,Nat.reduceAdd,Nat.reduceLT,Nat.reduceLeDiff,reduceIte,reduceCtorEq]
  refine ⟨allI_cell r,?_⟩
  refine CallK.pure (liftV (s130 r x hr hx) (by simp [bndL,vec_bnd]) rfl _) ?_
  simp only [go_sem,Nat.reduceEqDiff,Nat.reduceAdd,Nat.reduceLT,Nat.reduceLeDiff,reduceIte,reduceCtorEq]
  exact leaf (B _) rfl ⟨rfl,by rw [Sp.dot_dp hA hM hAM br bx hr]⟩
theorem s56 (nn t : Bool) (xs : List (List Int)) (h4 : ∀ x ∈ xs,x.length = 4) (fv : AVal) (p : List Int → Bool) (hf : ∀ x ∈ xs,CallV Try.prog fv [vec x] [] fun v H' => v = B (p x) ∧ H' = []) (hv : ∀ H,vle H [] [] 3 fv fv) (hl : xs.length < 9223372036854775808) :
    Abs.Spec Try.prog 56 [.sl nn t (mV xs),fv] [] fun v H' => H' = [] ∧ v = B (xs.any p) := by
  refine Abs.Spec.walk mixed fn56 nn56 t56 q56 nt56 (by simp) ?_
  simp only [w56,go_sem,Nat.reduceEqDiff,Nat.reduceAdd,Nat.reduceLT,Nat.reduceLeDiff,reduceIte,reduceCtorEq]
  refine CallK.by (CallV.of_spec (s91 nn t xs h4 fv p hf hv hl)) fun v H' ⟨h1,h2⟩ => ?_
  subst h1 h2
  simp only [go_sem,Nat.reduceEqDiff,Nat.reduceAdd,Nat.reduceLT,Nat.reduceLeDiff,reduceIte,reduceCtorEq]
  have e : decide (Sp.idx p xs ≥ 0) = xs.any p := by
    by_cases h : 0 ≤ Sp.idx p xs
    · obtain ⟨i,x,-,h2,h3,-⟩ := idx_at h
      rw [decide_eq_true h,List.any_eq_true.2 ⟨x,List.mem_of_getElem? h2,h3⟩]
    · rw [decide_eq_false (by omega)]
      symm
      rw [List.any_eq_false]
      intro x hx hp
      have := Sp.idx_pos (p := p) ⟨x,hx,hp⟩
      omega
  exact leaf (B _) rfl ⟨rfl,by rw [e]⟩
theorem s110 (vs : List (List Int)) (n : Int) (hr : Sp.Rows4 vs) (x : List Int) (M : Int) (hM : 0 ≤ M) (hAM : M ≤ 1000000000) (hx : x.length = 4) (bx : Sp.inB M x) : Abs.Spec Try.prog 110 [matV vs n,vec x] [] fun v H' => H' = [] ∧ v = B (Sp.moveB vs x) := by
  refine Abs.Spec.walk mixed fn110 nn110 t110 q110 nt110 (by simp) ?_
  have hxl : (mI x).length = 4 := by rw [mI_length,hx]
  simp only [w110,hxl,matV_eq,vec_eq,go_sem,Nat.reduceEqDiff,Nat.reduceAdd,Nat.reduceLT,Nat.reduceLeDiff,reduceIte,reduceCtorEq]
  refine ⟨allI_cell x,?_⟩
  refine CallK.pure (CallV.of_spec (first := []) (cap := []) (Spec.lend (args' := [.sl false false (mV vs),.fn (.func 129) [] [.rp (mI x)]]) (s56 false false vs hr.len _ (fun r => Sp.dp r x != 0) (fun r hrm => (CallV.of_spec (first := []) (s129 r x 2 M (by decide) hM (by omega) (hr.len r hrm) hx (hr.bnd r hrm) bx)).mono fun v H' ⟨a,b⟩ => ⟨b,a⟩) (fun H => by simp [vle,vle.vleL,mI_bnd]) (by have := hr.two; omega)) rfl ⟨by simp [vle,mV_bnd],by simp [vle,vle.vleL,mI_bnd,mI_ne hx],trivial⟩)) ?_
  simp only [go_sem,Nat.reduceEqDiff,Nat.reduceAdd,Nat.reduceLT,Nat.reduceLeDiff,reduceIte,reduceCtorEq]
  exact leaf (B _) rfl ⟨rfl,by rw [Sp.moveB]; simp [List.any_eq_not_all_not,bne]⟩
theorem s111 (vs : List (List Int)) (n : Nat) (hn : n ≤ 4) (hr : Sp.Rows4 vs) (x : List Int) (M : Nat) (hM : M ≤ 1000) (hx : x.length = 4) (bx : Sp.inB M x) (i : Nat) (hi : i ≤ 4) (most : Nat) (hmost : most ≤ 1000) : Abs.Spec Try.prog 111 [matV vs n,vec x,I i,I most] [] fun v H' => H' = [] ∧ v = B (Sp.can vs n i most x) := by
  refine Abs.Spec.walk mixed fn111 nn111 t111 q111 nt111 (by simp) ?_
  have hxl : (mI x).length = 4 := by rw [mI_length,hx]
  simp only [w111,hxl,matV_eq,vec_eq,mV_length,go_sem,Nat.reduceEqDiff,Nat.reduceAdd,Nat.reduceLT,Nat.reduceLeDiff,reduceIte,reduceCtorEq]
  refine ⟨allI_cell x,?_⟩
  refine W_loop (fun q : { q : List (List Int) × List (List Int) // q.1 ++ q.2 = vs ∧ Sp.can vs n i most x = q.2.all (Sp.canR n i most x) } => ([(2,I i),(3,I most),(4,ptr 0 0),(5,ptr 1 0),(15,sl false false (mV vs)),(16,I vs.length),(17,I q.1.1.length)],[.cells [sl false false (mV vs),I n],.cells (mI x)])) (fun q => q.1.2.length) ⟨([],vs),rfl,rfl⟩ [some 0,some 1] (Wk.mk0 rfl (by simp [imgs,Blk.alive]) (by simp [hle,csle,mI_bnd,bndL,AVal.bnd,mV_bnd]) (by simp [fle,vle,Fr.get,mV_bnd])) ?_
  rintro ⟨⟨pre,suf⟩,hp,hinv⟩
  dsimp only at hp hinv
  cases suf with
  | nil =>
    have hz : decide ((pre.length : Int) < vs.length) = false := decide_eq_false (by rw [← hp]; simp)
    simp only [w111L0,hz,w111T4,go_sem,Nat.reduceEqDiff,Nat.reduceAdd,Nat.reduceLT,Nat.reduceLeDiff,reduceIte,reduceCtorEq]
    exact leaf (B _) rfl ⟨rfl,by rw [hinv]; rfl⟩
  | cons r suf =>
    have hz : decide ((pre.length : Int) < vs.length) = true := decide_eq_true (by rw [← hp]; simp; omega)
    have hpl : pre.length < vs.length := by rw [← hp]; simp
    have hget : vs.getD pre.length [] = r := by rw [← hp]; simp [List.getD_eq_getElem?_getD]
    have hrm : r ∈ vs := by rw [← hp]; simp
    have hr4 := hr.len r hrm
    have br := hr.bnd r hrm
    have hrl : (mI r).length = 4 := by rw [mI_length,hr4]
    have hrc : cut true 4 (mI r) = vec r := cut_vec hr4
    have hwk : IntKind.i64.wrap ((pre.length : Int) + 1) = ((pre.length + 1 : Nat) : Int) := by have := hr.two; rw [wrap64 (by omega) (by omega)]; rfl
    have hmg : (mV vs).getD pre.length .any = vec r := by rw [mV_get hpl,hget]
    have hinv' : Sp.can vs n i most x = (Sp.canR n i most x r && suf.all (Sp.canR n i most x)) := hinv
    simp only [w111L0,hz,mV_length,hpl,hmg,cells_vec,hrl,hrc,go_sem,Nat.reduceEqDiff,Nat.reduceAdd,Nat.reduceLT,Nat.reduceLeDiff,reduceIte,reduceCtorEq]
    refine ⟨by omega,allI_cell r,?_⟩
    refine W_loop (fun q : { j : Nat // j ≤ n } => ([(2,I i),(3,I most),(4,ptr 0 0),(5,ptr 1 0),(10,ptr 2 0),(11,I (Sp.dp (r.take (min i q.1)) (x.take (min i q.1)))),(12,I (Sp.room most ((r.take q.1).drop i))),(15,sl false false (mV vs)),(16,I vs.length),(17,I pre.length),(22,I n),(23,I q.1)],
      [.cells [sl false false (mV vs),I n],.cells (mI x),.cells (mI r)])) (fun q => n - q.1) ⟨0,by omega⟩ [some 0,some 1,some 2] (Wk.mk0 rfl (by simp [imgs,Blk.alive]) (by simp [hle,csle,mI_bnd,bndL,AVal.bnd,mV_bnd]) (by simp [fle,vle,Fr.get,mV_bnd,Sp.dp,Sp.room])) ?_
    rintro ⟨j,hjn⟩
    dsimp only
    by_cases hj : j < n
    · have hj' : decide ((j : Int) < n) = true := decide_eq_true (by omega)
      have hwj : IntKind.i64.wrap ((j : Int) + 1) = ((j + 1 : Nat) : Int) := by rw [wrap64 (by omega) (by omega)]; rfl
      have hjr : j < r.length := by omega
      have hjx : j < x.length := by omega
      have b1 := Sp.inB_getD br j
      have b2 := Sp.inB_getD bx j (by omega)
      have b3 := Sp.mul_bound b1.1 b1.2 b2.1 b2.2
      have b4 := Sp.dp_bound (by decide) (by omega) (Sp.inB_take br (min i j)) (Sp.inB_take bx (min i j))
      have b5 := Sp.room_bound (most := most) (by omega) (by decide) (show Sp.inB 2 ((r.take j).drop i) from fun a ha => br a (List.mem_of_mem_take (List.mem_of_mem_drop ha)))
      have l1 : (r.take (min i j)).length ≤ 4 := by rw [List.length_take]; omega
      have l2 : ((r.take j).drop i).length ≤ 4 := by rw [List.length_drop,List.length_take]; omega
      have h1 : (2 : Int) * (M : Int) * ((r.take (min i j)).length : Nat) ≤ 2 * M * 4 := Int.mul_le_mul_of_nonneg_left (by omega) (by omega)
      have h2 : (2 : Int) * (most : Int) * (((r.take j).drop i).length : Nat) ≤ 2 * most * 4 := Int.mul_le_mul_of_nonneg_left (by omega) (by omega)
      by_cases hji : j < i
      · have hji' : decide ((j : Int) < i) = true := decide_eq_true (by omega)
        have e1 : Sp.dp (r.take (min i (j + 1))) (x.take (min i (j + 1))) = Sp.dp (r.take (min i j)) (x.take (min i j)) + r.getD j 0 * x.getD j 0 := by
          rw [show min i (j + 1) = j + 1 by omega,show min i j = j by omega,Sp.take_snoc hjr,Sp.take_snoc hjx,Sp.dp_snoc _ _ (by simp; omega)]
        have e2 : (r.take (j + 1)).drop i = (r.take j).drop i := by
          rw [List.drop_of_length_le (by rw [List.length_take]; omega),List.drop_of_length_le (by rw [List.length_take]; omega)]
        have e3 : IntKind.i64.wrap (Sp.dp (r.take (min i j)) (x.take (min i j)) + IntKind.i64.wrap (r.getD j 0 * x.getD j 0)) = Sp.dp (r.take (min i (j + 1))) (x.take (min i (j + 1))) := by
          rw [wrap64 (x := r.getD j 0 * x.getD j 0) (by omega) (by omega),wrap64 (by omega) (by omega),e1]
        simp only [w111L1,hj',hji',mI_hd,hjr,hjx,e3,hwj,go_sem,Nat.reduceEqDiff,Nat.reduceAdd,Nat.reduceLT,Nat.reduceLeDiff,reduceIte,reduceCtorEq]
        repeat (refine ⟨by omega,?_⟩)
        refine round1 rfl ⟨j + 1,by omega⟩ [some 0,some 1,some 2] (by dsimp only; omega) (Wk.mk0 rfl (by simp [imgs,Blk.alive]) (by simp [hle,csle,mI_bnd,bndL,AVal.bnd,mV_bnd]) (by simp [fle,vle,Fr.get,mV_bnd,e2]))
      · have hji' : decide ((j : Int) < i) = false := decide_eq_false (by omega)
        have e1 : min i (j + 1) = min i j := by omega
        have b6 : Sp.ab (r.getD j 0) ≤ 2 := Sp.ab_le.2 b1
        have b7 := Sp.ab_nonneg (r.getD j 0)
        have b8 := Sp.mul_bound (A := 2) (M := most) (a := Sp.ab (r.getD j 0)) (b := most) (by omega) b6 (by omega) (by omega)
        have e2 : Sp.room most ((r.take (j + 1)).drop i) = Sp.room most ((r.take j).drop i) + Sp.ab (r.getD j 0) * most := by
          rw [Sp.take_snoc hjr,List.drop_append_of_le_length (by rw [List.length_take]; omega),Sp.room_snoc]
        have e3 : IntKind.i64.wrap (Sp.room most ((r.take j).drop i) + IntKind.i64.wrap (Sp.ab (r.getD j 0) * most)) = Sp.room most ((r.take (j + 1)).drop i) := by
          rw [wrap64 (x := Sp.ab (r.getD j 0) * most) (by omega) (by omega),wrap64 (by omega) (by omega),e2]
        have e4 : Sp.absW (r.getD j 0) = Sp.ab (r.getD j 0) := Sp.absW_ab (by omega) (by omega)
        simp only [w111L1,hj',hji',mI_hd,hjr,hjx,go_sem,Nat.reduceEqDiff,Nat.reduceAdd,Nat.reduceLT,Nat.reduceLeDiff,reduceIte,reduceCtorEq]
        repeat (refine ⟨by omega,?_⟩)
        refine CallK.pure (liftV (s87 _) rfl rfl _) ?_
        simp only [e4,e3,hwj,go_sem,Nat.reduceEqDiff,Nat.reduceAdd,Nat.reduceLT,Nat.reduceLeDiff,reduceIte,reduceCtorEq]
        refine round1 rfl ⟨j + 1,by omega⟩ [some 0,some 1,some 2] (by dsimp only; omega) (Wk.mk0 rfl (by simp [imgs,Blk.alive]) (by simp [hle,csle,mI_bnd,bndL,AVal.bnd,mV_bnd]) (by simp [fle,vle,Fr.get,mV_bnd,e1]))
    · have hj' : decide ((j : Int) < n) = false := decide_eq_false (by omega)
      obtain rfl : j = n := by omega
      have b4 := Sp.dp_bound (by decide) (by omega) (Sp.inB_take br (min i j)) (Sp.inB_take bx (min i j))
      have l1 : (r.take (min i j)).length ≤ 4 := by rw [List.length_take]; omega
      have h1 : (2 : Int) * (M : Int) * ((r.take (min i j)).length : Nat) ≤ 2 * M * 4 := Int.mul_le_mul_of_nonneg_left (by omega) (by omega)
      have e4 : Sp.absW (Sp.dp (r.take (min i j)) (x.take (min i j))) = Sp.ab (Sp.dp (r.take (min i j)) (x.take (min i j))) := Sp.absW_ab (by omega) (by omega)
      simp only [w111L1,hj',w111T2,go_sem,Nat.reduceEqDiff,Nat.reduceAdd,Nat.reduceLT,Nat.reduceLeDiff,reduceIte,reduceCtorEq]
      refine CallK.pure (liftV (s87 _) rfl rfl _) ?_
      simp only [e4,go_sem,Nat.reduceEqDiff,Nat.reduceAdd,Nat.reduceLT,Nat.reduceLeDiff,reduceIte,reduceCtorEq]
      refine IC.splitP (fun hg => ?_) fun hg => ?_
      · have hc : Sp.canR j i most x r = false := decide_eq_false (by omega)
        simp only [go_sem,Nat.reduceEqDiff,Nat.reduceAdd,Nat.reduceLT,Nat.reduceLeDiff,reduceIte,reduceCtorEq]
        exact leaf (B _) rfl ⟨rfl,by rw [hinv',hc]; rfl⟩
      · have hc : Sp.canR j i most x r = true := decide_eq_true (by omega)
        simp only [w111T3,hwk,go_sem,Nat.reduceEqDiff,Nat.reduceAdd,Nat.reduceLT,Nat.reduceLeDiff,reduceIte,reduceCtorEq]
        refine round1 rfl ⟨(pre ++ [r],suf),by simp [hp],by rw [hinv',hc]; rfl⟩ [some 0,some 1] (by simp) (Wk.mk0 rfl (by simp [imgs,Blk.alive]) (by simp [hle,csle,mI_bnd,bndL,AVal.bnd,mV_bnd]) (by simp [fle,vle,Fr.get,mV_bnd]))
structure Mvs (mv : Nat) (vs : List (List Int)) (id : Option Nat) (H : AHeap) : Prop where
  h4 : ∀ v ∈ vs,v.length = 4
  cell : H[mv]? = some (.cells [match id with | none => nilSl | some k => .own k 0 vs.length vs.length 4])
  emp : id = none → vs = []
  blk : ∀ k,id = some k → k ≠ mv ∧ H[k]? = some (.cells (mI vs.flatten))
structure MTo (b mv : Nat) (id : Option Nat) (H : AHeap) (id' : Option Nat) (H' : AHeap) : Prop where
  hok : ∀ LP,HOk LP H → HOk LP H'
  len : H.length ≤ H'.length
  kept : ∀ j,j < b → j ≠ mv → id ≠ some j → H'[j]? = H[j]?
  own : ∀ j,id' = some j → id = some j ∨ b ≤ j
theorem MTo.refl {b mv : Nat} {id : Option Nat} {H : AHeap} : MTo b mv id H id H := ⟨fun _ h => h,Nat.le_refl _,fun _ _ _ _ => rfl,fun _ h => .inl h⟩
theorem MTo.trans {b mv : Nat} {i0 i1 i2 : Option Nat} {H H1 H2 : AHeap} (h : MTo b mv i0 H i1 H1) (k : MTo b mv i1 H1 i2 H2) : MTo b mv i0 H i2 H2 :=
  ⟨fun LP h0 => k.hok LP (h.hok LP h0),Nat.le_trans h.len k.len,fun j hj hm hi => by
    rw [k.kept j hj hm fun e => (h.own j e).elim hi fun hb => by omega]; exact h.kept j hj hm hi,fun j hj => (k.own j hj).elim (h.own j) .inr⟩
theorem MTo.le {b b' mv : Nat} {i0 i1 : Option Nat} {H H1 : AHeap} (h : MTo b mv i0 H i1 H1) (hb : b' ≤ b) : MTo b' mv i0 H i1 H1 :=
  ⟨h.hok,h.len,fun j hj => h.kept j (by omega),fun j hj => (h.own j hj).imp id fun h => by omega⟩
theorem Mvs.keep {mv : Nat} {vs : List (List Int)} {id : Option Nat} {H H' : AHeap} (h : Mvs mv vs id H) (hm : H'[mv]? = H[mv]?) (hi : ∀ k,id = some k → H'[k]? = H[k]?) : Mvs mv vs id H' :=
  ⟨h.h4,by rw [hm]; exact h.cell,h.emp,fun k hk => by rw [hi k hk]; exact h.blk k hk⟩
theorem _root_.Go.Abs.HOk.pushI {LP : Nat → Fr → Prop} {H : AHeap} (h : HOk LP H) (x : List Int) : HOk LP (H ++ [Blk.cells (mI x)]) := h.push (by simp [blkN,mI_bnd])
set_option maxHeartbeats 1000000 in
theorem s85 (mv : Nat) (vs : List (List Int)) (id : Option Nat) (H : AHeap) (x : List Int) (hx : x.length = 4) (hl : vs.length < 1073741824) (hok : HOk (LPb H.length) H) (hm : Mvs mv vs id H) :
    Abs.Spec Try.prog 85 [vec x,.ptr mv 0] H fun v H' => v = .tup [] ∧ ∃ id',Mvs mv (vs ++ [x]) id' H' ∧ MTo H.length mv id H id' H' := by
  have lt : ∀ {H : AHeap} {j b},H[j]? = some b → j < H.length := fun hj => (List.getElem?_eq_some_iff.1 hj).1
  have hml := lt hm.cell
  have hpl : (mI x).length = 4 := by rw [mI_length,hx]
  have hac := allI_cell x
  have dz : mI x ++ List.drop 4 [[I 0,I 0,I 0,I 0]].flatten = mI x := by simp
  have tk : (mI x).take 4 = mI x := List.take_of_length_le (by omega)
  have h4' : ∀ v ∈ vs ++ [x],v.length = 4 := fun v hv => by
    rcases List.mem_append.1 hv with hv | hv
    · exact hm.h4 v hv
    · simp at hv; subst hv; exact hx
  refine Abs.Spec.walk mixed fn85 nn85 t85 q85 nt85 (by simp) ?_
  cases id with
  | none =>
    obtain rfl := hm.emp rfl
    have hc : H[mv]? = some (.cells [nilSl]) := hm.cell
    have g1 : (H ++ [.cells (mI x)])[mv]? = some (.cells [nilSl]) := by rw [List.getElem?_append_left hml]; exact hc
    have g2 : (H ++ [.cells (mI x)])[H.length]? = some (.cells (mI x)) := by simp
    have g3 : cut true 4 (mI x) = vec x := cut_vec hx
    have g4 : (H ++ [.cells (mI x)] ++ [.cells (mI x)])[mv]? = some (.cells [nilSl]) := by rw [List.getElem?_append_left (by simp; omega)]; exact g1
    have g5 : (H ++ [.cells (mI x)] ++ [.cells (mI x)])[(H ++ [Blk.cells (mI x)]).length]? = some (.cells (mI x)) := by simp
    have g7 : (H ++ [.cells (mI x)] ++ [.cells (mI x)] ++ [.cells (mI x)])[mv]? = some (.cells [nilSl]) := by rw [List.getElem?_append_left (by simp; omega)]; exact g4
    simp only [w85,g1,hpl,vec_eq,g2,g3,g4,g5,dz,tk,g7,go_sem,Nat.reduceEqDiff,Nat.reduceAdd,Nat.reduceLT,Nat.reduceLeDiff,reduceIte,reduceCtorEq]
    have n2 : (H ++ [Blk.cells (mI x)] ++ [Blk.cells (mI x)]).length = H.length + 2 := by simp
    rw [n2]
    have hfin : ∀ LP,HOk LP H → HOk LP ((H ++ [Blk.cells (mI x)] ++ [Blk.cells (mI x)] ++ [Blk.cells (mI x)]).set mv (.cells [own (H.length + 2) 0 1 1 4])) := fun LP h => ((h.pushI x).pushI x |>.pushI x).set (by simp [blkN,vid])
    refine ⟨hac,by decide,leafN0 (LP := LPb H.length) (hfin _ hok) (fun _ _ h => h) (by simp) ⟨rfl,some (H.length + 2),⟨h4',?_,fun h => by (cases h),fun k hk => ?_⟩,⟨hfin,by simp,fun j hj hjm _ => ?_,fun j hj => .inr (by cases hj; omega)⟩⟩⟩
    · rw [List.getElem?_set_self (by simp; omega)]; rfl
    · cases hk
      exact ⟨by omega,by rw [List.getElem?_set_ne (by omega),List.getElem?_append_right (by simp)]; simp⟩
    · rw [List.getElem?_set_ne (by omega),List.getElem?_append_left (by simp; omega),List.getElem?_append_left (by simp; omega),List.getElem?_append_left hj]
  | some k =>
    obtain ⟨hkm,hk⟩ := hm.blk k rfl
    have hkl := lt hk
    have hc : H[mv]? = some (.cells [own k 0 vs.length vs.length 4]) := hm.cell
    have g1 : (H ++ [.cells (mI x)])[mv]? = some (.cells [own k 0 vs.length vs.length 4]) := by rw [List.getElem?_append_left hml]; exact hc
    have g2 : (H ++ [.cells (mI x)])[H.length]? = some (.cells (mI x)) := by simp
    have g3 : cut true 4 (mI x) = vec x := cut_vec hx
    have g5 : (H ++ [.cells (mI x)] ++ [.cells (mI x)])[(H ++ [Blk.cells (mI x)]).length]? = some (.cells (mI x)) := by simp
    have g6 : (H ++ [.cells (mI x)] ++ [.cells (mI x)])[k]? = some (.cells (mI vs.flatten)) := by rw [List.getElem?_append_left (by simp; omega),List.getElem?_append_left hkl]; exact hk
    have g7 : ((H ++ [Blk.cells (mI x)] ++ [Blk.cells (mI x)]).set k .dead ++ [Blk.cells (mI (vs ++ [x]).flatten)])[mv]? = some (.cells [own k 0 vs.length vs.length 4]) := by
      rw [List.getElem?_append_left (by simp; omega),List.getElem?_set_ne hkm,List.getElem?_append_left (by simp; omega)]; exact g1
    have g8 : (mI vs.flatten).take (vs.length * 4) = mI vs.flatten := List.take_of_length_le (by rw [mF_len hm.h4]; exact Nat.le_refl _)
    have g9 : vs.flatten ++ x = (vs ++ [x]).flatten := by simp
    have g10 : (vs.length + 1 ≤ vs.length) = False := by simp
    simp only [w85,g1,hpl,vec_eq,g2,g3,g5,g6,dz,tk,g7,g8,g9,g10,go_sem,Nat.reduceEqDiff,Nat.reduceAdd,Nat.reduceLT,Nat.reduceLeDiff,reduceIte,reduceCtorEq]
    have n2 : (H ++ [Blk.cells (mI x)] ++ [Blk.cells (mI x)]).length = H.length + 2 := by simp
    rw [n2]
    have hfin : ∀ LP,HOk LP H → HOk LP (((H ++ [Blk.cells (mI x)] ++ [Blk.cells (mI x)]).set k .dead ++ [Blk.cells (mI (vs ++ [x]).flatten)]).set mv (.cells [own (H.length + 2) 0 (vs.length + 1) (vs.length + 1) 4])) := fun LP h => ((((h.pushI x).pushI x).set (b := .dead) trivial).pushI _).set (by simp [blkN,vid])
    refine ⟨hac,⟨by rw [flat_len hm.h4]; exact Nat.le_refl _,by omega⟩,leafN0 (LP := LPb H.length) (hfin _ hok) (fun _ _ h => h) (by simp; omega) ⟨rfl,some (H.length + 2),⟨h4',?_,fun h => by (cases h),fun k hk => ?_⟩,⟨hfin,by simp; omega,fun j hj hjm hjk => ?_,fun j hj => .inr (by cases hj; omega)⟩⟩⟩
    · rw [List.getElem?_set_self (by simp; omega)]; simp
    · cases hk
      exact ⟨by omega,by rw [List.getElem?_set_ne (by omega),List.getElem?_append_right (by simp)]; simp⟩
    · have hjk : k ≠ j := fun e => hjk (by rw [e])
      rw [List.getElem?_set_ne (by omega),List.getElem?_append_left (by simp; omega),List.getElem?_set_ne hjk,List.getElem?_append_left (by simp; omega),List.getElem?_append_left hj]
def growV (m xb mb fb g : Nat) : AVal := .fn (.func 109) [] [.ptr m 0,.ptr xb 0,.ptr fb 0,.ptr mb 0,.ptr g 0]
section
variable {m xb mb fb g mv n most : Nat} {rows : List (List Int)}
structure GSt (m xb mb fb g mv n most : Nat) (rows : List (List Int)) (x : List Int) (vs : List (List Int)) (id : Option Nat) (H : AHeap) : Prop where
  mvs : Mvs mv vs id H
  hm : H[m]? = some (.cells [.sl false false (mV rows),I n])
  hx : H[xb]? = some (.cells (mI x))
  hf : H[fb]? = some (.cells [.fn (.func 85) [] [.ptr mv 0]])
  hmb : H[mb]? = some (.cells [I most])
  hg : H[g]? = some (.cells [growV m xb mb fb g])
  ne : ∀ j,(j = m ∨ j = xb ∨ j = fb ∨ j = mb ∨ j = g) → j ≠ mv ∧ id ≠ some j
theorem GSt.keep {x : List Int} {vs vs' : List (List Int)} {id id' : Option Nat} {H H' : AHeap} (h : GSt m xb mb fb g mv n most rows x vs id H) (hv : Mvs mv vs' id' H') (ht : MTo H.length mv id H id' H') : GSt m xb mb fb g mv n most rows x vs' id' H' := by
  have lt : ∀ {j b},H[j]? = some b → j < H.length := fun hj => (List.getElem?_eq_some_iff.1 hj).1
  have k : ∀ j b,(j = m ∨ j = xb ∨ j = fb ∨ j = mb ∨ j = g) → H[j]? = some b → H'[j]? = some b := fun j b hj hb => by
    rw [ht.kept j (lt hb) (h.ne j hj).1 (h.ne j hj).2]; exact hb
  refine ⟨hv,k _ _ (by simp) h.hm,k _ _ (by simp) h.hx,k _ _ (by simp) h.hf,k _ _ (by simp) h.hmb,k _ _ (by simp) h.hg,fun j hj => ⟨(h.ne j hj).1,fun e => ?_⟩⟩
  have hjl : j < H.length := by
    rcases hj with rfl | rfl | rfl | rfl | rfl
    · exact lt h.hm
    · exact lt h.hx
    · exact lt h.hf
    · exact lt h.hmb
    · exact lt h.hg
  rcases ht.own j e with e | e
  · exact (h.ne j hj).2 e
  · omega
theorem GSt.put {b0 : Nat} {x : List Int} {vs : List (List Int)} {id : Option Nat} {H : AHeap} (h : GSt m xb mb fb g mv n most rows x vs id H) (hb : b0 ≤ xb) (hd : xb ≠ m ∧ xb ≠ fb ∧ xb ≠ mb ∧ xb ≠ g) (y : List Int) : GSt m xb mb fb g mv n most rows y vs id (H.set xb (.cells (mI y))) ∧ MTo b0 mv id H id (H.set xb (.cells (mI y))) := by
  have hxl := (List.getElem?_eq_some_iff.1 h.hx).1
  have kp : ∀ j,j ≠ xb → (H.set xb (.cells (mI y)))[j]? = H[j]? := fun j hj => List.getElem?_set_ne (Ne.symm hj)
  have hne := h.ne xb (by simp)
  refine ⟨⟨h.mvs.keep (kp _ (Ne.symm hne.1)) fun k hk => kp k fun e => hne.2 (by rw [hk,e]),by rw [kp _ (Ne.symm hd.1)]; exact h.hm,by rw [List.getElem?_set_self hxl],by rw [kp _ (Ne.symm hd.2.1)]; exact h.hf,by rw [kp _ (Ne.symm hd.2.2.1)]; exact h.hmb,by rw [kp _ (Ne.symm hd.2.2.2)]; exact h.hg,h.ne⟩,?_⟩
  exact ⟨fun LP h0 => h0.set (by simp [blkN,mI_bnd]),by simp,fun j hj _ _ => kp j (by omega),fun j hj => .inl hj⟩
set_option maxHeartbeats 4000000 in
theorem s109 {b0 : Nat} (hn : n ≤ 4) (hmost : most ≤ 16) (hr : Sp.Rows4 rows) (hb : b0 ≤ xb) (hd : xb ≠ m ∧ xb ≠ fb ∧ xb ≠ mb ∧ xb ≠ g) :
    ∀ (k i : Nat) (x : List Int) (vs : List (List Int)) (id : Option Nat) (H : AHeap),i + k = n → x.length = 4 → Sp.inB most x → (∀ j,i ≤ j → x.getD j 0 = 0) → vs.length + (Sp.growL rows n most k i x).length < 1073741824 → HOk (LPb H.length) H → GSt m xb mb fb g mv n most rows x vs id H →
      Abs.Spec Try.prog 109 [I i,.ptr m 0,.ptr xb 0,.ptr fb 0,.ptr mb 0,.ptr g 0] H fun v H' => v = .tup [] ∧ ∃ id',GSt m xb mb fb g mv n most rows x (vs ++ Sp.growL rows n most k i x) id' H' ∧ MTo b0 mv id H id' H'
  | 0,i,x,vs,id,H,hin,hx4,hxb,hx0,hvl,hok,hg => by
    obtain rfl : i = n := by omega
    have hpl : (mI x).length = 4 := by rw [mI_length,hx4]
    have hcx : cut true 4 (mI x) = vec x := cut_vec hx4
    have hmc : cut true 2 [sl false false (mV rows),I i] = matV rows i := rfl
    have hz : AVal.agg [I 0,I 0,I 0,I 0] = .agg (mI Sp.z4) := rfl
    refine Abs.Spec.walk mixed fn109 nn109 t109 q109 nt109 (by simp) ?_
    have hq : ((i : Int) == i) = true := by simp
    simp only [w109T1,w109L0,w109,hg.hm,hg.hx,hcx,hpl,hq,vec_eq,hz,go_sem,Nat.reduceEqDiff,Nat.reduceAdd,Nat.reduceLT,Nat.reduceLeDiff,reduceIte,reduceCtorEq]
    refine ⟨⟨hx4,rfl⟩,?_⟩
    have leave : ∀ {fr : Fr},Sp.growL rows i most 0 i x = [] → retA H.length r109 (fun v H' => v = .tup [] ∧ ∃ id',GSt m xb mb fb g mv i most rows x (vs ++ Sp.growL rows i most 0 i x) id' H' ∧ MTo b0 mv id H id' H') .ret fr H [] := fun he =>
      leafN0 (LP := LPb H.length) hok (fun _ _ h => h) (Nat.le_refl _) ⟨rfl,id,by rw [he,List.append_nil]; exact hg,.refl⟩
    refine G.split (fun hnz => ?_) fun hnz => ?_
    rotate_left
    · have hz0 : (x == Sp.z4) = true := by simpa using hnz
      simp only [go_sem,Nat.reduceEqDiff,Nat.reduceAdd,Nat.reduceLT,Nat.reduceLeDiff,reduceIte,reduceCtorEq]
      exact leave (by rw [Sp.growL,hz0]; rfl)
    have hz0 : (x == Sp.z4) = false := by simpa using hnz
    simp only [hg.hm,hg.hx,hcx,hpl,vec_eq,hmc,go_sem,Nat.reduceEqDiff,Nat.reduceAdd,Nat.reduceLT,Nat.reduceLeDiff,reduceIte,reduceCtorEq]
    refine CallK.pure (liftV (s110 rows i hr x most (by omega) (by omega) hx4 hxb) (by simp [bndL,vec_bnd,matV,AVal.bnd,mV_bnd]) rfl _) ?_
    simp only [go_sem,Nat.reduceEqDiff,Nat.reduceAdd,Nat.reduceLT,Nat.reduceLeDiff,reduceIte,reduceCtorEq]
    refine IC.split (fun hm => ?_) fun hm => ?_
    rotate_left
    · simp only [go_sem,Nat.reduceEqDiff,Nat.reduceAdd,Nat.reduceLT,Nat.reduceLeDiff,reduceIte,reduceCtorEq]
      exact leave (by rw [Sp.growL,hz0,hm]; rfl)
    have hgl : Sp.growL rows i most 0 i x = [x] := by rw [Sp.growL,hz0,hm]; rfl
    rw [hgl] at hvl ⊢
    simp only [hg.hf,hg.hx,hcx,hpl,vec_eq,go_sem,Nat.reduceEqDiff,Nat.reduceAdd,Nat.reduceLT,Nat.reduceLeDiff,reduceIte,reduceCtorEq]
    refine CallK.by (CallV.of_spec (first := []) (cap := [.ptr mv 0]) (s85 mv vs id H x hx4 (by simp at hvl; omega) hok hg.mvs)) fun v H' ⟨hv,id',hm',hto⟩ => ?_
    subst hv
    simp only [go_sem,Nat.reduceEqDiff,Nat.reduceAdd,Nat.reduceLT,Nat.reduceLeDiff,reduceIte,reduceCtorEq]
    have hto' : MTo b0 mv id H id' H' := hto.le (by have := (List.getElem?_eq_some_iff.1 hg.hx).1; omega)
    exact leafN0 (LP := LPb H.length) (hto.hok _ hok) (fun _ _ h => h) hto.len ⟨rfl,id',hg.keep hm' hto,hto'⟩
  | k + 1,i,x,vs,id,H,hin,hx4,hxb,hx0,hvl,hok,hg => by
    have lt : ∀ {H : AHeap} {j b},H[j]? = some b → j < H.length := fun hj => (List.getElem?_eq_some_iff.1 hj).1
    have hpl : (mI x).length = 4 := by rw [mI_length,hx4]
    have hmc : cut true 2 [sl false false (mV rows),I n] = matV rows n := rfl
    have hix : i < x.length := by omega
    have hi4 : (i : Int) < 4 := by omega
    have hq : ((i : Int) == n) = false := by rw [beq_eq_false_iff_ne]; omega
    have hwi : IntKind.i64.wrap ((i : Int) + 1) = ((i + 1 : Nat) : Int) := by rw [wrap64 (by omega) (by omega)]; rfl
    have hwn : IntKind.i64.wrap (0 - (most : Int)) = ((0 : Nat) : Int) - most := wrap64 (by omega) (by omega)
    refine Abs.Spec.walk mixed fn109 nn109 t109 q109 nt109 (by simp) ?_
    obtain ⟨F,hF⟩ : ∃ F : Nat → List (List Int),F = fun (c : Nat) => if Sp.can rows n (i + 1) most (x.set i ((c : Int) - most)) then Sp.growL rows n most k (i + 1) (x.set i ((c : Int) - most)) else [] := ⟨_,rfl⟩
    obtain ⟨N,hN⟩ : ∃ N,N = 2 * most + 1 := ⟨_,rfl⟩
    have hE : Sp.growL rows n most (k + 1) i x = (List.range N).flatMap F := by rw [hF,hN]; rfl
    rw [hE] at hvl ⊢
    obtain ⟨hg0,hto0⟩ := hg.put hb hd (x.set i (((0 : Nat) : Int) - most))
    simp only [w109T1,w109L0,w109,hg.hm,hg.hx,hpl,hq,hg.hmb,hwn,hi4,mI_put,set_put,hix,go_sem,Nat.reduceEqDiff,Nat.reduceAdd,Nat.reduceLT,Nat.reduceLeDiff,reduceIte,reduceCtorEq]
    refine ⟨by omega,by omega,?_⟩
    have hok0 := hto0.hok _ hok
    have hl0 : (H.set xb (.cells (mI (x.set i (((0 : Nat) : Int) - most))))).length = H.length := by simp
    generalize H.set xb (.cells (mI (x.set i (((0 : Nat) : Int) - most)))) = H0 at hg0 hto0 hok0 hl0 ⊢
    refine W_loop (fun q : { q : Nat × Option Nat × AHeap // q.1 ≤ N ∧ GSt m xb mb fb g mv n most rows (x.set i ((q.1 : Int) - most)) (vs ++ (List.range q.1).flatMap F) q.2.1 q.2.2 ∧ MTo b0 mv id H q.2.1 q.2.2 } =>
      ([(0,I i),(1,.ptr m 0),(2,.ptr xb 0),(4,.ptr mb 0),(5,.ptr g 0)],q.1.2.2)) (fun q => N - q.1.1) ⟨(0,id,H0),by omega,by simpa using hg0,hto0⟩ (idρ H0.length) (Wk.ok hok0 (fun _ _ h => h) (by rw [hl0]; exact Nat.le_refl _) (by
        have l1 := lt hg0.hm; have l2 := lt hg0.hx; have l3 := lt hg0.hmb; have l4 := lt hg0.hg
        intro q hq
        simp only [List.mem_cons,List.not_mem_nil,or_false] at hq
        rcases hq with rfl | rfl | rfl | rfl | rfl <;> exact ⟨rfl,by simp [vid,l1,l2,l3,l4]⟩) (fun _ h => by cases h)) ?_
    rintro ⟨⟨c,id1,H1⟩,hc,hg1,hto1⟩
    dsimp only at hc hg1 hto1 ⊢
    have hok1 := hto1.hok _ hok
    have hgx : (x.set i ((c : Int) - most)).getD i 0 = (c : Int) - most := by simp [List.getD_eq_getElem?_getD,hix]
    have hxl1 : i < (x.set i ((c : Int) - most)).length := by simpa using hix
    have hpl1 : (mI (x.set i ((c : Int) - most))).length = 4 := by rw [mI_length,List.length_set,hx4]
    by_cases hcl : c < N
    · have hz : decide ((c : Int) - most ≤ most) = true := decide_eq_true (by omega)
      have hcx : cut true 4 (mI (x.set i ((c : Int) - most))) = vec (x.set i ((c : Int) - most)) := cut_vec (by rw [List.length_set,hx4])
      have hwc : IntKind.i64.wrap ((c : Int) - most + 1) = ((c + 1 : Nat) : Int) - most := by rw [wrap64 (by omega) (by omega)]; omega
      have hib : Sp.inB most (x.set i ((c : Int) - most)) := fun a ha => by
        rcases List.mem_or_eq_of_mem_set ha with ha | rfl
        · exact hxb a ha
        · omega
      simp only [w109L0,hg1.hm,hg1.hx,hg1.hmb,mI_hd,hxl1,hgx,hz,hi4,hpl1,hcx,hmc,vec_eq,hwi,go_sem,Nat.reduceEqDiff,Nat.reduceAdd,Nat.reduceLT,Nat.reduceLeDiff,reduceIte,reduceCtorEq]
      refine ⟨by omega,by omega,?_⟩
      have hsplit : ∃ r,List.range N = List.range c ++ c :: r := ⟨(List.range N).drop (c + 1),by
        have h1 : (List.range N).take c = List.range c := by rw [List.take_range]; congr 1; omega
        have h2 : (List.range N).drop c = c :: (List.range N).drop (c + 1) := by
          rw [List.drop_eq_getElem_cons (by simpa using hcl)]; simp
        rw [← h1,← h2,List.take_append_drop]⟩
      have hlen : ((List.range c).flatMap F).length + (F c).length ≤ ((List.range N).flatMap F).length := by
        obtain ⟨r,hr'⟩ := hsplit
        rw [hr',List.flatMap_append,List.flatMap_cons,List.length_append,List.length_append]; omega
      have hnext : (List.range (c + 1)).flatMap F = (List.range c).flatMap F ++ F c := by simp [List.range_succ,List.flatMap_append]
      refine CallK.pure (liftV (s111 rows n hn hr (x.set i ((c : Int) - most)) most (by omega) (by rw [List.length_set,hx4]) hib (i + 1) (by omega) most (by omega)) (by simp [bndL,vec_bnd,matV,AVal.bnd,mV_bnd]) rfl _) ?_
      simp only [go_sem,Nat.reduceEqDiff,Nat.reduceAdd,Nat.reduceLT,Nat.reduceLeDiff,reduceIte,reduceCtorEq]
      have back : ∀ (id2 : Option Nat) (H2 : AHeap),GSt m xb mb fb g mv n most rows (x.set i ((c : Int) - most)) (vs ++ (List.range (c + 1)).flatMap F) id2 H2 → MTo b0 mv id H id2 H2 →
          GSt m xb mb fb g mv n most rows (x.set i (((c + 1 : Nat) : Int) - most)) (vs ++ (List.range (c + 1)).flatMap F) id2 (H2.set xb (.cells (mI ((x.set i ((c : Int) - most)).set i (((c + 1 : Nat) : Int) - most))))) ∧ MTo b0 mv id H id2 (H2.set xb (.cells (mI ((x.set i ((c : Int) - most)).set i (((c + 1 : Nat) : Int) - most))))) := fun id2 H2 h2 t2 => by
        obtain ⟨k1,k2⟩ := h2.put hb hd ((x.set i ((c : Int) - most)).set i (((c + 1 : Nat) : Int) - most))
        refine ⟨?_,t2.trans k2⟩
        rw [List.set_set] at k1 ⊢
        exact k1
      refine IC.split (fun hcan => ?_) fun hcan => ?_
      · have hFc : F c = Sp.growL rows n most k (i + 1) (x.set i ((c : Int) - most)) := by rw [hF]; simp only [hcan,if_true]
        simp only [hg1.hg,growV,hwi,go_sem,Nat.reduceEqDiff,Nat.reduceAdd,Nat.reduceLT,Nat.reduceLeDiff,reduceIte,reduceCtorEq]
        refine CallK.by (CallV.of_spec (first := []) (cap := [.ptr m 0,.ptr xb 0,.ptr fb 0,.ptr mb 0,.ptr g 0]) (s109 hn hmost hr hb hd k (i + 1) (x.set i ((c : Int) - most)) (vs ++ (List.range c).flatMap F) id1 H1 (by omega) (by rw [List.length_set,hx4]) hib (fun j hj => by
          have := hx0 j (by omega)
          rw [List.getD_eq_getElem?_getD] at this ⊢
          rw [List.getElem?_set_ne (by omega)]; exact this) (by rw [← hFc,List.length_append]; omega) (hok1.mono fun _ _ h => h.mono (by have := hto1.len; omega)) hg1)) fun v H2 ⟨hv,id2,hg2,hto2⟩ => ?_
        subst hv
        rw [← hFc,List.append_assoc,← hnext] at hg2
        obtain ⟨k1,k2⟩ := back _ _ hg2 (hto1.trans hto2)
        simp only [hg2.hx,mI_hd,hxl1,hgx,hi4,hwc,mI_put,set_put,go_sem,Nat.reduceEqDiff,Nat.reduceAdd,Nat.reduceLT,Nat.reduceLeDiff,reduceIte,reduceCtorEq]
        repeat (refine ⟨by omega,?_⟩)
        have l1 := lt k1.hm; have l2 := lt k1.hx; have l3 := lt k1.hmb; have l4 := lt k1.hg
        refine roundN (LP := LPb H.length) (k2.hok _ hok) (fun _ _ h => h) k2.len ⟨(c + 1,id2,_),by omega,k1,k2⟩ (by dsimp only; omega) rfl ?_
        intro q hq
        simp only [List.mem_cons,List.not_mem_nil,or_false] at hq
        rcases hq with rfl | rfl | rfl | rfl | rfl <;> exact ⟨rfl,by simp only [vid,l1,l2,l3,l4,decide_true]⟩
      · have hFc : F c = [] := by rw [hF]; simp only [hcan]; rfl
        rw [← List.append_nil ((List.range c).flatMap F),← hFc,← hnext] at hg1
        obtain ⟨k1,k2⟩ := back _ _ hg1 hto1
        simp only [hg1.hx,mI_hd,hxl1,hgx,hi4,hwc,mI_put,set_put,go_sem,Nat.reduceEqDiff,Nat.reduceAdd,Nat.reduceLT,Nat.reduceLeDiff,reduceIte,reduceCtorEq]
        repeat (refine ⟨by omega,?_⟩)
        have l1 := lt k1.hm; have l2 := lt k1.hx; have l3 := lt k1.hmb; have l4 := lt k1.hg
        refine roundN (LP := LPb H.length) (k2.hok _ hok) (fun _ _ h => h) k2.len ⟨(c + 1,id1,_),by omega,k1,k2⟩ (by dsimp only; omega) rfl ?_
        intro q hq
        simp only [List.mem_cons,List.not_mem_nil,or_false] at hq
        rcases hq with rfl | rfl | rfl | rfl | rfl <;> exact ⟨rfl,by simp only [vid,l1,l2,l3,l4,decide_true]⟩
    · obtain rfl : c = N := by omega
      have hz : decide ((c : Int) - most ≤ most) = false := decide_eq_false (by omega)
      simp only [w109L0,hg1.hm,hg1.hx,hg1.hmb,mI_hd,hxl1,hgx,hz,hi4,hpl1,w109T1,mI_put,set_put,go_sem,Nat.reduceEqDiff,Nat.reduceAdd,Nat.reduceLT,Nat.reduceLeDiff,reduceIte,reduceCtorEq]
      repeat (refine ⟨by omega,?_⟩)
      obtain ⟨k1,k2⟩ := hg1.put hb hd ((x.set i ((c : Int) - most)).set i 0)
      have hx' : (x.set i ((c : Int) - most)).set i 0 = x := by
        rw [List.set_set]
        apply List.ext_getElem (by simp)
        intro j h1 h2
        rw [List.getElem_set]
        split
        · rename_i e
          subst e
          have := hx0 i (Nat.le_refl _)
          rw [List.getD_eq_getElem?_getD,List.getElem?_eq_getElem hix] at this
          simpa using this.symm
        · rfl
      rw [hx'] at k1 k2 ⊢
      have k3 := hto1.trans k2
      exact leafN0 (LP := LPb H.length) (k3.hok _ hok) (fun _ _ h => h) k3.len ⟨rfl,id1,k1,k3⟩
end
theorem s83 (rows : List (List Int)) (n most mv : Nat) (hn : n ≤ 4) (hmost : most ≤ 16) (hr : Sp.Rows4 rows) (vs : List (List Int)) (id : Option Nat) (H : AHeap) (hvl : vs.length + (Sp.growL rows n most n 0 Sp.z4).length < 1073741824) (hok : HOk (LPb H.length) H) (hm : Mvs mv vs id H) :
    Abs.Spec Try.prog 83 [matV rows n,I most,.fn (.func 85) [] [.ptr mv 0]] H fun v H' => v = .tup [] ∧ ∃ id',Mvs mv (vs ++ Sp.growL rows n most n 0 Sp.z4) id' H' ∧ MTo H.length mv id H id' H' := by
  refine Abs.Spec.walk mixed fn83 nn83 t83 q83 nt83 (by simp) ?_
  simp only [w83,matV_eq,List.append_assoc,List.cons_append,List.nil_append,List.length_append,List.length_cons,List.length_nil,app_get,app_get0,app_set,app_set0,List.getElem?_cons_succ,List.getElem?_cons_zero,List.set_cons_succ,List.set_cons_zero,go_sem,Nat.reduceEqDiff,Nat.reduceAdd,Nat.reduceLT,Nat.reduceLeDiff,reduceIte,reduceCtorEq]
  have lt : ∀ {H : AHeap} {j b},H[j]? = some b → j < H.length := fun hj => (List.getElem?_eq_some_iff.1 hj).1
  have hml := lt hm.cell
  have hidl : ∀ k,id = some k → k < H.length := fun k hk => lt (hm.blk k hk).2
  obtain ⟨T,hT⟩ : ∃ T : AHeap,T = [Blk.cells [sl false false (mV rows),I n],Blk.cells [I most],Blk.cells [fn (Fn.func 85) [] [ptr mv 0]],Blk.cells (mI Sp.z4),Blk.cells [growV H.length (H.length + 3) (H.length + 1) (H.length + 2) (H.length + 4)]] := ⟨_,rfl⟩
  have hTl : T.length = 5 := by rw [hT]; rfl
  have hTk : ∀ LP,HOk LP H → HOk LP (H ++ T) := fun LP h => by
    have e : H ++ T = ((((H ++ [Blk.cells [sl false false (mV rows),I n]]) ++ [Blk.cells [I most]]) ++ [Blk.cells [fn (Fn.func 85) [] [ptr mv 0]]]) ++ [Blk.cells (mI Sp.z4)]) ++ [Blk.cells [growV H.length (H.length + 3) (H.length + 1) (H.length + 2) (H.length + 4)]] := by rw [hT]; simp
    rw [e]
    refine (((((h.push ?_).push ?_).push ?_).pushI _).push ?_)
    · simp [blkN,bndL,AVal.bnd,mV_bnd]
    · simp [blkN,bndL,AVal.bnd]
    · have : mv < H.length + 1 + 1 + 1 := by omega
      simp [blkN,vid,this]
    · simp [blkN,vid,growV]
      omega
  have hto : MTo H.length mv id H id (H ++ T) := ⟨hTk,by simp,fun j hj _ _ => List.getElem?_append_left hj,fun j hj => .inl hj⟩
  have hg : GSt H.length (H.length + 3) (H.length + 1) (H.length + 2) (H.length + 4) mv n most rows Sp.z4 vs id (H ++ T) := by
    refine ⟨hm.keep (List.getElem?_append_left hml) fun k hk => List.getElem?_append_left (hidl k hk),?_,?_,?_,?_,?_,fun j hj => ⟨by omega,fun e => by have := hidl j e; omega⟩⟩
    · rw [app_get0,hT]; rfl
    · rw [app_get,hT]; rfl
    · rw [app_get,hT]; rfl
    · rw [app_get,hT]; rfl
    · rw [app_get,hT]; rfl
  have hTe : [Blk.cells [sl false false (mV rows),I n],Blk.cells [val (Value.int IntKind.i64 most)],Blk.cells [fn (Fn.func 85) [] [ptr mv 0]],Blk.cells [I 0,I 0,I 0,I 0],Blk.cells [fn (Fn.func 109) [] [ptr H.length 0,ptr (H.length + 3) 0,ptr (H.length + 2) 0,ptr (H.length + 1) 0,ptr (H.length + 4) 0]]] = T := by rw [hT]; rfl
  rw [hTe]
  have hok5 : HOk (LPb (H ++ T).length) (H ++ T) := (hTk _ hok).mono fun _ _ h => h.mono (by simp)
  refine CallK.by (CallV.of_spec (first := []) (cap := [ptr H.length 0,ptr (H.length + 3) 0,ptr (H.length + 2) 0,ptr (H.length + 1) 0,ptr (H.length + 4) 0]) (s109 (b0 := H.length) hn hmost hr (by omega) ⟨by omega,by omega,by omega,by omega⟩ n 0 Sp.z4 vs id (H ++ T) (by omega) rfl (fun a ha => by simp [Sp.z4] at ha; omega) (fun j _ => by
    rw [List.getD_eq_getElem?_getD]
    match j with
    | 0 => rfl
    | 1 => rfl
    | 2 => rfl
    | 3 => rfl
    | j + 4 => rfl) hvl hok5 hg)) fun v H' ⟨hv,id',hg',hto'⟩ => ?_
  subst hv
  simp only [go_sem,Nat.reduceEqDiff,Nat.reduceAdd,Nat.reduceLT,Nat.reduceLeDiff,reduceIte,reduceCtorEq]
  have hto2 := hto.trans hto'
  exact leafN0 (LP := LPb H.length) (hto2.hok _ hok) (fun _ _ h => h) hto2.len ⟨rfl,id',hg'.mvs,hto2⟩
end Go.Proofs.Ytlonaefihjdkpaa
