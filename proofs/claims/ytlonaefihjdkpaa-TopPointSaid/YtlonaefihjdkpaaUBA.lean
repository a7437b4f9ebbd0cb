/- Contracts: copies of slices; Contracts: orders,and searching; Contracts: valid wishes,the best card; Contracts: tables,equality,the reference's valid wishes. -/
import Derived.Test.YtlonaefihjdkpaaUCA
import Derived.Test.YtlonaefihjdkpaaSP
namespace Go.Proofs.Ytlonaefihjdkpaa
open Go.Abs AVal
set_option linter.unusedSimpArgs false
attribute [local go_sem] W_skip W_keep KQ_canon canon Fr.norm W_seq W_block W_scope W_cond W_exit W_ret W_ops W_draw KQ_nil KQ_norm_seq KQ_exit_seq KQ_ret_seq KQ_norm_block KQ_ret_block KQ_exit_block KQ_exit_loop KQ_ret_loop O_nil O_cons O_guard' S_call S_mv SE_mv SD_mv S_pick SE_pick SD_pick S_bin SE_bin SD_bin S_eqb SE_eqb SD_eqb S_eqv SE_eqv SD_eqv S_eqnil SE_eqnil SD_eqnil S_un SE_un SD_un S_conv SE_conv SD_conv S_mkfn SE_mkfn SD_mkfn S_load SE_load SD_load S_nilck SE_nilck SD_nilck S_slS SE_slS SD_slS S_slP SE_slP SD_slP S_fldA SE_fldA SD_fldA S_fld SE_fld SD_fld S_ixS SE_ixS SD_ixS S_ixP SE_ixP SD_ixP S_ixV SE_ixV SD_ixV S_ixStr SE_ixStr SD_ixStr S_ext SE_ext SD_ext S_len SE_len SD_len S_lenStr SE_lenStr SD_lenStr S_lenc SE_lenc SD_lenc S_mn SE_mn SD_mn S_mx SE_mx SD_mx S_build SE_build SD_build S_alloc SD_alloc S_box SD_box S_bslice SD_bslice S_mksl SD_mksl S_store SD_store S_append SD_append S_copy SD_copy S_clr SD_clr S_mlen SE_mlen SD_mlen S_mget SE_mget SD_mget S_mval SE_mval SD_mval S_mentry SE_mentry SD_mentry S_mkmap SD_mkmap S_mset SD_mset S_mrange SD_mrange S_mnext mlenA mgetA mvalA mentryA msetA mrangeA cells_mp isCell_mp cellsOk_mp aq_some aa_some al_some alA_some aqd_some aad_some ald_some ape_some D_done D_both D_early D_earlyG' D_step D_stepG' SE_call SD_call G_bool GE_bool GS_bool icond_bool IOpd.ev Fr.get Fr.put Fr.putd entryFr pickA binA binI isSh shI eqbA eqvA ints ints_mI Option.map_some eqnilA unA convA loadA nilckA intA slSA slPA fldAA fldVA ixSA ixPA ixVA ixStrA extA lenA lenStrA mnA mxA AVal.fits fillA fillOk buildA opa srcA appA stoA copA clrA rdFree zeros List.length_nil List.length_cons List.length_map List.map_cons List.map_nil Option.map_some Option.map_none if_true if_false ite_true ite_false true_and and_true and_self implies_true forall_const true_implies Bool.false_eq_true Bool.not_true Bool.not_false decide_eq_true_eq decide_eq_false_iff_not eq_self List.getElem?_cons_zero List.getElem?_cons_succ List.getElem?_nil List.set_cons_zero List.set_cons_succ List.nil_append List.cons_append List.append_nil List.replicate_zero List.replicate_succ Nat.zero_add false_implies rng_lt rng_end rng_get cells_I cells_B cells_sl cut_one Int.toNat_natCast Int.natCast_nonneg List.headD_cons Int.lt_irrefl not_false_eq_true decide_false decide_true mI_length mI_cells mI_sz mI_isCell mI_mid mI_append mI_take mI_drop cells_val cells_own cells_agg isCell_I isCell_B isCell_nil isCell_sl isCell_own isCell_ptr isCell_fn isCell_rp isCell_yld cellsOk_I cellsOk_B cellsOk_nil cellsOk_sl cellsOk_own cellsOk_ptr cellsOk_fn cellsOk_rp cellsOk_yld cellsOk_agg cells_nil cells_ptr cells_fn cells_rp List.all_cons List.all_nil Bool.and_true Nat.mul_one Nat.zero_mul Nat.one_mul List.take_zero List.take_nil List.drop_nil List.drop_zero List.not_mem_nil Nat.le_refl Nat.zero_le mS_length mS_cells mS_sz mS_isCell mS_mid mS_append mS_take mS_drop cells_sI isCell_sI cellsOk_sI sI_eq succ_le_self' List.take_succ_cons List.drop_succ_cons List.take_length beq_self_eq_true List.mem_cons or_false forall_eq mI_put mI_rep
theorem s6nil : Abs.Spec Try.prog 6 [nilSl] [] fun v H' => H' = [] ∧ v = .sl false false (mI []) := by
  refine Abs.Spec.walk mixed fn6 nn6 t6 q6 nt6 (by simp) ?_
  simp only [w6,go_sem,Nat.reduceEqDiff,Nat.reduceAdd,Nat.reduceLT,Nat.reduceLeDiff,reduceIte,reduceCtorEq]
  exact leaf (.sl false false (mI [])) ⟨rfl,rfl,rfl⟩ ⟨rfl,rfl⟩
theorem s6 (t : Bool) (xs : List Int) (hl : xs.length ≤ 137438953472) : Abs.Spec Try.prog 6 [.sl true t (mI xs)] [] fun v H' => H' = [] ∧ v = .sl false false (mI xs) := by
  refine Abs.Spec.walk mixed fn6 nn6 t6 q6 nt6 (by simp) ?_
  by_cases h0 : xs.length ≤ 0
  · have : xs = [] := List.eq_nil_of_length_eq_zero (by omega)
    subst this
    simp only [w6,go_sem,Nat.reduceEqDiff,Nat.reduceAdd,Nat.reduceLT,Nat.reduceLeDiff,reduceIte,reduceCtorEq]
    exact leaf (.sl false false (mI [])) (vle_mI (cs := []) rfl (by simp) rfl rfl) ⟨rfl,rfl⟩
  · simp only [w6,h0,go_sem,Nat.reduceEqDiff,Nat.reduceAdd,Nat.reduceLT,Nat.reduceLeDiff,reduceIte,reduceCtorEq]
    refine ⟨?_,?_⟩
    · simp; omega
    · exact leaf (.sl false false (mI xs)) (vle_mI rfl (by simp) rfl take_mI) ⟨rfl,rfl⟩
theorem s6' (nn t : Bool) (xs : List Int) (hl : xs.length ≤ 137438953472) : Abs.Spec Try.prog 6 [.sl nn t (mI xs)] [] fun v H' => H' = [] ∧ v = .sl false false (mI xs) := by
  cases nn with
  | true => exact s6 t xs hl
  | false => exact Spec.split_nil (fun h => by have : xs = [] := by simpa [mI] using h
                                               subst this; exact s6nil) (s6 t xs hl)
open Go.Abs AVal
theorem s44 (nn t : Bool) (xs : List Int) (n : Int) (hl : xs.length < 9223372036854775808) : Abs.Spec Try.prog 44 [.sl nn t (mI xs),I n] [] fun v H' => H' = [] ∧ v = B (Sp.isOrder xs n) := by
  refine Abs.Spec.walk mixed fn44 nn44 t44 q44 nt44 (by simp) ?_
  simp only [w44,go_sem,Nat.reduceEqDiff,Nat.reduceAdd,Nat.reduceLT,Nat.reduceLeDiff,reduceIte,reduceCtorEq]
  refine W_loop (fun p : { p : List Int × List Int × Int // p.1 ++ p.2.1 = xs ∧ Sp.isOrderGo n p.2.2 p.2.1 = Sp.isOrderGo n 0 xs } => ([(0,sl nn t (mI xs)),(1,I n),(5,I p.1.2.2),(8,sl nn t (mI xs)),(9,I xs.length),(10,I p.1.1.length)],[])) (fun p => p.1.2.1.length) ⟨([],xs,0),rfl,rfl⟩ [] (Wk.nil (by simp [fle,vle,Fr.get,mI_bnd])) ?_
  rintro ⟨⟨pre,suf,seen⟩,hp,hinv⟩
  dsimp only at hp hinv
  subst hp
  cases suf with
  | nil =>
    simp only [w44L0,w44T1,go_sem,Nat.reduceEqDiff,Nat.reduceAdd,Nat.reduceLT,Nat.reduceLeDiff,reduceIte,reduceCtorEq]
    simp only [List.append_nil,Sp.isOrderGo] at hinv
    refine ⟨fun h => ⟨?_,?_⟩,fun h => ?_⟩
    · simp at h; omega
    · exact leaf (B _) rfl ⟨rfl,by simp only [Sp.isOrder,← hinv,h,if_true,Sp.shl1,IntKind.bits]⟩
    · exact leaf (B _) rfl ⟨rfl,by simp [Sp.isOrder,← hinv,h]⟩
  | cons x suf =>
    simp only [w44L0,w44T1,go_sem,Nat.reduceEqDiff,Nat.reduceAdd,Nat.reduceLT,Nat.reduceLeDiff,reduceIte,reduceCtorEq]
    simp only [Sp.isOrderGo] at hinv
    refine ⟨fun h1 => ⟨fun h2 => ?_,fun h2 => ⟨?_,?_⟩⟩,fun h1 => ?_⟩
    · exact leaf (B _) rfl ⟨rfl,by simp only [Sp.isOrder,← hinv,if_neg h1,if_pos h2]⟩
    · omega
    · refine round0 rfl ⟨(pre ++ [x],suf,Sp.orI seen (Sp.shl1 x)),by simp,by rw [← hinv,if_neg h1,if_neg h2]⟩ (by simp) rfl ?_
      simp [fle,vle,Fr.get,rng_idx' hl,mI_bnd,Sp.orI,Sp.shl1,IntKind.bits]
    · exact leaf (B _) rfl ⟨rfl,by simp only [Sp.isOrder,← hinv,if_pos h1]⟩
theorem s20 (nn t : Bool) (xs : List Int) (n : Int) (hl : xs.length < 9223372036854775808) : Abs.Spec Try.prog 20 [.sl nn t (mI xs),I n] [] fun v H' => H' = [] ∧ v = B (Sp.all xs n) := by
  refine Abs.Spec.walk mixed fn20 nn20 t20 q20 nt20 (by simp) ?_
  simp only [w20,go_sem,Nat.reduceEqDiff,Nat.reduceAdd,Nat.reduceLT,Nat.reduceLeDiff,reduceIte,reduceCtorEq]
  refine W_loop (fun p : { p : List Int × List Int × Int // p.1 ++ p.2.1 = xs ∧ Sp.allGo n p.2.2 p.2.1 = Sp.allGo n 0 xs } => ([(0,sl nn t (mI xs)),(1,I n),(5,I p.1.2.2),(8,sl nn t (mI xs)),(9,I xs.length),(10,I p.1.1.length)],[])) (fun p => p.1.2.1.length) ⟨([],xs,0),rfl,rfl⟩ [] (Wk.nil (by simp [fle,vle,Fr.get,mI_bnd])) ?_
  rintro ⟨⟨pre,suf,seen⟩,hp,hinv⟩
  dsimp only at hp hinv
  subst hp
  cases suf with
  | nil =>
    simp only [w20L0,w20T1,go_sem,Nat.reduceEqDiff,Nat.reduceAdd,Nat.reduceLT,Nat.reduceLeDiff,reduceIte,reduceCtorEq]
    simp only [List.append_nil,Sp.allGo] at hinv
    exact leaf (B _) rfl ⟨rfl,by simp only [Sp.all,← hinv,if_true]⟩
  | cons x suf =>
    simp only [w20L0,w20T1,go_sem,Nat.reduceEqDiff,Nat.reduceAdd,Nat.reduceLT,Nat.reduceLeDiff,reduceIte,reduceCtorEq]
    simp only [Sp.allGo] at hinv
    refine ⟨fun h1 => ⟨fun h2 => ⟨by omega,fun h3 => ?_,fun h3 => ⟨by omega,?_⟩⟩,fun h2 => ?_⟩,fun h1 => ?_⟩
    · exact leaf (B _) rfl ⟨rfl,by rw [Sp.all,← hinv,if_neg h1,if_neg h2,if_pos (show (Sp.bitAt seen x == 1) = true from h3)]; rfl⟩
    · refine round0 rfl ⟨(pre ++ [x],suf,Sp.orI seen (Sp.shl1 x)),by simp,by rw [← hinv,if_neg h1,if_neg h2,if_neg (by simpa [Sp.bitAt,IntKind.bits] using h3)]⟩ (by simp) rfl ?_
      simp [fle,vle,Fr.get,rng_idx' hl,mI_bnd,Sp.orI,Sp.shl1,IntKind.bits]
    · exact leaf (B _) rfl ⟨rfl,by rw [Sp.all,← hinv,if_neg h1,if_pos h2]; rfl⟩
    · exact leaf (B _) rfl ⟨rfl,by rw [Sp.all,← hinv,if_pos h1]; rfl⟩
theorem s68 (nn t : Bool) (xs : List (List Int)) (fv : AVal) (p : List Int → Bool) (hf : ∀ x ∈ xs,CallV Try.prog fv [sI x] [] fun v H' => v = B (p x) ∧ H' = []) (hv : ∀ H,vle H [] [] 3 fv fv) (hl : xs.length < 9223372036854775808) :
    Abs.Spec Try.prog 68 [.sl nn t (mS xs),fv] [] fun v H' => H' = [] ∧ v = I (Sp.idx p xs) := by
  refine Abs.Spec.walk mixed fn68 nn68 t68 q68 nt68 (by simp) ?_
  simp only [w68,go_sem,Nat.reduceEqDiff,Nat.reduceAdd,Nat.reduceLT,Nat.reduceLeDiff,reduceIte,reduceCtorEq]
  refine W_loop (fun q : { q : List (List Int) × List (List Int) // q.1 ++ q.2 = xs ∧ ∀ x ∈ q.1,p x = false } => ([(0,sl nn t (mS xs)),(1,fv),(6,sl nn t (mS xs)),(7,I xs.length),(8,I q.1.1.length)],[])) (fun q => q.1.2.length) ⟨([],xs),rfl,by simp⟩ [] (Wk.nil (by simp [fle,vle,Fr.get,mS_bnd,hv])) ?_
  rintro ⟨⟨pre,suf⟩,hp,hinv⟩
  dsimp only at hp hinv
  subst hp
  cases suf with
  | nil =>
    simp only [w68L0,w68T1,go_sem,Nat.reduceEqDiff,Nat.reduceAdd,Nat.reduceLT,Nat.reduceLeDiff,reduceIte,reduceCtorEq]
    exact leaf (I _) rfl ⟨rfl,by rw [Sp.idx_none hinv]⟩
  | cons x suf =>
    simp only [w68L0,w68T1,go_sem,Nat.reduceEqDiff,Nat.reduceAdd,Nat.reduceLT,Nat.reduceLeDiff,reduceIte,reduceCtorEq]
    refine CallK.pure (hf x (by simp)) ?_
    simp only [go_sem,Nat.reduceEqDiff,Nat.reduceAdd,Nat.reduceLT,Nat.reduceLeDiff,reduceIte,reduceCtorEq]
    refine ⟨fun h => ?_,fun h => ?_⟩
    · exact leaf (I _) rfl ⟨rfl,by rw [Sp.idx_mid p pre _ hinv]; simp [Sp.idx,h]⟩
    · refine round0 rfl ⟨(pre ++ [x],suf),by simp,fun y hy => by rcases List.mem_append.1 hy with hy | hy; exact hinv y hy; simp at hy; subst hy; exact h⟩ (by simp) rfl ?_
      simp [fle,vle,Fr.get,rng_idx' hl,mS_bnd,hv]
theorem s69 (nn t : Bool) (xs : List Int) (fv : AVal) (p : Int → Bool) (hf : ∀ x ∈ xs,CallV Try.prog fv [I x] [] fun v H' => v = B (p x) ∧ H' = []) (hv : ∀ H,vle H [] [] 3 fv fv) (hl : xs.length < 9223372036854775808) :
    Abs.Spec Try.prog 69 [.sl nn t (mI xs),fv] [] fun v H' => H' = [] ∧ v = I (Sp.idx p xs) := by
  refine Abs.Spec.walk mixed fn69 nn69 t69 q69 nt69 (by simp) ?_
  simp only [w69,go_sem,Nat.reduceEqDiff,Nat.reduceAdd,Nat.reduceLT,Nat.reduceLeDiff,reduceIte,reduceCtorEq]
  refine W_loop (fun q : { q : List Int × List Int // q.1 ++ q.2 = xs ∧ ∀ x ∈ q.1,p x = false } => ([(0,sl nn t (mI xs)),(1,fv),(6,sl nn t (mI xs)),(7,I xs.length),(8,I q.1.1.length)],[])) (fun q => q.1.2.length) ⟨([],xs),rfl,by simp⟩ [] (Wk.nil (by simp [fle,vle,Fr.get,mI_bnd,hv])) ?_
  rintro ⟨⟨pre,suf⟩,hp,hinv⟩
  dsimp only at hp hinv
  subst hp
  cases suf with
  | nil =>
    simp only [w69L0,w69T1,go_sem,Nat.reduceEqDiff,Nat.reduceAdd,Nat.reduceLT,Nat.reduceLeDiff,reduceIte,reduceCtorEq]
    exact leaf (I _) rfl ⟨rfl,by rw [Sp.idx_none hinv]⟩
  | cons x suf =>
    simp only [w69L0,w69T1,go_sem,Nat.reduceEqDiff,Nat.reduceAdd,Nat.reduceLT,Nat.reduceLeDiff,reduceIte,reduceCtorEq]
    refine CallK.pure (hf x (by simp)) ?_
    simp only [go_sem,Nat.reduceEqDiff,Nat.reduceAdd,Nat.reduceLT,Nat.reduceLeDiff,reduceIte,reduceCtorEq]
    refine ⟨fun h => ?_,fun h => ?_⟩
    · exact leaf (I _) rfl ⟨rfl,by rw [Sp.idx_mid p pre _ hinv]; simp [Sp.idx,h]⟩
    · refine round0 rfl ⟨(pre ++ [x],suf),by simp,fun y hy => by rcases List.mem_append.1 hy with hy | hy; exact hinv y hy; simp at hy; subst hy; exact h⟩ (by simp) rfl ?_
      simp [fle,vle,Fr.get,rng_idx' hl,mI_bnd,hv]
theorem s42 (nn t : Bool) (xs : List (List Int)) (fv : AVal) (p : List Int → Bool) (hf : ∀ x ∈ xs,CallV Try.prog fv [sI x] [] fun v H' => v = B (p x) ∧ H' = []) (hv : ∀ H,vle H [] [] 3 fv fv) (hl : xs.length < 9223372036854775808) :
    Abs.Spec Try.prog 42 [.sl nn t (mS xs),fv] [] fun v H' => H' = [] ∧ v = B (decide (Sp.idx p xs ≥ 0)) := by
  refine Abs.Spec.walk mixed fn42 nn42 t42 q42 nt42 (by simp) ?_
  simp only [w42,go_sem,Nat.reduceEqDiff,Nat.reduceAdd,Nat.reduceLT,Nat.reduceLeDiff,reduceIte,reduceCtorEq]
  refine CallK.by (CallV.of_spec (s68 nn t xs fv p hf hv hl)) fun v H' ⟨h1,h2⟩ => ?_
  subst h1 h2
  simp only [go_sem,Nat.reduceEqDiff,Nat.reduceAdd,Nat.reduceLT,Nat.reduceLeDiff,reduceIte,reduceCtorEq]
  exact leaf (B _) rfl ⟨rfl,rfl⟩
open Go.Abs AVal
theorem s43 (nn t : Bool) (l : List Int) (w : List (List Int)) (hl : l.length < 9223372036854775808) : Abs.Spec Try.prog 43 [sI l,.rp [.sl nn t (mS w)]] [] fun v H' => v = B (!Sp.isOrder l w.length) ∧ H' = [] := by
  refine Abs.Spec.walk mixed fn43 nn43 t43 q43 nt43 (by simp) ?_
  simp only [w43,go_sem,Nat.reduceEqDiff,Nat.reduceAdd,Nat.reduceLT,Nat.reduceLeDiff,reduceIte,reduceCtorEq]
  refine CallK.by (CallV.of_spec (s44 false false l w.length hl)) fun v H' ⟨h1,h2⟩ => ?_
  subst h1 h2
  simp only [go_sem,Nat.reduceEqDiff,Nat.reduceAdd,Nat.reduceLT,Nat.reduceLeDiff,reduceIte,reduceCtorEq]
  exact leaf (B _) rfl ⟨rfl,rfl⟩
theorem s18 (nn t : Bool) (w : List (List Int)) (hw : ∀ l ∈ w,l.length < 9223372036854775808) (hl : w.length < 9223372036854775808) : Abs.Spec Try.prog 18 [.sl nn t (mS w)] [] fun v H' => H' = [] ∧ v = B (Sp.valid w) := by
  refine Abs.Spec.walk mixed fn18 nn18 t18 q18 nt18 (by simp) ?_
  simp only [w18,go_sem,Nat.reduceEqDiff,Nat.reduceAdd,Nat.reduceLT,Nat.reduceLeDiff,reduceIte,reduceCtorEq]
  refine ⟨fun h1 => ⟨fun h2 => ?_,fun h2 => ?_⟩,fun h1 => ?_⟩
  · refine CallK.pure (CallV.of_spec (Spec.lend (args' := [.sl nn t (mS w),.fn (.func 43) [] [.rp [.sl nn t (mS w)]]]) (s42 nn t w _ (fun l => !Sp.isOrder l w.length) (fun l hm => CallV.of_spec (s43 nn t l w (hw l hm))) (fun H => by simp [vle,vle.vleL,bndL,AVal.bnd,mS_bnd]) hl) rfl (by simp [vle,vle.vleL,bndL,AVal.bnd,mS_bnd]))) ?_
    simp only [go_sem,Nat.reduceEqDiff,Nat.reduceAdd,Nat.reduceLT,Nat.reduceLeDiff,reduceIte,reduceCtorEq]
    exact leaf (B _) rfl ⟨rfl,by rw [Sp.valid,if_pos ⟨by omega,by omega⟩]⟩
  · exact leaf (B _) rfl ⟨rfl,by rw [Sp.valid,if_neg (by omega)]⟩
  · exact leaf (B _) rfl ⟨rfl,by rw [Sp.valid,if_neg (by omega)]⟩
theorem s70 (c set : Int) (hc : 0 ≤ c) : Abs.Spec Try.prog 70 [I c,.rp [I set]] [] fun v H' => v = B (Sp.bitAt set c == 1) ∧ H' = [] := by
  refine Abs.Spec.walk mixed fn70 nn70 t70 q70 nt70 (by simp) ?_
  simp only [w70,go_sem,Nat.reduceEqDiff,Nat.reduceAdd,Nat.reduceLT,Nat.reduceLeDiff,reduceIte,reduceCtorEq]
  refine ⟨hc,?_⟩
  exact leaf (B _) rfl ⟨rfl,rfl⟩
theorem s45 (nn t : Bool) (w : List (List Int)) (i : Nat) (set : Int) (hi : i < w.length) (hc : ∀ c ∈ w.getD i [],0 ≤ c) (hl : (w.getD i []).length < 9223372036854775808) (hb : ∃ c ∈ w.getD i [],(Sp.bitAt set c == 1) = true) :
    Abs.Spec Try.prog 45 [.sl nn t (mS w),I i,I set] [] fun v H' => H' = [] ∧ v = I (Sp.bestAt w i set) := by
  refine Abs.Spec.walk mixed fn45 nn45 t45 q45 nt45 (by simp) ?_
  simp only [w45,mS_get,hi,go_sem,Nat.reduceEqDiff,Nat.reduceAdd,Nat.reduceLT,Nat.reduceLeDiff,reduceIte,reduceCtorEq]
  refine ⟨by omega,?_⟩
  refine CallK.pure (CallV.of_spec (Spec.lend (args' := [.sl false false (mI (w.getD i [])),.fn (.func 70) [] [.rp [I set]]]) (s69 false false (w.getD i []) _ (fun c => Sp.bitAt set c == 1) (fun c hm => CallV.of_spec (s70 c set (hc c hm))) (fun H => by simp [vle,vle.vleL,bndL,AVal.bnd]) hl) rfl (by simp [vle,vle.vleL,bndL,AVal.bnd,mI_bnd]))) ?_
  have h1 := Sp.idx_pos hb
  have h2 := Sp.idx_lt (fun c => Sp.bitAt set c == 1) (w.getD i [])
  have h3 : (Sp.idx (fun c => Sp.bitAt set c == 1) (w.getD i [])).toNat < (w.getD i []).length := by omega
  simp only [mS_get,hi,mI_get,h3,go_sem,Nat.reduceEqDiff,Nat.reduceAdd,Nat.reduceLT,Nat.reduceLeDiff,reduceIte,reduceCtorEq]
  refine ⟨by omega,⟨h1,h2.2⟩,?_⟩
  exact leaf (I _) rfl ⟨rfl,rfl⟩
open Go.Abs AVal
theorem s8 (nn t : Bool) (w : List (List Int)) (hw : ∀ l ∈ w,l.length < 9223372036854775808) (hl : w.length < 9223372036854775808) : Abs.Spec Try.prog 8 [.sl nn t (mS w)] [] fun v H' => H' = [] ∧ v = B (Sp.wishes w) := by
  refine Abs.Spec.walk mixed fn8 nn8 t8 q8 nt8 (by simp) ?_
  simp only [w8,go_sem,Nat.reduceEqDiff,Nat.reduceAdd,Nat.reduceLT,Nat.reduceLeDiff,reduceIte,reduceCtorEq]
  refine W_loop (fun q : { q : List (List Int) × List (List Int) // q.1 ++ q.2 = w ∧ ∀ l ∈ q.1,Sp.all l w.length = true } => ([(0,sl nn t (mS w)),(5,sl nn t (mS w)),(6,I w.length),(7,I q.1.1.length)],[])) (fun q => q.1.2.length) ⟨([],w),rfl,by simp⟩ [] (Wk.nil (by simp [fle,vle,Fr.get,mS_bnd])) ?_
  rintro ⟨⟨pre,suf⟩,hp,hinv⟩
  dsimp only at hp hinv
  subst hp
  cases suf with
  | nil =>
    simp only [w8L0,w8T1,go_sem,Nat.reduceEqDiff,Nat.reduceAdd,Nat.reduceLT,Nat.reduceLeDiff,reduceIte,reduceCtorEq]
    simp only [List.append_nil] at *
    refine ⟨fun h1 => ?_,fun h1 => ?_⟩
    · exact leaf (B _) rfl ⟨rfl,by rw [Sp.wishes,if_pos (List.all_eq_true.2 hinv),if_pos (by omega)]; simp; omega⟩
    · exact leaf (B _) rfl ⟨rfl,by rw [Sp.wishes,if_pos (List.all_eq_true.2 hinv),if_neg (by omega)]⟩
  | cons x suf =>
    simp only [w8L0,w8T1,go_sem,Nat.reduceEqDiff,Nat.reduceAdd,Nat.reduceLT,Nat.reduceLeDiff,reduceIte,reduceCtorEq]
    refine CallK.by (CallV.of_spec (s20 false false x _ (hw x (by simp)))) fun v H' ⟨h1,h2⟩ => ?_
    subst h1 h2
    simp only [go_sem,Nat.reduceEqDiff,Nat.reduceAdd,Nat.reduceLT,Nat.reduceLeDiff,reduceIte,reduceCtorEq]
    refine ⟨fun h1 => ?_,fun h1 => ?_⟩
    · exact leaf (B _) rfl ⟨rfl,by rw [Sp.wishes,if_neg]; intro ha; rw [List.all_eq_true.1 ha x (by simp)] at h1; cases h1⟩
    · refine round0 rfl ⟨(pre ++ [x],suf),by simp,fun l hm => by rcases List.mem_append.1 hm with hm | hm; exact hinv l hm; simp at hm; subst hm; simpa using h1⟩ (by simp) rfl ?_
      simp [fle,vle,Fr.get,rng_idx' hl,mS_bnd]
end Go.Proofs.Ytlonaefihjdkpaa
