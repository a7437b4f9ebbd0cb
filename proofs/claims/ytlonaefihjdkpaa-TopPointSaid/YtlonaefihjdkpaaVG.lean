/- The statement TopPoint: who leaves first is who is reached again. -/
import Derived.Test.YtlonaefihjdkpaaVF
import Derived.Test.YtlonaefihjdkpaaVP
import Derived.Test.YtlonaefihjdkpaaUBE
namespace Go.Proofs.Ytlonaefihjdkpaa
open Go.Abs AVal
set_option linter.unusedSimpArgs false
attribute [local go_sem] W_skip W_keep KQ_canon canon Fr.norm W_seq W_block W_scope W_exit W_ret W_ops W_draw KQ_nil KQ_norm_seq KQ_exit_seq KQ_ret_seq KQ_norm_block KQ_ret_block KQ_exit_block KQ_exit_loop KQ_ret_loop O_nil O_cons S_call S_mv SE_mv SD_mv S_pick SE_pick SD_pick S_bin SE_bin SD_bin S_eqb SE_eqb SD_eqb S_eqv SE_eqv SD_eqv S_eqnil SE_eqnil SD_eqnil S_eqs SE_eqs SD_eqs S_eqp SE_eqp SD_eqp S_slT SE_slT SD_slT S_un SE_un SD_un S_conv SE_conv SD_conv S_mkfn SE_mkfn SD_mkfn S_load SE_load SD_load S_nilck SE_nilck SD_nilck S_slS SE_slS SD_slS S_slP SE_slP SD_slP S_fldA SE_fldA SD_fldA S_fld SE_fld SD_fld S_ixS SE_ixS SD_ixS S_ixP SE_ixP SD_ixP S_ixV SE_ixV SD_ixV S_ixStr SE_ixStr SD_ixStr S_ext SE_ext SD_ext S_len SE_len SD_len S_lenStr SE_lenStr SD_lenStr S_lenc SE_lenc SD_lenc S_mn SE_mn SD_mn S_mx SE_mx SD_mx S_build SE_build SD_build S_alloc SD_alloc S_box SD_box S_bslice SD_bslice S_mksl SD_mksl S_store SD_store S_append SD_append S_copy SD_copy S_clr SD_clr S_mlen SE_mlen SD_mlen S_mget SE_mget SD_mget S_mval SE_mval SD_mval S_mentry SE_mentry SD_mentry S_mkmap SD_mkmap S_mset SD_mset S_mrange SD_mrange S_mnext mlenA mgetA mvalA mentryA msetA mrangeA cells_mp isCell_mp cellsOk_mp aq_some aa_some al_some alA_some aqd_some aad_some ald_some ape_some D_done D_both D_early D_step SE_call SD_call IOpd.ev Fr.get Fr.put Fr.putd entryFr pickA binA binI isSh shI eqbA eqvA ints ints_mI Option.map_some eqnilA eqsA eqpA slTA unA convA loadA nilckA intA slSA slPA fldAA fldVA ixSA ixPA ixVA ixStrA extA lenA lenStrA mnA mxA AVal.fits fillA fillOk buildA opa srcA appA stoA copA clrA rdFree zeros List.length_nil List.length_cons List.length_map List.map_cons List.map_nil Option.map_some Option.map_none if_true if_false ite_true ite_false true_and and_true and_self implies_true forall_const true_implies Bool.false_eq_true Bool.not_true Bool.not_false decide_eq_true_eq decide_eq_false_iff_not eq_self List.getElem?_cons_zero List.getElem?_cons_succ List.getElem?_nil List.set_cons_zero List.set_cons_succ List.nil_append List.cons_append List.append_nil List.replicate_zero List.replicate_succ Nat.zero_add false_implies rng_lt rng_end rng_get cells_I cells_B cells_sl cut_one Int.toNat_natCast Int.natCast_nonneg List.headD_cons Int.lt_irrefl not_false_eq_true decide_false decide_true mI_length mI_cells mI_sz mI_isCell mI_mid mI_append mI_take mI_drop cells_val cells_own cells_agg isCell_I isCell_B isCell_nil isCell_sl isCell_own isCell_ptr isCell_fn isCell_rp isCell_yld cellsOk_I cellsOk_B cellsOk_nil cellsOk_sl cellsOk_own cellsOk_ptr cellsOk_fn cellsOk_rp cellsOk_yld cellsOk_agg cells_nil cells_ptr cells_fn cells_rp List.all_cons List.all_nil Bool.and_true Nat.mul_one Nat.zero_mul Nat.one_mul List.take_zero List.take_nil List.drop_nil List.drop_zero List.not_mem_nil Nat.le_refl Nat.zero_le mS_length mS_cells mS_sz mS_isCell mS_mid mS_append mS_take mS_drop cells_sI isCell_sI cellsOk_sI sI_eq succ_le_self' List.take_succ_cons List.drop_succ_cons List.take_length beq_self_eq_true List.mem_cons or_false forall_eq mI_put mI_rep O_guard' D_earlyG' D_stepG' W_cond' G_tt G_tf G_ft G_ff GE_tt GE_tf GE_ft GE_ff GS_tt GS_tf GS_ft GS_ff G_u GE_u GS_u IC_t IC_f xft xff xtt xtf z00 z20 z22 z02 zz tn0
theorem s6w (t : Bool) (xs : List Int) (h1 : 1 ≤ xs.length) (hl : xs.length ≤ 137438953472) : Abs.Spec Try.prog 6 [.sl false t (mI xs)] [] fun v H' => v = .own 0 0 xs.length xs.length 1 ∧ H' = [.cells (mI xs)] := by
  refine Spec.split_nil (fun h => by have : xs = [] := by simpa [mI] using h
                                     subst this; simp at h1) ?_
  refine Abs.Spec.walk mixed fn6 nn6 t6 q6 nt6 (by simp) ?_
  have h0 : ¬ xs.length ≤ 0 := by omega
  simp only [w6,h0,go_sem,Nat.reduceEqDiff,Nat.reduceAdd,Nat.reduceLT,Nat.reduceLeDiff,reduceIte,reduceCtorEq]
  refine ⟨by omega,?_⟩
  exact leafO _ _ [some 1] (Wk.mk0 rfl (by simp [imgs,Blk.alive]) (by simp [hle,csle,mI_bnd]) (by simp [fle,vle,Fr.get])) ⟨rfl,rfl⟩
def zerosL (n : Nat) : List Int := List.replicate n 0
theorem shl_lt : ∀ n : Nat,n ≤ 6 → ∀ i : Nat,i < n → 0 ≤ Sp.shl1 i ∧ Sp.shl1 i < (2 ^ n : Nat) := fun n hn => by
  have : ∀ n : Nat,n < 7 → ∀ i : Nat,i < n → 0 ≤ Sp.shl1 i ∧ Sp.shl1 i < (2 ^ n : Nat) := by decide +kernel
  exact this n (by omega)
theorem worksN {w : List (List Int)} (g : Sp.Good w) : Works (nextL w) (zerosL w.length) where
  n1 := by have := g.n1; simpa [nextL] using this
  n6 := by have := g.n6; simpa [nextL] using this
  ml := by simp [nextL,zerosL]
  nx := fun x hx => by
    unfold nextL at hx ⊢
    rw [List.length_map]
    obtain ⟨l,hl,rfl⟩ := List.mem_map.1 hx
    have h1 := g.len l hl
    have h2 := g.n1
    have h3 := g.rng l hl _ (Sp.getD_mem (d := 0) (i := 0) (by omega))
    have h4 := shl_lt w.length g.n6 (l.getD 0 0).toNat (by omega)
    rwa [Int.toNat_of_nonneg h3.1] at h4
  mr := fun x hx => by
    unfold zerosL at hx
    rw [List.mem_replicate] at hx
    omega
set_option maxRecDepth 20000 in
set_option maxHeartbeats 4000000 in
theorem topPoint_rest {w : List (List Int)} (hw : ∀ l ∈ w,l.length < 9223372036854775808) (hl : w.length < 9223372036854775808) (hw' : ∀ l ∈ Sp.table w,l.length < 9223372036854775808) (hl' : (Sp.table w).length < 9223372036854775808) :
    W ⟨Try.prog,0,115,true⟩ (retA 0 r3 fun v H' => H' = [] ∧ v = B true) c3T1 [] [(18,B false),(0,.sl false false (mS w)),(3,own 0 0 (Sp.table w).length (Sp.table w).length 1),(15,.sl false false (mS w)),(16,I w.length),(17,I w.length)] [.cells (mS (Sp.table w))] [] := by
  simp only [w3T1,b3T1,go_sem,Nat.reduceEqDiff,Nat.reduceAdd,Nat.reduceLT,Nat.reduceLeDiff,reduceIte,reduceCtorEq]
  refine W_view [] [(0,.sl false false (mS w)),(3,.sl false false (mS (Sp.table w)))] [] (Wk.nil ⟨⟨mS_bnd,fun h => h,fun h => h,rfl⟩,vle_mS rfl (by simp) rfl take_mS,trivial⟩) ?_
  have e7 : ∀ H,CallV Try.prog (.fn (.func 7) [] []) [.sl false false (mS (Sp.table w))] H fun v H' => v = roundsA (Sp.table w) ∧ H' = H := fun H => liftV (s7 false false (Sp.table w) hw' hl') (by simp [bndL,AVal.bnd,mS_bnd]) (by unfold roundsA; split <;> simp [AVal.bnd,bndL,mI_bnd]) H
  have e8 : ∀ H,CallV Try.prog (.fn (.func 8) [] []) [.sl false false (mS w)] H fun v H' => v = B (Sp.wishes w) ∧ H' = H := fun H => liftV (s8 false false w hw hl) (by simp [bndL,AVal.bnd,mS_bnd]) rfl H
  have e9 : ∀ H,CallV Try.prog (.fn (.func 9) [] []) [] H fun v H' => v = B true ∧ H' = H := fun H => liftV s9 rfl rfl H
  have z22 : ((2 : Int) != 0) = true := rfl
  have z23 : ((2 : Int) == 2) = true := rfl
  have z02 : ((0 : Int) != 0) = false := rfl
  simp only [go_sem,Nat.reduceEqDiff,Nat.reduceAdd,Nat.reduceLT,Nat.reduceLeDiff,reduceIte,reduceCtorEq]
  refine CallK.pure (e7 _) ?_
  rw [roundsA,Sp.table_valid]
  cases hv : Sp.valid w with
  | false =>
    rw [if_neg (by simp)]
    simp only [List.getD_cons_zero,List.getD_cons_succ,z22,z23,go_sem,Nat.reduceEqDiff,Nat.reduceAdd,Nat.reduceLT,Nat.reduceLeDiff,reduceIte,reduceCtorEq]
    refine CallK.pure (e9 _) ?_
    simp only [go_sem,Nat.reduceEqDiff,Nat.reduceAdd,Nat.reduceLT,Nat.reduceLeDiff,reduceIte,reduceCtorEq]
    exact leaf (B true) rfl ⟨rfl,rfl⟩
  | true =>
    have g := Sp.valid_good hv
    have g1 := g.n1
    have g6 := g.n6
    have hT : Sp.table w = w := Sp.take_valid w hv
    rw [Sp.wishes_valid,hv] at e8
    rw [if_pos rfl,hT]
    simp only [List.getD_cons_zero,List.getD_cons_succ,z02,go_sem,Nat.reduceEqDiff,Nat.reduceAdd,Nat.reduceLT,Nat.reduceLeDiff,reduceIte,reduceCtorEq]
    refine CallK.pure (e8 _) ?_
    simp only [mS_length,go_sem,Nat.reduceEqDiff,Nat.reduceAdd,Nat.reduceLT,Nat.reduceLeDiff,reduceIte,reduceCtorEq]
    refine ⟨⟨by omega,by omega,by omega⟩,?_⟩
    have hNl : (nextL w).length = w.length := by simp [nextL]
    refine W_loop (fun q : { i : Nat // i ≤ w.length } => ([(0,.sl false false (mS w)),(6,.sl false false (mI (Sp.fin w).2)),(8,.ptr 0 0),(55,.sl false false (mS w)),(56,I w.length),(57,I q.1)],[.cells [.own 1 0 q.1 q.1 1,.own 2 0 w.length w.length 1],.cells (mI ((nextL w).take q.1)),.cells (mI (zerosL w.length))])) (fun q => w.length - q.1) ⟨0,by omega⟩ [some 1,none,some 0] (Wk.mk0 rfl (by simp [imgs,Blk.alive]) ?_ ?_) ?_
    · simp [hle,csle,mI_bnd,mI_rep,vle,vle.vleL,imgs,Blk.alive,zerosL]
      exact rfl
    · simp [fle,vle,Fr.get,mS_bnd,mI_bnd]
    rintro ⟨i,hi⟩
    dsimp only
    by_cases hil : i < w.length
    · have d1 : (i : Int) < w.length := by omega
      have hm : w.getD i [] ∈ w := Sp.getD_mem hil
      have hll := g.len _ hm
      have h0l : 0 < (w.getD i []).length := by omega
      have h0i : (0 : Int) < (w.getD i []).length := by omega
      obtain ⟨l,hl1⟩ : ∃ l,w.getD i [] = l := ⟨_,rfl⟩
      obtain ⟨c,hc⟩ : ∃ c,l.getD 0 0 = c := ⟨_,rfl⟩
      have hc0 : 0 ≤ c ∧ c < w.length := by rw [hl1] at hm; rw [← hc]; exact g.rng _ hm _ (Sp.getD_mem (by rw [← hl1]; omega))
      rw [hl1] at h0l h0i
      have hnx : (nextL w).take (i + 1) = (nextL w).take i ++ [Sp.shl1 c] := by
        have e1 : w[i] = l := by rw [← hl1,List.getD_eq_getElem?_getD,List.getElem?_eq_getElem hil]; rfl
        rw [List.take_add_one]
        congr 1
        unfold nextL
        rw [List.getElem?_map,List.getElem?_eq_getElem hil,e1,Option.map_some,hc]
        rfl
      have hwk : IntKind.i64.wrap ((i : Int) + 1) = ((i + 1 : Nat) : Int) := by rw [wrap64 (by omega) (by omega)]; rfl
      simp only [w3L2,d1,decide_true,mS_get,hil,hl1,tn0,mI_get,h0l,hc,h0i,mI_hd,hc0,hwk,go_sem,Nat.reduceEqDiff,Nat.reduceAdd,Nat.reduceLT,Nat.reduceLeDiff,reduceIte,reduceCtorEq]
      have hsh : IntKind.i64.wrap (1 * 2 ^ min c.toNat 64) = Sp.shl1 c := rfl
      rw [hsh]
      refine ⟨by omega,⟨by rw [List.length_take,hNl]; omega,by omega⟩,?_⟩
      refine round1 rfl ⟨i + 1,hil⟩ [some 0,some 4,some 2] (by dsimp only; omega) (Wk.mk0 rfl (by simp [imgs,Blk.alive]) ?_ ?_)
      · simp [hle,csle,mI_bnd,vle,vle.vleL,imgs,Blk.alive,hnx]
        exact .inl (by simp [mI,List.take_take])
      · simp [fle,vle,Fr.get,mS_bnd,mI_bnd]
    · have d1 : ¬ (i : Int) < w.length := by omega
      obtain rfl : i = w.length := by omega
      rw [List.take_of_length_le (by omega)]
      have hFl : (Sp.fin w).2.length = w.length := (Sp.st_len w w.length).2
      have dn : (((Sp.fin w).2.length : Int) != w.length) = false := by rw [hFl]; simp
      simp only [w3L2,d1,decide_false,w3T3,dn,go_sem,Nat.reduceEqDiff,Nat.reduceAdd,Nat.reduceLT,Nat.reduceLeDiff,reduceIte,reduceCtorEq]
      refine W_loop (fun q : { i : Nat // i ≤ w.length } => ([(6,.sl false false (mI (Sp.fin w).2)),(8,.ptr 0 0),(76,.sl false false (mS w)),(77,I w.length),(78,I q.1)],[.cells [.own 1 0 w.length w.length 1,.own 2 0 w.length w.length 1],.cells (mI (nextL w)),.cells (mI (zerosL w.length))])) (fun q => w.length - q.1) ⟨0,by omega⟩ [some 0,some 1,some 2] (Wk.mk0 rfl (by simp [imgs,Blk.alive]) ?_ ?_) ?_
      · simp [hle,csle,mI_bnd,vle,vle.vleL,imgs,Blk.alive]
      · simp [fle,vle,Fr.get,mS_bnd,mI_bnd]
      rintro ⟨i,hi⟩
      dsimp only
      by_cases hil : i < w.length
      · have d1 : (i : Int) < w.length := by omega
        obtain ⟨l,hl1⟩ : ∃ l,w.getD i [] = l := ⟨_,rfl⟩
        obtain ⟨c,hc⟩ : ∃ c,l.getD 0 0 = c := ⟨_,rfl⟩
        have hm : w.getD i [] ∈ w := Sp.getD_mem hil
        have h0l : 0 < l.length := by rw [← hl1,g.len _ hm]; omega
        have h0i : (0 : Int) < l.length := by omega
        have hc0 : 0 ≤ c ∧ c < w.length := by rw [hl1] at hm; rw [← hc]; exact g.rng _ hm _ (Sp.getD_mem h0l)
        have hwk : IntKind.i64.wrap ((i : Int) + 1) = ((i + 1 : Nat) : Int) := by rw [wrap64 (by omega) (by omega)]; rfl
        obtain ⟨s0,s1⟩ := shl_lt w.length g6 i hil
        have e10 := fun H => liftV (s10 (worksN g) (Sp.shl1 i) s0 (by rw [hNl]; exact s1)) (by simp [bndL,AVal.bnd,wks_bnd]) rfl H
        rw [hNl] at e10
        have hp := point_law g hil
        rw [hl1,hc] at hp
        obtain ⟨S,hS⟩ : ∃ S,reachK (nextL w) w.length (Sp.shl1 i) = S := ⟨_,rfl⟩
        rw [hS] at e10 hp
        have hFi : i < (Sp.fin w).2.length := by omega
        obtain ⟨r,hr⟩ : ∃ r,(Sp.fin w).2.getD i 0 = r := ⟨_,rfl⟩
        rw [hr] at hp
        have hbit : bitsI .and .i64 (S.fdiv (2 ^ min c.toNat 64)) 1 = Sp.bitAt S c := rfl
        have hb : (true ^^ ((r == 1) == (Sp.bitAt S c == 1))) = false := by
          have : (r == 1) = (Sp.bitAt S c == 1) := by
            rw [Bool.eq_iff_iff,beq_iff_eq,beq_iff_eq]; exact hp
          rw [this]; simp
        rw [wks] at e10
        have hsh : IntKind.i64.wrap (1 * 2 ^ min i 64) = Sp.shl1 i := rfl
        simp only [w3L4,d1,decide_true,mS_get,hil,hl1,go_sem,Nat.reduceEqDiff,Nat.reduceAdd,Nat.reduceLT,Nat.reduceLeDiff,reduceIte,reduceCtorEq]
        refine ⟨by simp,CallKD.fills (by omega) (fun H' hf => CallV.of_spec (first := []) (cap := []) (Spec.lendInts (s6w false (nextL w) (by omega) (by omega)) ⟨vle_mI (hf 1 _ rfl (by simp)) (by simp) hNl.symm (List.take_of_length_le (by rw [mI_length,hNl]; omega)),trivial⟩)) ?_⟩
        simp only [go_sem,Nat.reduceEqDiff,Nat.reduceAdd,Nat.reduceLT,Nat.reduceLeDiff,reduceIte,reduceCtorEq]
        refine ⟨by simp,CallKD.fills (by omega) (fun H' hf => CallV.of_spec (first := []) (cap := []) (Spec.lendInts (s6w false (zerosL w.length) (by simp [zerosL]; omega) (by simp [zerosL]; omega)) ⟨vle_mI (hf 2 _ rfl (by simp)) (by simp) (by simp [zerosL]) (List.take_of_length_le (by rw [mI_length]; simp [zerosL])),trivial⟩)) ?_⟩
        simp only [hsh,go_sem,Nat.reduceEqDiff,Nat.reduceAdd,Nat.reduceLT,Nat.reduceLeDiff,reduceIte,reduceCtorEq]
        refine CallKD.pure e10 ?_
        have hn0 : ((0 : Int) != 0) = false := rfl
        simp only [List.getD_cons_zero,List.getD_cons_succ,tn0,mI_get,hFi,hr,mI_hd,h0l,hc,h0i,hc0,hbit,hb,hwk,go_sem,Nat.reduceEqDiff,Nat.reduceAdd,Nat.reduceLT,Nat.reduceLeDiff,reduceIte,reduceCtorEq]
        refine ⟨by omega,by simp,?_⟩
        refine round1 rfl ⟨i + 1,hil⟩ [some 0,some 1,some 2] (by dsimp only; omega) (Wk.mk0 rfl (by simp [imgs,Blk.alive]) ?_ ?_)
        · simp [hle,csle,mI_bnd,vle,vle.vleL,imgs,Blk.alive]
        · simp [fle,vle,Fr.get,mS_bnd,mI_bnd]
      · have d1 : ¬ (i : Int) < w.length := by omega
        simp only [w3L4,d1,decide_false,w3T5,go_sem,Nat.reduceEqDiff,Nat.reduceAdd,Nat.reduceLT,Nat.reduceLeDiff,reduceIte,reduceCtorEq]
        refine CallK.pure (e9 _) ?_
        simp only [go_sem,Nat.reduceEqDiff,Nat.reduceAdd,Nat.reduceLT,Nat.reduceLeDiff,reduceIte,reduceCtorEq]
        exact leaf (B true) rfl ⟨rfl,rfl⟩
set_option maxRecDepth 20000 in
set_option maxHeartbeats 4000000 in
theorem law3 (w : List (List Int)) (hw : ∀ l ∈ w,l.length < 9223372036854775808) (hl : w.length < 9223372036854775808) : Abs.Spec Try.prog 3 [.sl false false (mS w)] [] fun v H' => H' = [] ∧ v = B true := by
  have hw' : ∀ l ∈ Sp.table w,l.length < 9223372036854775808 := fun l hm => by
    unfold Sp.table at hm
    obtain ⟨a,_,rfl⟩ := List.mem_map.1 hm
    simp; omega
  have hl' : (Sp.table w).length < 9223372036854775808 := by simp [Sp.table]; omega
  refine Abs.Spec.walk mixed fn3 nn3 t3 q3 nt3 (by simp) ?_
  simp only [w3,go_sem,Nat.reduceEqDiff,Nat.reduceAdd,Nat.reduceLT,Nat.reduceLeDiff,reduceIte,reduceCtorEq]
  refine W_loop (fun q : { q : List (List Int) × List (List Int) // q.1 ++ q.2 = w } => ([(0,.sl false false (mS w)),(3,own 0 0 (Sp.table q.1.1).length (Sp.table q.1.1).length 1),(15,.sl false false (mS w)),(16,I w.length),(17,I q.1.1.length)],[.cells (mS (Sp.table q.1.1))])) (fun q => q.1.2.length) ⟨([],w),rfl⟩ [none] (Wk.mk0 rfl (by simp [imgs,Blk.alive]) (by simp [hle,Sp.table,mS]) (by simp [fle,vle,Fr.get,mS_bnd,Sp.table])) ?_
  rintro ⟨⟨pre,suf⟩,hp⟩
  dsimp only at hp
  subst hp
  cases suf with
  | nil =>
    simp only [List.append_nil] at hw hl hw' hl' ⊢
    simp only [w3L0,go_sem,Nat.reduceEqDiff,Nat.reduceAdd,Nat.reduceLT,Nat.reduceLeDiff,reduceIte,reduceCtorEq]
    exact topPoint_rest hw hl hw' hl'
  | cons x suf =>
    by_cases h9 : (pre.length : Int) < 9
    · simp only [w3L0,h9,decide_true,go_sem,Nat.reduceEqDiff,Nat.reduceAdd,Nat.reduceLT,Nat.reduceLeDiff,reduceIte,reduceCtorEq]
      generalize hm : (if (9 : Int) < (x.length : Int) then (9 : Int) else (x.length : Int)) = m
      have hm1 : 0 ≤ m ∧ m ≤ x.length ∧ x.take m.toNat = x.take 9 := by
        split at hm
        · subst hm; exact ⟨by omega,by omega,rfl⟩
        · subst hm
          refine ⟨by omega,by omega,?_⟩
          rw [List.take_of_length_le (by omega),List.take_of_length_le (by omega)]
      have e6 : ∀ H,CallV Try.prog (.fn (.func 6) [] []) [.sl false false (mI (x.take 9))] H fun v H' => v = .sl false false (mI (x.take 9)) ∧ H' = H := fun H => liftV (s6' false false (x.take 9) (by simp; omega)) (by simp [bndL,AVal.bnd,mI_bnd]) (by simp [AVal.bnd,mI_bnd]) H
      have e : Sp.table (pre ++ [x]) = Sp.table pre ++ [x.take 9] := by
        simp only [Sp.table]
        rw [List.take_append,List.take_of_length_le (by omega)]
        have : ∃ k,9 - pre.length = k + 1 := ⟨8 - pre.length,by omega⟩
        obtain ⟨k,hk⟩ := this
        rw [hk]; simp
      have hlt : (Sp.table pre).length ≤ 9 := by simp [Sp.table]; omega
      rw [hm1.2.2]
      refine ⟨⟨by omega,hm1.1,hm1.2.1⟩,CallK.pure (e6 _) ?_⟩
      simp only [go_sem,Nat.reduceEqDiff,Nat.reduceAdd,Nat.reduceLT,Nat.reduceLeDiff,reduceIte,reduceCtorEq]
      refine ⟨by omega,?_⟩
      refine round1 rfl ⟨(pre ++ [x],suf),by simp⟩ [some 2] (by simp) (Wk.mk0 rfl (by simp [imgs,Blk.alive]) (by simp [hle,csle,e,mS_bnd,mS_one,mS_append]) (by simp [fle,vle,Fr.get,mS_bnd,e,rng_idx' hl]))
    · simp only [w3L0,h9,decide_false,go_sem,Nat.reduceEqDiff,Nat.reduceAdd,Nat.reduceLT,Nat.reduceLeDiff,reduceIte,reduceCtorEq]
      have e : Sp.table (pre ++ [x]) = Sp.table pre := by
        simp only [Sp.table]
        rw [List.take_append_of_le_length (by omega)]
      refine round1 rfl ⟨(pre ++ [x],suf),by simp⟩ [some 0] (by simp) (Wk.mk0 rfl (by simp [imgs,Blk.alive]) (by simp [hle,csle,e,mS_bnd]) (by simp [fle,vle,Fr.get,mS_bnd,e,rng_idx' hl]))
end Go.Proofs.Ytlonaefihjdkpaa
