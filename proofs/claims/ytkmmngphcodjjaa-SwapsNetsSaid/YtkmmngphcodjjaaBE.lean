/- Contract: the program's trading; Contract: the reference's trading; Contracts: Trade,Rounds,and the statement's function; Contracts: where a number stands. -/
import Derived.Test.YtkmmngphcodjjaaBA
import Derived.Test.YtkmmngphcodjjaaPX
import Derived.Test.YtkmmngphcodjjaaCE
import Derived.Test.YtkmmngphcodjjaaAG
import Derived.Test.YtkmmngphcodjjaaPZ
namespace Go.Proofs.Ytkmmngphcodjjaa
open Go.Abs AVal
set_option linter.unusedSimpArgs false
attribute [local go_sem] W_skip W_keep KQ_canon canon Fr.norm W_seq W_block W_scope W_cond W_exit W_ret W_ops W_draw KQ_nil KQ_norm_seq KQ_exit_seq KQ_ret_seq KQ_norm_block KQ_ret_block KQ_exit_block KQ_exit_loop KQ_ret_loop O_nil O_cons O_guard' S_call S_mv SE_mv SD_mv S_pick SE_pick SD_pick S_bin SE_bin SD_bin S_eqb SE_eqb SD_eqb S_eqv SE_eqv SD_eqv S_eqnil SE_eqnil SD_eqnil S_un SE_un SD_un S_conv SE_conv SD_conv S_mkfn SE_mkfn SD_mkfn S_load SE_load SD_load S_nilck SE_nilck SD_nilck S_slS SE_slS SD_slS S_slP SE_slP SD_slP S_fldA SE_fldA SD_fldA S_fld SE_fld SD_fld S_ixS SE_ixS SD_ixS S_ixP SE_ixP SD_ixP S_ixV SE_ixV SD_ixV S_ixStr SE_ixStr SD_ixStr S_ext SE_ext SD_ext S_len SE_len SD_len S_lenStr SE_lenStr SD_lenStr S_lenc SE_lenc SD_lenc S_mn SE_mn SD_mn S_mx SE_mx SD_mx S_build SE_build SD_build S_alloc SD_alloc S_box SD_box S_bslice SD_bslice S_mksl SD_mksl S_store SD_store S_append SD_append S_copy SD_copy S_clr SD_clr S_mlen SE_mlen SD_mlen S_mget SE_mget SD_mget S_mval SE_mval SD_mval S_mentry SE_mentry SD_mentry S_mkmap SD_mkmap S_mset SD_mset S_mrange SD_mrange S_mnext mlenA mgetA mvalA mentryA msetA mrangeA cells_mp isCell_mp cellsOk_mp aq_some aa_some al_some alA_some aqd_some aad_some ald_some ape_some D_done D_both D_early D_earlyG' D_step D_stepG' SE_call SD_call G_bool GE_bool GS_bool icond_bool IOpd.ev Fr.get Fr.put Fr.putd entryFr pickA binA binI isSh shI eqbA eqvA ints ints_mI Option.map_some eqnilA unA convA loadA nilckA intA slSA slPA fldAA fldVA ixSA ixPA ixVA ixStrA extA lenA lenStrA mnA mxA AVal.fits fillA fillOk buildA opa srcA appA stoA copA clrA rdFree zeros List.length_nil List.length_cons List.length_map List.map_cons List.map_nil Option.map_some Option.map_none if_true if_false ite_true ite_false true_and and_true and_self implies_true forall_const true_implies Bool.false_eq_true Bool.not_true Bool.not_false decide_eq_true_eq decide_eq_false_iff_not eq_self List.getElem?_cons_zero List.getElem?_cons_succ List.getElem?_nil List.set_cons_zero List.set_cons_succ List.nil_append List.cons_append List.append_nil List.replicate_zero List.replicate_succ Nat.zero_add false_implies rng_lt rng_end rng_get cells_I cells_B cells_sl cut_one Int.toNat_natCast Int.natCast_nonneg List.headD_cons Int.lt_irrefl not_false_eq_true decide_false decide_true mI_length mI_cells mI_sz mI_isCell mI_mid mI_append mI_take mI_drop cells_val cells_own cells_agg isCell_I isCell_B isCell_nil isCell_sl isCell_own isCell_ptr isCell_fn isCell_rp isCell_yld cellsOk_I cellsOk_B cellsOk_nil cellsOk_sl cellsOk_own cellsOk_ptr cellsOk_fn cellsOk_rp cellsOk_yld cellsOk_agg cells_nil cells_ptr cells_fn cells_rp List.all_cons List.all_nil Bool.and_true Nat.mul_one Nat.zero_mul Nat.one_mul List.take_zero List.take_nil List.drop_nil List.drop_zero List.not_mem_nil Nat.le_refl Nat.zero_le mS_length mS_cells mS_sz mS_isCell mS_mid mS_append mS_take mS_drop cells_sI isCell_sI cellsOk_sI sI_eq succ_le_self' List.take_succ_cons List.drop_succ_cons List.take_length beq_self_eq_true List.mem_cons or_false forall_eq mI_put mI_rep
set_option maxHeartbeats 2000000 in
theorem s56 (nn t : Bool) (w : List (List Int)) (g : Sp.Good w) : Abs.Spec Try.prog 56 [.sl nn t (mS w)] [] fun v H' => H' = [] ∧ v = .tup [.sl false false (mI (Sp.fin w).1),.sl false false (mI (Sp.fin w).2)] := by
  refine Abs.Spec.walk mixed fn56 nn56 t56 q56 nt56 (by simp) ?_
  have g1 := g.n1
  have g6 := g.n6
  simp only [w56,go_sem,Nat.reduceEqDiff,Nat.reduceAdd,Nat.reduceLT,Nat.reduceLeDiff,reduceIte,reduceCtorEq]
  refine ⟨⟨Int.le_refl _,by omega,by omega⟩,⟨Int.le_refl _,by omega,by omega⟩,?_⟩
  refine W_loop (fun p : { p : Nat × Int // Sp.isLeft w (Sp.st w p.1).2 p.2 } => ([(0,sl nn t (mS w)),(2,own 0 0 w.length w.length 1),(3,own 1 0 w.length w.length 1),(4,I w.length),(5,I p.1.2),(6,I (p.1.1 + 1))],[.cells (mI (Sp.st w p.1.1).1),.cells (mI (Sp.st w p.1.1).2)])) (fun p => Sp.left w (Sp.st w p.1.1).2)
    ⟨(0,IntKind.i64.wrap (Sp.shl1 w.length - 1)),?_⟩ [some 0,some 1] (Wk.mk0 rfl (by simp [imgs,Blk.alive]) (by simp [hle,csle,Sp.st,mI_bnd,mI_rep]) (by simp [fle,vle,Fr.get,mS_bnd,Sp.shl1,IntKind.bits])) ?_
  · have h := Sp.full_dec w.length (by omega)
    refine ⟨h.1,fun j hj => ?_⟩
    rw [h.2 j hj]
    by_cases hjn : j < w.length
    · simp [hjn,Sp.st,Sp.alive]
    · simp [hjn]
  rintro ⟨⟨k,lf⟩,hk⟩
  dsimp only at hk
  have hlen := Sp.st_len w k
  simp only [w56L0,w56T7,go_sem,Nat.reduceEqDiff,Nat.reduceAdd,Nat.reduceLT,Nat.reduceLeDiff,reduceIte,reduceCtorEq]
  refine ⟨fun h0 => ?_,fun h0 => ?_⟩
  rotate_left
  · have h0 : lf = 0 := by simpa using h0
    have hf := Sp.fin_of g ((Sp.isLeft_zero g hk).1 h0)
    refine leaf2 (.tup [.sl false false (mI (Sp.st w k).1),.sl false false (mI (Sp.st w k).2)]) ?_ ⟨rfl,by rw [hf]⟩
    exact ⟨vle_mI rfl (by simp) hlen.1.symm (by rw [← hlen.1]; exact take_mI),vle_mI rfl (by simp) hlen.2.symm (by rw [← hlen.2]; exact take_mI),trivial⟩
  have h0 : lf ≠ 0 := by simpa using h0
  have hsome : Sp.Some1 w (Sp.st w k).2 := Classical.byContradiction fun hn => h0 ((Sp.isLeft_zero g hk).2 hn)
  have hkn : k < w.length := by
    have h1 := Sp.left_le g k
    have h2 : Sp.left w (Sp.st w k).2 ≠ 0 := fun e => Sp.left_zero.1 e hsome
    omega
  obtain ⟨R,hR⟩ : ∃ R,R = (Sp.st w k).2 := ⟨_,rfl⟩
  obtain ⟨D,hD⟩ : ∃ D,D = (Sp.st w k).1 := ⟨_,rfl⟩
  have hXR := (Sp.st_len w (k + 1)).2
  have hXD := (Sp.st_len w (k + 1)).1
  have eXR : (Sp.st w (k + 1)).2 = Sp.stepR w R (k + 1) := by rw [hR]; rfl
  have eXD : (Sp.st w (k + 1)).1 = Sp.stepD w R D := by rw [hR,hD]; rfl
  rw [← hR,← hD] at hlen
  rw [eXR] at hXR
  rw [eXD] at hXD
  rw [← hR] at hk hsome
  simp only [← hR,← hD]
  refine W_loop (fun p : { p : Nat × Int // p.1 ≤ w.length ∧ Sp.isSet p.2 ∧ ∀ j : Nat,j < 6 → Sp.has p.2 j = (decide (j < p.1) && Sp.leaves w R j) } =>
    ([(0,sl nn t (mS w)),(2,own 0 0 w.length w.length 1),(3,own 1 0 w.length w.length 1),(4,I w.length),(5,I lf),(6,I (k + 1)),(7,I p.1.2),(23,I w.length),(24,I p.1.1)],
     [.cells (mI (Sp.part (Sp.stepD w R D) D p.1.1)),.cells (mI (Sp.part (Sp.stepR w R (k + 1)) R p.1.1))])) (fun p => w.length - p.1.1)
    ⟨(0,0),Nat.zero_le _,Sp.set0,fun j hj => by simp [Sp.has0 j hj]⟩ [some 0,some 1] (Wk.mk0 rfl (by simp [imgs,Blk.alive]) (by simp [hle,csle,Sp.part_zero,mI_bnd]) (by simp [fle,vle,Fr.get,mS_bnd])) ?_
  rintro ⟨⟨i,lv⟩,hin,hlv,hbits⟩
  dsimp only at hin hlv hbits
  by_cases hi : i < w.length
  · have hi' : (i : Int) < w.length := by omega
    have hbest : ∀ j : Nat,j < w.length → ∀ H,CallV Try.prog (.fn (.func 81) [] []) [.sl nn t (mS w),I j,I lf] H fun v H' => v = I (Sp.best w R j) ∧ H' = H := fun j hj H => by
      rw [← Sp.best_left g hk hj]
      exact CallV.of_spec (Spec.lift (s81 nn t w j lf hj (fun c hc => (g.rng _ (Sp.getD_mem hj) c hc).1) (by have := g.len _ (Sp.getD_mem (d := []) hj); omega) (Sp.some_bit g hk hsome hj)) (by simp [bndL,AVal.bnd,mS_bnd]) rfl H)
    have hbs := fun {j : Nat} (hj : j < w.length) => Sp.best_spec g hsome hj
    have hbit := Sp.bit_zero hk.1 (show i < 6 by omega)
    have hhas := hk.2 i (by omega)
    rw [decide_eq_true hi,Bool.true_and] at hhas
    have hXDi : (Sp.stepD w R D).getD i 0 = if Sp.leaves w R i then Sp.best w R i else D.getD i 0 := by simp [Sp.stepD,List.getD_eq_getElem?_getD,hi]
    have hXRi : (Sp.stepR w R (k + 1)).getD i 0 = if Sp.leaves w R i then (k + 1 : Int) else R.getD i 0 := by simp [Sp.stepR,List.getD_eq_getElem?_getD,hi]
    have hplD := Sp.part_len hXD hlen.1 hin
    have hplR := Sp.part_len hXR hlen.2 hin
    have hwi : IntKind.i64.wrap ((i : Int) + 1) = i + 1 := wrap64 (by omega) (by omega)
    simp only [w56L1,hi',go_sem,Nat.reduceEqDiff,Nat.reduceAdd,Nat.reduceLT,Nat.reduceLeDiff,reduceIte,reduceCtorEq]
    refine ⟨fun h => ?_,fun h => ?_⟩
    · have hl : Sp.leaves w R i = false := by
        have : Sp.has lf i = false := by
          have : (Sp.bitAt lf i == 0) = true := h
          rw [hbit] at this; simpa using this
        unfold Sp.leaves; rw [← hhas,this]; rfl
      rw [hl] at hXDi hXRi
      simp only [w56T4,go_sem,Nat.reduceEqDiff,Nat.reduceAdd,Nat.reduceLT,Nat.reduceLeDiff,reduceIte,reduceCtorEq]
      refine round1 rfl ⟨(i + 1,lv),by omega,hlv,fun j hj => ?_⟩ [some 0,some 1] (by dsimp only; omega) (Wk.mk0 rfl (by simp [imgs,Blk.alive]) (by simp [hle,csle,Sp.part_skip hXD hlen.1 hi (by simpa using hXDi),Sp.part_skip hXR hlen.2 hi (by simpa using hXRi),mI_bnd]) (by simp [fle,vle,Fr.get,mS_bnd,hwi]))
      rw [hbits j hj]
      by_cases hji : j = i
      · subst hji; simp [hl]
      · congr 1; simp; omega
    · have ha : Sp.alive R i = true := by
        have : (Sp.bitAt lf i == 0) = false := h
        rw [hbit] at this
        rw [← hhas]; simpa using this
      refine CallK.pure (hbest i hi _) ?_
      simp only [go_sem,Nat.reduceEqDiff,Nat.reduceAdd,Nat.reduceLT,Nat.reduceLeDiff,reduceIte,reduceCtorEq]
      refine W_loop (fun p : { p : Nat × Int // p.1 ≤ w.length ∧ (0 ≤ p.2 ∧ p.2 < w.length) ∧ Sp.chase (Sp.best w R) i (w.length - p.1) p.2 = Sp.chase (Sp.best w R) i w.length (Sp.best w R i) } =>
        ([(0,sl nn t (mS w)),(2,own 0 0 w.length w.length 1),(3,own 1 0 w.length w.length 1),(4,I w.length),(5,I lf),(6,I (k + 1)),(7,I lv),(8,I i),(9,I p.1.2),(23,I w.length),(24,I i),(36,I w.length),(37,I p.1.1)],
         [.cells (mI (Sp.part (Sp.stepD w R D) D i)),.cells (mI (Sp.part (Sp.stepR w R (k + 1)) R i))])) (fun p => w.length - p.1.1)
        ⟨(0,Sp.best w R i),Nat.zero_le _,⟨(hbs hi).1,(hbs hi).2.1⟩,rfl⟩ [some 0,some 1] (Wk.mk0 rfl (by simp [imgs,Blk.alive]) (by simp [hle,csle,mI_bnd]) (by simp [fle,vle,Fr.get,mS_bnd])) ?_
      rintro ⟨⟨m,at'⟩,hm,hat,hch⟩
      dsimp only at hm hat hch
      by_cases hmn : m < w.length
      · have hmn' : (m : Int) < w.length := by omega
        simp only [w56L2,hmn',go_sem,Nat.reduceEqDiff,Nat.reduceAdd,Nat.reduceLT,Nat.reduceLeDiff,reduceIte,reduceCtorEq]
        refine ⟨fun h1 => ?_,fun h1 => ?_⟩
        · simp only [w56T3,h1,go_sem,Nat.reduceEqDiff,Nat.reduceAdd,Nat.reduceLT,Nat.reduceLeDiff,reduceIte,reduceCtorEq]
          have hl : Sp.leaves w R i = true := by
            unfold Sp.leaves
            rw [ha,Bool.true_and,beq_iff_eq,← hch]
            (have : at' = i := by simpa using h1); subst this; exact Sp.chase_self _ _ _
          rw [hl,if_pos rfl] at hXDi hXRi
          refine CallK.pure (hbest i hi _) ?_
          simp only [w56T4,hi',hplD,hplR,go_sem,Nat.reduceEqDiff,Nat.reduceAdd,Nat.reduceLT,Nat.reduceLeDiff,reduceIte,reduceCtorEq]
          refine ⟨by omega,by omega,?_⟩
          refine round1 rfl ⟨(i + 1,Sp.orI lv (Sp.shl1 i)),by omega,Sp.or_set hlv (by omega),fun j hj => ?_⟩ [some 0,some 1] (by dsimp only; omega) (Wk.mk0 rfl (by simp [imgs,Blk.alive]) (by simp only [hle,csle,List.getElem?_cons_zero,List.getElem?_cons_succ,Option.join_some,Sp.part_set hXD hlen.1 hi hXDi,Sp.part_set hXR hlen.2 hi hXRi,mI_bnd,and_true,true_or]) (by simp [fle,vle,Fr.get,mS_bnd,hwi,Sp.orI,Sp.shl1,IntKind.bits]))
          rw [Sp.has_or hlv (by omega) hj,hbits j hj]
          by_cases hji : j = i
          · subst hji; simp [hl]
          · simp only [hji,decide_false,Bool.or_false]; congr 1; simp; omega
        · obtain ⟨a,rfl⟩ : ∃ a : Nat,at' = a := ⟨at'.toNat,by omega⟩
          have ha1 : ¬ ((a : Int) = i) := by simpa using h1
          have ha2 : a < w.length := by omega
          have hwm : IntKind.i64.wrap ((m : Int) + 1) = m + 1 := wrap64 (by omega) (by omega)
          refine CallK.pure (hbest a ha2 _) ?_
          simp only [go_sem,Nat.reduceEqDiff,Nat.reduceAdd,Nat.reduceLT,Nat.reduceLeDiff,reduceIte,reduceCtorEq]
          refine round1 rfl ⟨(m + 1,Sp.best w R a),by omega,⟨(hbs ha2).1,(hbs ha2).2.1⟩,?_⟩ [some 0,some 1] (by dsimp only; omega) (Wk.mk0 rfl (by simp [imgs,Blk.alive]) (by simp [hle,csle,mI_bnd]) (by simp [fle,vle,Fr.get,mS_bnd,hwm]))
          rw [← hch,show w.length - m = (w.length - (m + 1)) + 1 by omega]
          simp only [Sp.chase,if_neg ha1,Int.toNat_natCast]
      · have hmn' : ¬ (m : Int) < w.length := by omega
        simp only [w56L2,hmn',w56T3,go_sem,Nat.reduceEqDiff,Nat.reduceAdd,Nat.reduceLT,Nat.reduceLeDiff,reduceIte,reduceCtorEq]
        rw [show w.length - m = 0 by omega] at hch
        simp only [Sp.chase] at hch
        refine ⟨fun h1 => ?_,fun h1 => ?_⟩
        · have hl : Sp.leaves w R i = true := by
            unfold Sp.leaves
            rw [ha,Bool.true_and,beq_iff_eq,← hch]
            simpa using h1
          rw [hl,if_pos rfl] at hXDi hXRi
          refine CallK.pure (hbest i hi _) ?_
          simp only [w56T4,hi',hplD,hplR,go_sem,Nat.reduceEqDiff,Nat.reduceAdd,Nat.reduceLT,Nat.reduceLeDiff,reduceIte,reduceCtorEq]
          refine ⟨by omega,by omega,?_⟩
          refine round1 rfl ⟨(i + 1,Sp.orI lv (Sp.shl1 i)),by omega,Sp.or_set hlv (by omega),fun j hj => ?_⟩ [some 0,some 1] (by dsimp only; omega) (Wk.mk0 rfl (by simp [imgs,Blk.alive]) (by simp only [hle,csle,List.getElem?_cons_zero,List.getElem?_cons_succ,Option.join_some,Sp.part_set hXD hlen.1 hi hXDi,Sp.part_set hXR hlen.2 hi hXRi,mI_bnd,and_true,true_or]) (by simp [fle,vle,Fr.get,mS_bnd,hwi,Sp.orI,Sp.shl1,IntKind.bits]))
          rw [Sp.has_or hlv (by omega) hj,hbits j hj]
          by_cases hji : j = i
          · subst hji; simp [hl]
          · simp only [hji,decide_false,Bool.or_false]; congr 1; simp; omega
        · have hl : Sp.leaves w R i = false := by
            unfold Sp.leaves
            rw [← hch,ha,Bool.true_and]; exact h1
          rw [hl] at hXDi hXRi
          simp only [w56T4,go_sem,Nat.reduceEqDiff,Nat.reduceAdd,Nat.reduceLT,Nat.reduceLeDiff,reduceIte,reduceCtorEq]
          refine round1 rfl ⟨(i + 1,lv),by omega,hlv,fun j hj => ?_⟩ [some 0,some 1] (by dsimp only; omega) (Wk.mk0 rfl (by simp [imgs,Blk.alive]) (by simp [hle,csle,Sp.part_skip hXD hlen.1 hi (by simpa using hXDi),Sp.part_skip hXR hlen.2 hi (by simpa using hXRi),mI_bnd]) (by simp [fle,vle,Fr.get,mS_bnd,hwi]))
          rw [hbits j hj]
          by_cases hji : j = i
          · subst hji; simp [hl]
          · congr 1; simp; omega
  · have hi' : ¬ (i : Int) < w.length := by omega
    obtain rfl : i = w.length := by omega
    have hw2 : IntKind.i64.wrap ((k : Int) + 1 + 1) = k + 1 + 1 := wrap64 (by omega) (by omega)
    simp only [w56L1,hi',w56T5,w56T6,go_sem,Nat.reduceEqDiff,Nat.reduceAdd,Nat.reduceLT,Nat.reduceLeDiff,reduceIte,reduceCtorEq]
    refine round1 rfl ⟨(k + 1,Sp.butI lf lv),by rw [eXR]; exact Sp.left_step g (by omega) hk hlv hbits⟩ [some 0,some 1] (by dsimp only; rw [eXR,← hR]; exact Sp.left_lt g (by omega) hsome)
      (Wk.mk0 rfl (by simp [imgs,Blk.alive]) (by simp [hle,csle,mI_bnd,eXD,eXR,Sp.part_all hXD hlen.1,Sp.part_all hXR hlen.2]) (by simp [fle,vle,Fr.get,mS_bnd,hw2,Sp.butI]))
open Go.Abs AVal
set_option maxHeartbeats 2000000 in
theorem s57 (nn t : Bool) (w : List (List Int)) (g : Sp.Good w) : Abs.Spec Try.prog 57 [.sl nn t (mS w)] [] fun v H' => H' = [] ∧ v = .tup [.sl false false (mI (Sp.fin w).1),.sl false false (mI (Sp.fin w).2)] := by
  refine Abs.Spec.walk mixed fn57 nn57 t57 q57 nt57 (by simp) ?_
  have g1 := g.n1
  have g6 := g.n6
  simp only [w57,go_sem,Nat.reduceEqDiff,Nat.reduceAdd,Nat.reduceLT,Nat.reduceLeDiff,reduceIte,reduceCtorEq]
  refine ⟨⟨Int.le_refl _,by omega,by omega⟩,⟨Int.le_refl _,by omega,by omega⟩,?_⟩
  refine W_loop (fun k : Nat => ([(0,sl nn t (mS w)),(4,I w.length),(5,own 0 0 w.length w.length 1),(6,own 1 0 w.length w.length 1),(7,I (k + 1)),(8,I (Sp.left w (Sp.st w k).2))],[.cells (mI (Sp.st w k).1),.cells (mI (Sp.st w k).2)])) (fun k => Sp.left w (Sp.st w k).2)
    0 [some 0,some 1] (Wk.mk0 rfl (by simp [imgs,Blk.alive]) (by simp [hle,csle,Sp.st,mI_bnd,mI_rep]) (by simp [fle,vle,Fr.get,mS_bnd,Sp.left_start])) ?_
  intro k
  have hlen := Sp.st_len w k
  simp only [w57L0,w57T12,go_sem,Nat.reduceEqDiff,Nat.reduceAdd,Nat.reduceLT,Nat.reduceLeDiff,reduceIte,reduceCtorEq]
  refine ⟨fun h0 => ?_,fun h0 => ?_⟩
  rotate_left
  · have h0 : Sp.left w (Sp.st w k).2 = 0 := by omega
    have hf := Sp.fin_of g (Sp.left_zero.1 h0)
    refine leaf2 (.tup [.sl false false (mI (Sp.st w k).1),.sl false false (mI (Sp.st w k).2)]) ?_ ⟨rfl,by rw [hf]⟩
    exact ⟨vle_mI rfl (by simp) hlen.1.symm (by rw [← hlen.1]; exact take_mI),vle_mI rfl (by simp) hlen.2.symm (by rw [← hlen.2]; exact take_mI),trivial⟩
  have hsome : Sp.Some1 w (Sp.st w k).2 := Classical.byContradiction fun hn => by have := Sp.left_zero.2 hn; omega
  have hkn : k < w.length := by
    have h1 := Sp.left_le g k
    omega
  have hlL : Sp.left w (Sp.st w k).2 ≤ w.length := by have := Sp.left_le g k; omega
  obtain ⟨R,hR⟩ : ∃ R,R = (Sp.st w k).2 := ⟨_,rfl⟩
  obtain ⟨D,hD⟩ : ∃ D,D = (Sp.st w k).1 := ⟨_,rfl⟩
  have hXR := (Sp.st_len w (k + 1)).2
  have hXD := (Sp.st_len w (k + 1)).1
  have eXR : (Sp.st w (k + 1)).2 = Sp.stepR w R (k + 1) := by rw [hR]; rfl
  have eXD : (Sp.st w (k + 1)).1 = Sp.stepD w R D := by rw [hR,hD]; rfl
  rw [← hR,← hD] at hlen
  rw [eXR] at hXR
  rw [eXD] at hXD
  rw [← hR] at hsome hlL
  simp only [← hR,← hD]
  have hbs := fun {j : Nat} (hj : j < w.length) => Sp.best_spec g hsome hj
  have hTl := Sp.toL_len w R
  have hZl : (List.replicate w.length (0 : Int)).length = w.length := by simp
  refine ⟨⟨Int.le_refl _,by omega,by omega⟩,?_⟩
  refine W_loop (fun p : { i : Nat // i ≤ w.length } =>
    ([(0,sl nn t (mS w)),(4,I w.length),(5,own 0 0 w.length w.length 1),(6,own 1 0 w.length w.length 1),(7,I (k + 1)),(8,I (Sp.left w R)),(9,own 2 0 w.length w.length 1),(31,I w.length),(32,I p.1)],
     [.cells (mI D),.cells (mI R),.cells (mI (Sp.part (Sp.toL w R) (List.replicate w.length 0) p.1))])) (fun p => w.length - p.1)
    ⟨0,Nat.zero_le _⟩ [some 0,some 1,some 2] (Wk.mk0 rfl (by simp [imgs,Blk.alive]) (by simp [hle,csle,Sp.part_zero,mI_bnd,mI_rep]) (by simp [fle,vle,Fr.get,mS_bnd])) ?_
  rintro ⟨i,hin⟩
  dsimp only
  by_cases hi : i < w.length
  · have hi' : (i : Int) < w.length := by omega
    have hwi : IntKind.i64.wrap ((i : Int) + 1) = i + 1 := wrap64 (by omega) (by omega)
    have hrow := g.len _ (Sp.getD_mem (d := []) hi)
    have hrng := g.rng _ (Sp.getD_mem (d := []) hi)
    have hwn : IntKind.i64.wrap ((w.length : Int) - 1) = w.length - 1 := wrap64 (by omega) (by omega)
    simp only [w57L1,hi',go_sem,Nat.reduceEqDiff,Nat.reduceAdd,Nat.reduceLT,Nat.reduceLeDiff,reduceIte,reduceCtorEq]
    -- the row from its end
    refine W_loop (fun p : { m : Nat // m ≤ w.length } =>
      ([(0,sl nn t (mS w)),(4,I w.length),(5,own 0 0 w.length w.length 1),(6,own 1 0 w.length w.length 1),(7,I (k + 1)),(8,I (Sp.left w R)),(9,own 2 0 w.length w.length 1),(10,I i),(11,I ((p.1 : Int) - 1)),(31,I w.length),(32,I i)],
       [.cells (mI D),.cells (mI R),.cells (mI ((Sp.part (Sp.toL w R) (List.replicate w.length 0) i).take i ++ [Sp.pick R ((w.getD i []).drop p.1)] ++ (Sp.part (Sp.toL w R) (List.replicate w.length 0) i).drop (i + 1)))])) (fun p => p.1)
      ⟨w.length,Nat.le_refl _⟩ [some 0,some 1,some 2] (Wk.mk0 rfl (by simp [imgs,Blk.alive]) ?_ (by simp [fle,vle,Fr.get,mS_bnd,hwn])) ?_
    · have e : (Sp.part (Sp.toL w R) (List.replicate w.length 0) i).take i ++ [Sp.pick R ((w.getD i []).drop w.length)] ++ (Sp.part (Sp.toL w R) (List.replicate w.length 0) i).drop (i + 1) = Sp.part (Sp.toL w R) (List.replicate w.length 0) i := by
        rw [List.drop_of_length_le (by omega)]
        exact Sp.part_id hTl hZl hi (by simp [List.getD_eq_getElem?_getD,hi,Sp.pick])
      dsimp only
      simp only [hle,csle,List.getElem?_cons_zero,List.getElem?_cons_succ,Option.join_some,e,mI_bnd,and_true,true_or]
    rintro ⟨m,hm⟩
    dsimp only
    obtain ⟨A,hA⟩ : ∃ A,A = Sp.part (Sp.toL w R) (List.replicate w.length 0) i := ⟨_,rfl⟩
    have hAl : A.length = w.length := by rw [hA]; exact Sp.part_len hTl hZl hin
    simp only [← hA]
    cases m with
    | zero =>
      have e : A.take i ++ [Sp.pick R (w.getD i [])] ++ A.drop (i + 1) = Sp.part (Sp.toL w R) (List.replicate w.length 0) (i + 1) := by
        rw [hA,Sp.pick_best g hsome hi]
        exact Sp.part_set hTl hZl hi (Sp.toL_get hi)
      have hneg : ¬ ((0 : Nat) : Int) - 1 ≥ 0 := by omega
      simp only [w57L2,hneg,w57T3,go_sem,Nat.reduceEqDiff,Nat.reduceAdd,Nat.reduceLT,Nat.reduceLeDiff,reduceIte,reduceCtorEq]
      refine round1 rfl ⟨i + 1,by omega⟩ [some 0,some 1,some 2] (by dsimp only; omega) (Wk.mk0 rfl (by simp [imgs,Blk.alive]) (by simp only [hle,csle,List.getElem?_cons_zero,List.getElem?_cons_succ,Option.join_some,e,mI_bnd,and_true,true_or]) (by simp [fle,vle,Fr.get,mS_bnd,hwi]))
    | succ m =>
      have hm1 : ((m + 1 : Nat) : Int) - 1 = m := by omega
      have hge : (m : Int) ≥ 0 := by omega
      have hml : m < (w.getD i []).length := by omega
      have hc := hrng _ (Sp.getD_mem (d := 0) hml)
      obtain ⟨c,hcc⟩ : ∃ c : Nat,(w.getD i []).getD m 0 = c := ⟨((w.getD i []).getD m 0).toNat,by omega⟩
      have hcR : c < R.length := by omega
      have hcw : (c : Int) < w.length := by omega
      have hml' : (m : Int) < (w.getD i []).length := by omega
      have hwm : IntKind.i64.wrap ((m : Int) - 1) = m - 1 := wrap64 (by omega) (by omega)
      have hpd := Sp.pick_drop (R := R) hml
      rw [hcc] at hpd
      have hal : Sp.alive R c = (R.getD c 0 == 0) := rfl
      have hAi : i < A.length := by omega
      have hpl := Sp.put_len hAi (Sp.pick R ((w.getD i []).drop (m + 1)))
      simp only [w57L2,hm1,hge,mS_get,hi,mI_get,hml,hcc,mI_hd,hcR,hi',hcw,hml',go_sem,Nat.reduceEqDiff,Nat.reduceAdd,Nat.reduceLT,Nat.reduceLeDiff,reduceIte,reduceCtorEq]
      refine ⟨by omega,fun h1 => ⟨by omega,?_⟩,fun h1 => ?_⟩
      · rw [← hal] at h1
        rw [if_pos h1] at hpd
        refine round1 rfl ⟨m,by omega⟩ [some 0,some 1,some 2] (by dsimp only; omega) (Wk.mk0 rfl (by simp [imgs,Blk.alive]) (by dsimp only; simp only [hle,csle,List.getElem?_cons_zero,List.getElem?_cons_succ,Option.join_some,Sp.put_put hAi,hpd,mI_bnd,and_true,true_or]) (by simp [fle,vle,Fr.get,mS_bnd,hwm]))
      · rw [← hal] at h1
        rw [h1] at hpd
        refine round1 rfl ⟨m,by omega⟩ [some 0,some 1,some 2] (by dsimp only; omega) (Wk.mk0 rfl (by simp [imgs,Blk.alive]) (by dsimp only; simp only [hle,csle,List.getElem?_cons_zero,List.getElem?_cons_succ,Option.join_some,hpd,mI_bnd,and_true,true_or,Bool.false_eq_true,if_false]) (by simp [fle,vle,Fr.get,mS_bnd,hwm]))
  · have hi' : ¬ (i : Int) < w.length := by omega
    obtain rfl : i = w.length := by omega
    simp only [w57L1,hi',w57T4,go_sem,Nat.reduceEqDiff,Nat.reduceAdd,Nat.reduceLT,Nat.reduceLeDiff,reduceIte,reduceCtorEq]
    simp only [Sp.part_all hTl hZl]
    refine W_loop (fun p : { i : Nat // i ≤ w.length } =>
      ([(0,sl nn t (mS w)),(4,I w.length),(5,own 0 0 w.length w.length 1),(6,own 1 0 w.length w.length 1),(7,I (k + 1)),(8,I (Sp.left w R)),(9,own 2 0 w.length w.length 1),(12,own 3 0 (Sp.leavesL w R p.1).length (Sp.leavesL w R p.1).length 1),(64,I w.length),(65,I p.1)],
       [.cells (mI D),.cells (mI R),.cells (mI (Sp.toL w R)),.cells (mI (Sp.leavesL w R p.1))])) (fun p => w.length - p.1)
      ⟨0,Nat.zero_le _⟩ [some 0,some 1,some 2,none] (Wk.mk0 rfl (by simp [imgs,Blk.alive]) (by simp [hle,csle,Sp.leavesL,mI_bnd,mI]) (by simp [fle,vle,Fr.get,mS_bnd,Sp.leavesL])) ?_
    rintro ⟨i,hin⟩
    dsimp only
    have hLl := Sp.leavesL_len w R i
    by_cases hi : i < w.length
    · have hi' : (i : Int) < w.length := by omega
      have hwi : IntKind.i64.wrap ((i : Int) + 1) = i + 1 := wrap64 (by omega) (by omega)
      have hiT : i < (Sp.toL w R).length := by omega
      have hiR : i < R.length := by omega
      simp only [w57L5,hi',mI_hd,hiT,go_sem,Nat.reduceEqDiff,Nat.reduceAdd,Nat.reduceLT,Nat.reduceLeDiff,reduceIte,reduceCtorEq]
      refine ⟨by omega,?_⟩
      rw [Sp.toL_get hi]
      refine W_loop (fun p : { p : Nat × Int // p.1 ≤ w.length ∧ (0 ≤ p.2 ∧ p.2 < w.length) ∧ Sp.chase (Sp.best w R) i (w.length - p.1) p.2 = Sp.chase (Sp.best w R) i w.length (Sp.best w R i) } =>
        ([(0,sl nn t (mS w)),(4,I w.length),(5,own 0 0 w.length w.length 1),(6,own 1 0 w.length w.length 1),(7,I (k + 1)),(8,I (Sp.left w R)),(9,own 2 0 w.length w.length 1),(12,own 3 0 (Sp.leavesL w R i).length (Sp.leavesL w R i).length 1),(13,I i),(14,I p.1.2),(64,I w.length),(65,I i),(72,I w.length),(73,I p.1.1)],
         [.cells (mI D),.cells (mI R),.cells (mI (Sp.toL w R)),.cells (mI (Sp.leavesL w R i))])) (fun p => w.length - p.1.1)
        ⟨(0,Sp.best w R i),Nat.zero_le _,⟨(hbs hi).1,(hbs hi).2.1⟩,rfl⟩ [some 0,some 1,some 2,some 3] (Wk.mk0 rfl (by simp [imgs,Blk.alive]) (by simp [hle,csle,mI_bnd]) (by simp [fle,vle,Fr.get,mS_bnd])) ?_
      rintro ⟨⟨m,at'⟩,hm,hat,hch⟩
      dsimp only at hm hat hch
      by_cases hmn : m < w.length
      · have hmn' : (m : Int) < w.length := by omega
        obtain ⟨a,rfl⟩ : ∃ a : Nat,at' = a := ⟨at'.toNat,by omega⟩
        have ha2 : a < w.length := by omega
        have ha3 : (a : Int) < w.length := by omega
        have haT : a < (Sp.toL w R).length := by omega
        have hwm : IntKind.i64.wrap ((m : Int) + 1) = m + 1 := wrap64 (by omega) (by omega)
        have hstep : w.length - m = (w.length - (m + 1)) + 1 := by omega
        simp only [w57L6,hmn',mI_hd,haT,ha3,go_sem,Nat.reduceEqDiff,Nat.reduceAdd,Nat.reduceLT,Nat.reduceLeDiff,reduceIte,reduceCtorEq]
        refine ⟨fun h1 => ⟨by omega,?_⟩,fun h1 => ?_⟩
        · have ha1 : ¬ ((a : Int) = i) := by simpa using h1
          refine round1 rfl ⟨(m + 1,Sp.best w R a),by omega,⟨(hbs ha2).1,(hbs ha2).2.1⟩,?_⟩ [some 0,some 1,some 2,some 3] (by dsimp only; omega) (Wk.mk0 rfl (by simp [imgs,Blk.alive]) (by simp [hle,csle,mI_bnd]) (by simp only [Sp.toL_get ha2]; simp [fle,vle,Fr.get,mS_bnd,hwm]))
          rw [← hch,hstep]
          simp only [Sp.chase,if_neg ha1,Int.toNat_natCast]
        · have ha1 : (a : Int) = i := by simpa using h1
          refine round1 rfl ⟨(m + 1,a),by omega,by omega,?_⟩ [some 0,some 1,some 2,some 3] (by dsimp only; omega) (Wk.mk0 rfl (by simp [imgs,Blk.alive]) (by simp [hle,csle,mI_bnd]) (by simp [fle,vle,Fr.get,mS_bnd,hwm]))
          rw [← hch,ha1,Sp.chase_self,Sp.chase_self]
      · have hmn' : ¬ (m : Int) < w.length := by omega
        rw [show w.length - m = 0 by omega] at hch
        simp only [Sp.chase] at hch
        have hlv : Sp.leaves w R i = ((R.getD i 0 == 0) && (at' == (i : Int))) := by
          unfold Sp.leaves; rw [← hch]; rfl
        have hsucc := Sp.leavesL_succ w R i
        simp only [w57L6,hmn',w57T7,mI_hd,hiR,go_sem,Nat.reduceEqDiff,Nat.reduceAdd,Nat.reduceLT,Nat.reduceLeDiff,reduceIte,reduceCtorEq]
        refine ⟨by omega,by omega,fun h1 => ⟨fun h2 => ⟨by omega,?_⟩,fun h2 => ?_⟩,fun h1 => ?_⟩
        · rw [hlv,h1,h2] at hsucc
          simp only [Bool.and_self,if_true] at hsucc
          simp only [w57T8,go_sem,Nat.reduceEqDiff,Nat.reduceAdd,Nat.reduceLT,Nat.reduceLeDiff,reduceIte,reduceCtorEq]
          refine round1 rfl ⟨i + 1,by omega⟩ [some 0,some 1,some 2,some 5] (by dsimp only; omega) (Wk.mk0 rfl (by simp [imgs,Blk.alive]) (by dsimp only; simp only [hle,csle,List.getElem?_cons_zero,List.getElem?_cons_succ,Option.join_some,mI_snoc,hsucc,mI_bnd,and_true,true_or]) (by simp [fle,vle,Fr.get,mS_bnd,hwi,hsucc]))
        · rw [hlv,h1,h2] at hsucc
          simp only [Bool.and_false,Bool.false_eq_true,if_false,List.append_nil] at hsucc
          simp only [w57T8,go_sem,Nat.reduceEqDiff,Nat.reduceAdd,Nat.reduceLT,Nat.reduceLeDiff,reduceIte,reduceCtorEq]
          refine round1 rfl ⟨i + 1,by omega⟩ [some 0,some 1,some 2,some 3] (by dsimp only; omega) (Wk.mk0 rfl (by simp [imgs,Blk.alive]) (by simp [hle,csle,mI_bnd,hsucc]) (by simp [fle,vle,Fr.get,mS_bnd,hwi,hsucc]))
        · rw [hlv,h1] at hsucc
          simp only [Bool.false_and,Bool.false_eq_true,if_false,List.append_nil] at hsucc
          simp only [w57T8,go_sem,Nat.reduceEqDiff,Nat.reduceAdd,Nat.reduceLT,Nat.reduceLeDiff,reduceIte,reduceCtorEq]
          refine round1 rfl ⟨i + 1,by omega⟩ [some 0,some 1,some 2,some 3] (by dsimp only; omega) (Wk.mk0 rfl (by simp [imgs,Blk.alive]) (by simp [hle,csle,mI_bnd,hsucc]) (by simp [fle,vle,Fr.get,mS_bnd,hwi,hsucc]))
    · have hi' : ¬ (i : Int) < w.length := by omega
      obtain rfl : i = w.length := by omega
      have hlc := Sp.left_count (w := w) (R := R) (r := (k + 1 : Int)) (by omega)
      obtain ⟨Ls,hLs⟩ : ∃ Ls,Ls = Sp.leavesL w R w.length := ⟨_,rfl⟩
      have hmem : ∀ x ∈ Ls,∃ j : Nat,j < w.length ∧ x = j := fun x hx => by
        rw [hLs] at hx
        obtain ⟨j,h1,_,h2⟩ := Sp.leavesL_mem.1 hx
        exact ⟨j,h1,h2⟩
      rw [← hLs] at hLl hlc
      simp only [w57L5,hi',w57T9,go_sem,Nat.reduceEqDiff,Nat.reduceAdd,Nat.reduceLT,Nat.reduceLeDiff,reduceIte,reduceCtorEq]
      simp only [← hLs]
      refine W_loop (fun p : { p : List Int × List Int // p.1 ++ p.2 = Ls } =>
        ([(0,sl nn t (mS w)),(4,I w.length),(5,own 0 0 w.length w.length 1),(6,own 1 0 w.length w.length 1),(7,I (k + 1)),(8,I (Sp.left w R - p.1.1.length)),(9,own 2 0 w.length w.length 1),(98,sl false false (mI Ls)),(99,I Ls.length),(100,I p.1.1.length)],
         [.cells (mI (Sp.upd w.length p.1.1 (Sp.toL w R) D)),.cells (mI (Sp.upd w.length p.1.1 (List.replicate w.length (k + 1)) R)),.cells (mI (Sp.toL w R))])) (fun p => p.1.2.length)
        ⟨([],Ls),rfl⟩ [some 0,some 1,some 2] (Wk.mk0 rfl (by simp [imgs,Blk.alive]) (by simp [hle,csle,mI_bnd,Sp.upd_nil hlen.1,Sp.upd_nil hlen.2]) (by simp [fle,vle,Fr.get,mS_bnd,mI_bnd,mI_length,mI_sz,mI_cells,take_mI,imgs,Blk.alive])) ?_
      rintro ⟨⟨pre,suf⟩,hp⟩
      dsimp only at hp
      subst hp
      have hld := Sp.upd_len w.length pre (Sp.toL w R) D
      have hlr := Sp.upd_len w.length pre (List.replicate w.length ((k : Int) + 1)) R
      simp only [List.length_append] at hLl hlc
      cases suf with
      | nil =>
        simp only [List.append_nil] at hLs
        have hw2 : IntKind.i64.wrap ((k : Int) + 1 + 1) = k + 1 + 1 := wrap64 (by omega) (by omega)
        simp only [w57L10,w57T11,go_sem,Nat.reduceEqDiff,Nat.reduceAdd,Nat.reduceLT,Nat.reduceLeDiff,reduceIte,reduceCtorEq]
        have hst : Sp.left w (Sp.st w (k + 1)).2 = Sp.left w (Sp.stepR w R (k + 1)) := by rw [eXR]
        have hlt : Sp.left w (Sp.st w (k + 1)).2 < Sp.left w (Sp.st w k).2 := by rw [hst,← hR]; exact Sp.left_lt g (by omega) hsome
        have e8 : ((Sp.left w R : Int) - pre.length) = (Sp.left w (Sp.st w (k + 1)).2 : Nat) := by
          simp only [List.length_nil,Nat.add_zero] at hlc
          omega
        refine round1 rfl (k + 1) [some 0,some 1] hlt (Wk.mk0 rfl (by simp [imgs,Blk.alive]) (by subst hLs; simp [hle,csle,mI_bnd,eXD,eXR,Sp.upd_D,Sp.upd_R]) (by simp [fle,vle,Fr.get,mS_bnd,hw2,e8]))
      | cons x suf =>
        obtain ⟨j,hj,rfl⟩ := hmem x (by simp)
        have hj' : (j : Int) < w.length := by omega
        have hjT : j < (Sp.toL w R).length := by omega
        have hrep : (List.replicate w.length ((k : Int) + 1)).getD j 0 = k + 1 := by simp [List.getD_eq_getElem?_getD,hj]
        have e8 : IntKind.i64.wrap ((Sp.left w R : Int) - pre.length - 1) = (Sp.left w R : Int) - (pre ++ [(j : Int)]).length := by
          simp only [List.length_cons] at hlc
          rw [wrap64 (by omega) (by omega)]; simp; omega
        have hlt : (pre ++ (j : Int) :: suf).length < 9223372036854775808 := by simp only [List.length_append]; omega
        simp only [w57L10,hj',mI_hd,hjT,go_sem,Nat.reduceEqDiff,Nat.reduceAdd,Nat.reduceLT,Nat.reduceLeDiff,reduceIte,reduceCtorEq]
        refine ⟨by omega,by omega,by omega,?_⟩
        refine round1 rfl ⟨(pre ++ [(j : Int)],suf),by simp⟩ [some 0,some 1,some 2] (by dsimp only; simp) (Wk.mk0 rfl (by simp [imgs,Blk.alive]) (by dsimp only; simp only [hle,csle,List.getElem?_cons_zero,List.getElem?_cons_succ,Option.join_some,Sp.upd_set hj rfl,Sp.upd_set hj hrep,mI_bnd,and_true,true_or]) ?_)
        simp only [fle,vle,Fr.get,e8,rng_idx hlt,mI_bnd,mS_bnd,Nat.reduceEqDiff,if_true,if_false,reduceIte,and_true,true_and,List.length_cons,List.length_nil,Nat.reduceAdd,Nat.reduceLT,List.getElem?_cons_zero,List.getElem?_cons_succ,Option.join_some,Nat.le_refl,implies_true]
        try simp
open Go.Abs AVal
def tradeA (w : List (List Int)) : AVal := if Sp.valid w then .tup [.sl false false (mI (Sp.fin w).1),I 0] else .tup [.sl false false (mI []),I 2]
def roundsA (w : List (List Int)) : AVal := if Sp.valid w then .tup [.sl false false (mI (Sp.fin w).2),I 0] else .tup [.sl false false (mI []),I 2]
theorem fin_small {w : List (List Int)} (g : Sp.Good w) : (Sp.fin w).1.length < 9223372036854775808 ∧ (Sp.fin w).2.length < 9223372036854775808 := by
  have h := Sp.st_len w w.length
  have := g.n6
  exact ⟨by show (Sp.st w w.length).1.length < _; omega,by show (Sp.st w w.length).2.length < _; omega⟩
theorem s15 (nn t : Bool) (w : List (List Int)) (hw : ∀ l ∈ w,l.length < 9223372036854775808) (hl : w.length < 9223372036854775808) : Abs.Spec Try.prog 15 [.sl nn t (mS w)] [] fun v H' => H' = [] ∧ v = tradeA w := by
  refine Abs.Spec.walk mixed fn15 nn15 t15 q15 nt15 (by simp) ?_
  simp only [w15,go_sem,Nat.reduceEqDiff,Nat.reduceAdd,Nat.reduceLT,Nat.reduceLeDiff,reduceIte,reduceCtorEq]
  refine CallK.by (CallV.of_spec (s55 nn t w hw hl)) fun v H' ⟨h1,h2⟩ => ?_
  subst h1 h2
  simp only [go_sem,Nat.reduceEqDiff,Nat.reduceAdd,Nat.reduceLT,Nat.reduceLeDiff,reduceIte,reduceCtorEq]
  refine ⟨fun h => ?_,fun h => ?_⟩
  · refine leaf2 _ ?_ ⟨rfl,rfl⟩
    have h' : Sp.valid w = false := by simpa using h
    rw [tradeA,h']
    exact ⟨⟨mI_bnd,rfl,rfl⟩,rfl,trivial⟩
  · have h' : Sp.valid w = true := by simpa using h
    have g := Sp.valid_good h'
    refine CallK.by (CallV.of_spec (s56 nn t w g)) fun v H' ⟨h1,h2⟩ => ?_
    subst h1 h2
    simp only [List.getD_cons_zero,List.getD_cons_succ,go_sem,Nat.reduceEqDiff,Nat.reduceAdd,Nat.reduceLT,Nat.reduceLeDiff,reduceIte,reduceCtorEq]
    refine leaf2 _ ?_ ⟨rfl,rfl⟩
    rw [tradeA,if_pos h']
    exact ⟨by simp [vle,Fr.get,mI_bnd],rfl,trivial⟩
theorem s17 (nn t : Bool) (w : List (List Int)) (hw : ∀ l ∈ w,l.length < 9223372036854775808) (hl : w.length < 9223372036854775808) : Abs.Spec Try.prog 17 [.sl nn t (mS w)] [] fun v H' => H' = [] ∧ v = roundsA w := by
  refine Abs.Spec.walk mixed fn17 nn17 t17 q17 nt17 (by simp) ?_
  simp only [w17,go_sem,Nat.reduceEqDiff,Nat.reduceAdd,Nat.reduceLT,Nat.reduceLeDiff,reduceIte,reduceCtorEq]
  refine CallK.by (CallV.of_spec (s55 nn t w hw hl)) fun v H' ⟨h1,h2⟩ => ?_
  subst h1 h2
  simp only [go_sem,Nat.reduceEqDiff,Nat.reduceAdd,Nat.reduceLT,Nat.reduceLeDiff,reduceIte,reduceCtorEq]
  refine ⟨fun h => ?_,fun h => ?_⟩
  · refine leaf2 _ ?_ ⟨rfl,rfl⟩
    have h' : Sp.valid w = false := by simpa using h
    rw [roundsA,h']
    exact ⟨⟨mI_bnd,rfl,rfl⟩,rfl,trivial⟩
  · have h' : Sp.valid w = true := by simpa using h
    have g := Sp.valid_good h'
    refine CallK.by (CallV.of_spec (s56 nn t w g)) fun v H' ⟨h1,h2⟩ => ?_
    subst h1 h2
    simp only [List.getD_cons_zero,List.getD_cons_succ,go_sem,Nat.reduceEqDiff,Nat.reduceAdd,Nat.reduceLT,Nat.reduceLeDiff,reduceIte,reduceCtorEq]
    refine leaf2 _ ?_ ⟨rfl,rfl⟩
    rw [roundsA,if_pos h']
    exact ⟨by simp [vle,Fr.get,mI_bnd],rfl,trivial⟩
theorem s21 (nn t : Bool) (w : List (List Int)) (g : Sp.Good w) : Abs.Spec Try.prog 21 [.sl nn t (mS w)] [] fun v H' => H' = [] ∧ v = .sl false false (mI (Sp.fin w).1) := by
  refine Abs.Spec.walk mixed fn21 nn21 t21 q21 nt21 (by simp) ?_
  simp only [w21,go_sem,Nat.reduceEqDiff,Nat.reduceAdd,Nat.reduceLT,Nat.reduceLeDiff,reduceIte,reduceCtorEq]
  refine CallK.by (CallV.of_spec (s57 nn t w g)) fun v H' ⟨h1,h2⟩ => ?_
  subst h1 h2
  simp only [List.getD_cons_zero,List.getD_cons_succ,go_sem,Nat.reduceEqDiff,Nat.reduceAdd,Nat.reduceLT,Nat.reduceLeDiff,reduceIte,reduceCtorEq]
  exact leaf (.sl false false (mI (Sp.fin w).1)) (by simp [vle,Fr.get,mI_bnd]) ⟨rfl,rfl⟩
theorem s22 (nn t : Bool) (w : List (List Int)) (g : Sp.Good w) : Abs.Spec Try.prog 22 [.sl nn t (mS w)] [] fun v H' => H' = [] ∧ v = .sl false false (mI (Sp.fin w).2) := by
  refine Abs.Spec.walk mixed fn22 nn22 t22 q22 nt22 (by simp) ?_
  simp only [w22,go_sem,Nat.reduceEqDiff,Nat.reduceAdd,Nat.reduceLT,Nat.reduceLeDiff,reduceIte,reduceCtorEq]
  refine CallK.by (CallV.of_spec (s57 nn t w g)) fun v H' ⟨h1,h2⟩ => ?_
  subst h1 h2
  simp only [List.getD_cons_zero,List.getD_cons_succ,go_sem,Nat.reduceEqDiff,Nat.reduceAdd,Nat.reduceLT,Nat.reduceLeDiff,reduceIte,reduceCtorEq]
  exact leaf (.sl false false (mI (Sp.fin w).2)) (by simp [vle,Fr.get,mI_bnd]) ⟨rfl,rfl⟩
def w2 : List (List Int) := [[1,0],[0,1]]
theorem w2_valid : Sp.valid w2 = true := by decide +kernel
theorem w2_fin : (Sp.fin w2).1 = [1,0] := by decide +kernel
theorem s19 : Abs.Spec Try.prog 19 [] [] fun v H' => H' = [] ∧ v = B true := by
  refine Abs.Spec.walk mixed fn19 nn19 t19 q19 nt19 (by simp) ?_
  simp only [w19,go_sem,Nat.reduceEqDiff,Nat.reduceAdd,Nat.reduceLT,Nat.reduceLeDiff,reduceIte,reduceCtorEq]
  have hA : tradeA w2 = .tup [.sl false false (mI [1,0]),I 0] := by rw [tradeA,if_pos w2_valid,w2_fin]
  have h1 := (s15 false false w2 (by decide) (by decide)).mono (R' := fun v' H' => v' = tradeA w2 ∧ H' = []) fun v H' h => ⟨h.2,h.1⟩
  rw [hA] at h1
  have h2 := Spec.give (args := [.own 0 0 2 2 1]) (H := [.cells (mS w2)]) (ρ := []) h1 rfl (Wk.nil ⟨vle_mS (cs := mS w2) rfl (by simp) rfl rfl,trivial⟩) (by simp [AVal.bnd,bndL,mI_bnd])
  have h3 := Spec.give (args := [.own 2 0 2 2 1]) (H := [.cells (mI [1,0]),.cells (mI [0,1]),.cells [.own 0 0 2 2 1,.own 1 0 2 2 1]]) (ρ := [some 2]) (R := fun H' => H' = [.dead]) h2 rfl
    (Wk.mk0 rfl (by simp [imgs,Blk.alive]) ⟨.inr ⟨vle_mI rfl (by simp [imgs,Blk.alive]) rfl rfl,vle_mI rfl (by simp [imgs,Blk.alive]) rfl rfl,trivial⟩,trivial⟩ ⟨by simp [vle,Fr.get,entryFr],trivial⟩) (by simp [AVal.bnd,bndL,mI_bnd])
  refine CallK.by (CallV.of_spec h3) fun v H' ⟨e1,e2⟩ => ?_
  subst e1 e2
  simp only [List.getD_cons_zero,List.getD_cons_succ,Blk.gone,go_sem,Nat.reduceEqDiff,Nat.reduceAdd,Nat.reduceLT,Nat.reduceLeDiff,reduceIte,reduceCtorEq]
  refine CallK.pure (CallV.of_spec (Spec.lend (args' := [.sl false false (mI [1,0]),.sl false false (mI [1,0])]) (s20 false false false false [1,0] [1,0] (by decide)) rfl ⟨⟨mI_bnd,fun h => (by cases h),fun h => (by cases h),rfl⟩,vle_mI (cs := mI [1,0]) rfl (by simp) rfl rfl,trivial⟩)) ?_
  simp only [go_sem,Nat.reduceEqDiff,Nat.reduceAdd,Nat.reduceLT,Nat.reduceLeDiff,reduceIte,reduceCtorEq]
  exact leaf (B true) rfl ⟨rfl,rfl⟩
set_option maxHeartbeats 2000000 in
/-- The statement's function. -/
theorem s3 (nn t : Bool) (w : List (List Int)) (hw : ∀ l ∈ w,l.length < 9223372036854775808) (hl : w.length < 9223372036854775808) : Abs.Spec Try.prog 3 [.sl nn t (mS w)] [] fun v H' => H' = [] ∧ v = B true := by
  have hw' : ∀ l ∈ Sp.table w,l.length < 9223372036854775808 := fun l hm => by
    unfold Sp.table at hm
    obtain ⟨a,_,rfl⟩ := List.mem_map.1 hm
    simp; omega
  have hl' : (Sp.table w).length < 9223372036854775808 := by simp [Sp.table]; omega
  refine Abs.Spec.walk mixed fn3 nn3 t3 q3 nt3 (by simp) ?_
  simp only [w3,go_sem,Nat.reduceEqDiff,Nat.reduceAdd,Nat.reduceLT,Nat.reduceLeDiff,reduceIte,reduceCtorEq]
  refine CallK.by (CallV.of_spec (s16 nn t w hw hl)) fun v H' ⟨h1,h2⟩ => ?_
  subst h1 h2
  simp only [go_sem,Nat.reduceEqDiff,Nat.reduceAdd,Nat.reduceLT,Nat.reduceLeDiff,reduceIte,reduceCtorEq]
  refine CallK.by (CallV.of_spec (s15 false false _ hw' hl')) fun v H' ⟨h1,h2⟩ => ?_
  subst h1 h2
  by_cases hv : Sp.valid w = true
  · have hvt : Sp.valid (Sp.table w) = true := by rw [Sp.table_valid]; exact hv
    have et := Sp.take_valid w hv
    have g := Sp.valid_good hv
    have hfs := fin_small g
    have eA : tradeA (Sp.table w) = .tup [.sl false false (mI (Sp.fin w).1),I 0] := by rw [tradeA,if_pos hvt,et]
    have eR : roundsA (Sp.table w) = .tup [.sl false false (mI (Sp.fin w).2),I 0] := by rw [roundsA,if_pos hvt,et]
    rw [eA]
    simp only [List.getD_cons_zero,List.getD_cons_succ,go_sem,Nat.reduceEqDiff,Nat.reduceAdd,Nat.reduceLT,Nat.reduceLeDiff,reduceIte,reduceCtorEq]
    refine CallK.by (CallV.of_spec (s16 nn t w hw hl)) fun v H' ⟨h1,h2⟩ => ?_
    subst h1 h2
    simp only [go_sem,Nat.reduceEqDiff,Nat.reduceAdd,Nat.reduceLT,Nat.reduceLeDiff,reduceIte,reduceCtorEq]
    refine CallK.by (CallV.of_spec (s17 false false _ hw' hl')) fun v H' ⟨h1,h2⟩ => ?_
    subst h1 h2
    rw [eR]
    simp only [List.getD_cons_zero,List.getD_cons_succ,go_sem,Nat.reduceEqDiff,Nat.reduceAdd,Nat.reduceLT,Nat.reduceLeDiff,reduceIte,reduceCtorEq]
    refine CallK.by (CallV.of_spec (s18 nn t w hw hl)) fun v H' ⟨h1,h2⟩ => ?_
    subst h1 h2
    rw [Sp.wishes_valid,hv]
    simp only [go_sem,Nat.reduceEqDiff,Nat.reduceAdd,Nat.reduceLT,Nat.reduceLeDiff,reduceIte,reduceCtorEq]
    refine CallK.by (CallV.of_spec (s21 nn t w g)) fun v H' ⟨h1,h2⟩ => ?_
    subst h1 h2
    simp only [go_sem,Nat.reduceEqDiff,Nat.reduceAdd,Nat.reduceLT,Nat.reduceLeDiff,reduceIte,reduceCtorEq]
    refine CallK.by (CallV.of_spec (s20 false false false false _ _ hfs.1)) fun v H' ⟨h1,h2⟩ => ?_
    subst h1 h2
    rw [beq_self_eq_true]
    simp only [go_sem,Nat.reduceEqDiff,Nat.reduceAdd,Nat.reduceLT,Nat.reduceLeDiff,reduceIte,reduceCtorEq]
    refine CallK.by (CallV.of_spec (s22 nn t w g)) fun v H' ⟨h1,h2⟩ => ?_
    subst h1 h2
    simp only [go_sem,Nat.reduceEqDiff,Nat.reduceAdd,Nat.reduceLT,Nat.reduceLeDiff,reduceIte,reduceCtorEq]
    refine CallK.by (CallV.of_spec (s20 false false false false _ _ hfs.2)) fun v H' ⟨h1,h2⟩ => ?_
    subst h1 h2
    rw [beq_self_eq_true]
    simp only [go_sem,Nat.reduceEqDiff,Nat.reduceAdd,Nat.reduceLT,Nat.reduceLeDiff,reduceIte,reduceCtorEq]
    refine CallK.by (CallV.of_spec s19) fun v H' ⟨h1,h2⟩ => ?_
    subst h1 h2
    simp only [go_sem,Nat.reduceEqDiff,Nat.reduceAdd,Nat.reduceLT,Nat.reduceLeDiff,reduceIte,reduceCtorEq]
    exact leaf (B true) rfl ⟨rfl,rfl⟩
  · have hv : Sp.valid w = false := by simpa using hv
    have hvt : Sp.valid (Sp.table w) = false := by rw [Sp.table_valid]; exact hv
    have eA : tradeA (Sp.table w) = .tup [.sl false false (mI []),I 2] := by rw [tradeA,hvt]; rfl
    have eR : roundsA (Sp.table w) = .tup [.sl false false (mI []),I 2] := by rw [roundsA,hvt]; rfl
    rw [eA]
    simp only [List.getD_cons_zero,List.getD_cons_succ,go_sem,Nat.reduceEqDiff,Nat.reduceAdd,Nat.reduceLT,Nat.reduceLeDiff,reduceIte,reduceCtorEq]
    refine CallK.by (CallV.of_spec (s16 nn t w hw hl)) fun v H' ⟨h1,h2⟩ => ?_
    subst h1 h2
    simp only [go_sem,Nat.reduceEqDiff,Nat.reduceAdd,Nat.reduceLT,Nat.reduceLeDiff,reduceIte,reduceCtorEq]
    refine CallK.by (CallV.of_spec (s17 false false _ hw' hl')) fun v H' ⟨h1,h2⟩ => ?_
    subst h1 h2
    rw [eR]
    simp only [List.getD_cons_zero,List.getD_cons_succ,go_sem,Nat.reduceEqDiff,Nat.reduceAdd,Nat.reduceLT,Nat.reduceLeDiff,reduceIte,reduceCtorEq]
    refine CallK.by (CallV.of_spec (s18 nn t w hw hl)) fun v H' ⟨h1,h2⟩ => ?_
    subst h1 h2
    rw [Sp.wishes_valid,hv]
    simp only [go_sem,Nat.reduceEqDiff,Nat.reduceAdd,Nat.reduceLT,Nat.reduceLeDiff,reduceIte,reduceCtorEq]
    have e0 : (IntKind.i64.wrap (((0 : Nat) : Int) + ((0 : Nat) : Int)) == 0) = true := by decide
    refine ⟨fun _ => ?_,fun h => by rw [e0] at h; cases h⟩
    refine CallK.by (CallV.of_spec s19) fun v H' ⟨h1,h2⟩ => ?_
    subst h1 h2
    simp only [go_sem,Nat.reduceEqDiff,Nat.reduceAdd,Nat.reduceLT,Nat.reduceLeDiff,reduceIte,reduceCtorEq]
    exact leaf (B true) rfl ⟨rfl,rfl⟩
open Go.Abs AVal
end Go.Proofs.Ytkmmngphcodjjaa
