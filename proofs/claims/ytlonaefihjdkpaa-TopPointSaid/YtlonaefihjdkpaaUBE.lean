/- Contract: the program's trading; Contract: the reference's trading; Contracts: Trade,Rounds,and the statement's function. -/
import Derived.Test.YtlonaefihjdkpaaUBA
import Derived.Test.YtlonaefihjdkpaaPX
import Derived.Test.YtlonaefihjdkpaaProg
import Derived.Test.YtlonaefihjdkpaaAS
import Derived.Test.YtlonaefihjdkpaaUCA
import Derived.KernelRfl
namespace Go.Proofs.Ytlonaefihjdkpaa
open Go.Abs AVal
set_option linter.unusedSimpArgs false
attribute [local go_sem] W_skip W_keep KQ_canon canon Fr.norm W_seq W_block W_scope W_cond W_exit W_ret W_ops W_draw KQ_nil KQ_norm_seq KQ_exit_seq KQ_ret_seq KQ_norm_block KQ_ret_block KQ_exit_block KQ_exit_loop KQ_ret_loop O_nil O_cons O_guard' S_call S_mv SE_mv SD_mv S_pick SE_pick SD_pick S_bin SE_bin SD_bin S_eqb SE_eqb SD_eqb S_eqv SE_eqv SD_eqv S_eqnil SE_eqnil SD_eqnil S_un SE_un SD_un S_conv SE_conv SD_conv S_mkfn SE_mkfn SD_mkfn S_load SE_load SD_load S_nilck SE_nilck SD_nilck S_slS SE_slS SD_slS S_slP SE_slP SD_slP S_fldA SE_fldA SD_fldA S_fld SE_fld SD_fld S_ixS SE_ixS SD_ixS S_ixP SE_ixP SD_ixP S_ixV SE_ixV SD_ixV S_ixStr SE_ixStr SD_ixStr S_ext SE_ext SD_ext S_len SE_len SD_len S_lenStr SE_lenStr SD_lenStr S_lenc SE_lenc SD_lenc S_mn SE_mn SD_mn S_mx SE_mx SD_mx S_build SE_build SD_build S_alloc SD_alloc S_box SD_box S_bslice SD_bslice S_mksl SD_mksl S_store SD_store S_append SD_append S_copy SD_copy S_clr SD_clr S_mlen SE_mlen SD_mlen S_mget SE_mget SD_mget S_mval SE_mval SD_mval S_mentry SE_mentry SD_mentry S_mkmap SD_mkmap S_mset SD_mset S_mrange SD_mrange S_mnext mlenA mgetA mvalA mentryA msetA mrangeA cells_mp isCell_mp cellsOk_mp aq_some aa_some al_some alA_some aqd_some aad_some ald_some ape_some D_done D_both D_early D_earlyG' D_step D_stepG' SE_call SD_call G_bool GE_bool GS_bool icond_bool IOpd.ev Fr.get Fr.put Fr.putd entryFr pickA binA binI isSh shI eqbA eqvA ints ints_mI Option.map_some eqnilA unA convA loadA nilckA intA slSA slPA fldAA fldVA ixSA ixPA ixVA ixStrA extA lenA lenStrA mnA mxA AVal.fits fillA fillOk buildA opa srcA appA stoA copA clrA rdFree zeros List.length_nil List.length_cons List.length_map List.map_cons List.map_nil Option.map_some Option.map_none if_true if_false ite_true ite_false true_and and_true and_self implies_true forall_const true_implies Bool.false_eq_true Bool.not_true Bool.not_false decide_eq_true_eq decide_eq_false_iff_not eq_self List.getElem?_cons_zero List.getElem?_cons_succ List.getElem?_nil List.set_cons_zero List.set_cons_succ List.nil_append List.cons_append List.append_nil List.replicate_zero List.replicate_succ Nat.zero_add false_implies rng_lt rng_end rng_get cells_I cells_B cells_sl cut_one Int.toNat_natCast Int.natCast_nonneg List.headD_cons Int.lt_irrefl not_false_eq_true decide_false decide_true mI_length mI_cells mI_sz mI_isCell mI_mid mI_append mI_take mI_drop cells_val cells_own cells_agg isCell_I isCell_B isCell_nil isCell_sl isCell_own isCell_ptr isCell_fn isCell_rp isCell_yld cellsOk_I cellsOk_B cellsOk_nil cellsOk_sl cellsOk_own cellsOk_ptr cellsOk_fn cellsOk_rp cellsOk_yld cellsOk_agg cells_nil cells_ptr cells_fn cells_rp List.all_cons List.all_nil Bool.and_true Nat.mul_one Nat.zero_mul Nat.one_mul List.take_zero List.take_nil List.drop_nil List.drop_zero List.not_mem_nil Nat.le_refl Nat.zero_le mS_length mS_cells mS_sz mS_isCell mS_mid mS_append mS_take mS_drop cells_sI isCell_sI cellsOk_sI sI_eq succ_le_self' List.take_succ_cons List.drop_succ_cons List.take_length beq_self_eq_true List.mem_cons or_false forall_eq mI_put mI_rep
set_option maxHeartbeats 2000000 in
theorem s19 (nn t : Bool) (w : List (List Int)) (g : Sp.Good w) : Abs.Spec Try.prog 19 [.sl nn t (mS w)] [] fun v H' => H' = [] ∧ v = .tup [.sl false false (mI (Sp.fin w).1),.sl false false (mI (Sp.fin w).2)] := by
  refine Abs.Spec.walk mixed fn19 nn19 t19 q19 nt19 (by simp) ?_
  have g1 := g.n1
  have g6 := g.n6
  simp only [w19,go_sem,Nat.reduceEqDiff,Nat.reduceAdd,Nat.reduceLT,Nat.reduceLeDiff,reduceIte,reduceCtorEq]
  refine ⟨⟨Int.le_refl _,by omega,by omega⟩,⟨Int.le_refl _,by omega,by omega⟩,?_⟩
  refine W_loop (fun p : { p : Nat × Int // Sp.isLeft w (Sp.st w p.1).2 p.2 } => ([(0,sl nn t (mS w)),(2,own 0 0 w.length w.length 1),(3,own 1 0 w.length w.length 1),(4,I w.length),(5,I p.1.2),(6,I (p.1.1 + 1))],[.cells (mI (Sp.st w p.1.1).1),.cells (mI (Sp.st w p.1.1).2)])) (fun p => Sp.left w (Sp.st w p.1.1).2)
    ⟨(0,IntKind.i64.wrap (Sp.shl1 w.length - 1)),?_⟩ [some 0,some 1] (Wk.mk0 rfl (by simp [imgs,Blk.alive]) (by simp [hle,csle,Sp.st,mI_bnd,mI_rep]) (by simp [fle,vle,Fr.get,mS_bnd,Sp.shl1,IntKind.bits])) ?_
  · have h := Sp.full_dec w.length (by omega)
    refine ⟨h.1,fun j hj => ?_⟩
    rw [h.2 j hj]
    by_cases hjn : j < w.length
    · simp [hjn,Sp.st,Sp.alive]
    · simp [hjn]
  rintro ⟨⟨k,lf⟩,hk⟩
  dsimp only at hk
  have hlen := Sp.st_len w k
  simp only [w19L0,w19T7,go_sem,Nat.reduceEqDiff,Nat.reduceAdd,Nat.reduceLT,Nat.reduceLeDiff,reduceIte,reduceCtorEq]
  refine ⟨fun h0 => ?_,fun h0 => ?_⟩
  rotate_left
  · have h0 : lf = 0 := by simpa using h0
    have hf := Sp.fin_of g ((Sp.isLeft_zero g hk).1 h0)
    refine leaf2 (.tup [.sl false false (mI (Sp.st w k).1),.sl false false (mI (Sp.st w k).2)]) ?_ ⟨rfl,by rw [hf]⟩
    exact ⟨vle_mI rfl (by simp) hlen.1.symm (by rw [← hlen.1]; exact take_mI),vle_mI rfl (by simp) hlen.2.symm (by rw [← hlen.2]; exact take_mI),trivial⟩
  have h0 : lf ≠ 0 := by simpa using h0
  have hsome : Sp.Some1 w (Sp.st w k).2 := Classical.byContradiction fun hn => h0 ((Sp.isLeft_zero g hk).2 hn)
  have hkn : k < w.length := by
    have h1 := Sp.left_le g k
    have h2 : Sp.left w (Sp.st w k).2 ≠ 0 := fun e => Sp.left_zero.1 e hsome
    omega
  obtain ⟨R,hR⟩ : ∃ R,R = (Sp.st w k).2 := ⟨_,rfl⟩
  obtain ⟨D,hD⟩ : ∃ D,D = (Sp.st w k).1 := ⟨_,rfl⟩
  have hXR := (Sp.st_len w (k + 1)).2
  have hXD := (Sp.st_len w (k + 1)).1
  have eXR : (Sp.st w (k + 1)).2 = Sp.stepR w R (k + 1) := by rw [hR]; rfl
  have eXD : (Sp.st w (k + 1)).1 = Sp.stepD w R D := by rw [hR,hD]; rfl
  rw [← hR,← hD] at hlen
  rw [eXR] at hXR
  rw [eXD] at hXD
  rw [← hR] at hk hsome
  simp only [← hR,← hD]
  refine W_loop (fun p : { p : Nat × Int // p.1 ≤ w.length ∧ Sp.isSet p.2 ∧ ∀ j : Nat,j < 6 → Sp.has p.2 j = (decide (j < p.1) && Sp.leaves w R j) } =>
    ([(0,sl nn t (mS w)),(2,own 0 0 w.length w.length 1),(3,own 1 0 w.length w.length 1),(4,I w.length),(5,I lf),(6,I (k + 1)),(7,I p.1.2),(23,I w.length),(24,I p.1.1)],
     [.cells (mI (Sp.part (Sp.stepD w R D) D p.1.1)),.cells (mI (Sp.part (Sp.stepR w R (k + 1)) R p.1.1))])) (fun p => w.length - p.1.1)
    ⟨(0,0),Nat.zero_le _,Sp.set0,fun j hj => by simp [Sp.has0 j hj]⟩ [some 0,some 1] (Wk.mk0 rfl (by simp [imgs,Blk.alive]) (by simp [hle,csle,Sp.part_zero,mI_bnd]) (by simp [fle,vle,Fr.get,mS_bnd])) ?_
  rintro ⟨⟨i,lv⟩,hin,hlv,hbits⟩
  dsimp only at hin hlv hbits
  by_cases hi : i < w.length
  · have hi' : (i : Int) < w.length := by omega
    have hbest : ∀ j : Nat,j < w.length → ∀ H,CallV Try.prog (.fn (.func 45) [] []) [.sl nn t (mS w),I j,I lf] H fun v H' => v = I (Sp.best w R j) ∧ H' = H := fun j hj H => by
      rw [← Sp.best_left g hk hj]
      exact CallV.of_spec (Spec.lift (s45 nn t w j lf hj (fun c hc => (g.rng _ (Sp.getD_mem hj) c hc).1) (by have := g.len _ (Sp.getD_mem (d := []) hj); omega) (Sp.some_bit g hk hsome hj)) (by simp [bndL,AVal.bnd,mS_bnd]) rfl H)
    have hbs := fun {j : Nat} (hj : j < w.length) => Sp.best_spec g hsome hj
    have hbit := Sp.bit_zero hk.1 (show i < 6 by omega)
    have hhas := hk.2 i (by omega)
    rw [decide_eq_true hi,Bool.true_and] at hhas
    have hXDi : (Sp.stepD w R D).getD i 0 = if Sp.leaves w R i then Sp.best w R i else D.getD i 0 := by simp [Sp.stepD,List.getD_eq_getElem?_getD,hi]
    have hXRi : (Sp.stepR w R (k + 1)).getD i 0 = if Sp.leaves w R i then (k + 1 : Int) else R.getD i 0 := by simp [Sp.stepR,List.getD_eq_getElem?_getD,hi]
    have hplD := Sp.part_len hXD hlen.1 hin
    have hplR := Sp.part_len hXR hlen.2 hin
    have hwi : IntKind.i64.wrap ((i : Int) + 1) = i + 1 := wrap64 (by omega) (by omega)
    simp only [w19L1,hi',go_sem,Nat.reduceEqDiff,Nat.reduceAdd,Nat.reduceLT,Nat.reduceLeDiff,reduceIte,reduceCtorEq]
    refine ⟨fun h => ?_,fun h => ?_⟩
    · have hl : Sp.leaves w R i = false := by
        have : Sp.has lf i = false := by
          have : (Sp.bitAt lf i == 0) = true := h
          rw [hbit] at this; simpa using this
        unfold Sp.leaves; rw [← hhas,this]; rfl
      rw [hl] at hXDi hXRi
      simp only [w19T4,go_sem,Nat.reduceEqDiff,Nat.reduceAdd,Nat.reduceLT,Nat.reduceLeDiff,reduceIte,reduceCtorEq]
      refine round1 rfl ⟨(i + 1,lv),by omega,hlv,fun j hj => ?_⟩ [some 0,some 1] (by dsimp only; omega) (Wk.mk0 rfl (by simp [imgs,Blk.alive]) (by simp [hle,csle,Sp.part_skip hXD hlen.1 hi (by simpa using hXDi),Sp.part_skip hXR hlen.2 hi (by simpa using hXRi),mI_bnd]) (by simp [fle,vle,Fr.get,mS_bnd,hwi]))
      rw [hbits j hj]
      by_cases hji : j = i
      · subst hji; simp [hl]
      · congr 1; simp; omega
    · have ha : Sp.alive R i = true := by
        have : (Sp.bitAt lf i == 0) = false := h
        rw [hbit] at this
        rw [← hhas]; simpa using this
      refine CallK.pure (hbest i hi _) ?_
      simp only [go_sem,Nat.reduceEqDiff,Nat.reduceAdd,Nat.reduceLT,Nat.reduceLeDiff,reduceIte,reduceCtorEq]
      refine W_loop (fun p : { p : Nat × Int // p.1 ≤ w.length ∧ (0 ≤ p.2 ∧ p.2 < w.length) ∧ Sp.chase (Sp.best w R) i (w.length - p.1) p.2 = Sp.chase (Sp.best w R) i w.length (Sp.best w R i) } =>
        ([(0,sl nn t (mS w)),(2,own 0 0 w.length w.length 1),(3,own 1 0 w.length w.length 1),(4,I w.length),(5,I lf),(6,I (k + 1)),(7,I lv),(8,I i),(9,I p.1.2),(23,I w.length),(24,I i),(36,I w.length),(37,I p.1.1)],
         [.cells (mI (Sp.part (Sp.stepD w R D) D i)),.cells (mI (Sp.part (Sp.stepR w R (k + 1)) R i))])) (fun p => w.length - p.1.1)
        ⟨(0,Sp.best w R i),Nat.zero_le _,⟨(hbs hi).1,(hbs hi).2.1⟩,rfl⟩ [some 0,some 1] (Wk.mk0 rfl (by simp [imgs,Blk.alive]) (by simp [hle,csle,mI_bnd]) (by simp [fle,vle,Fr.get,mS_bnd])) ?_
      rintro ⟨⟨m,at'⟩,hm,hat,hch⟩
      dsimp only at hm hat hch
      by_cases hmn : m < w.length
      · have hmn' : (m : Int) < w.length := by omega
        simp only [w19L2,hmn',go_sem,Nat.reduceEqDiff,Nat.reduceAdd,Nat.reduceLT,Nat.reduceLeDiff,reduceIte,reduceCtorEq]
        refine ⟨fun h1 => ?_,fun h1 => ?_⟩
        · simp only [w19T3,h1,go_sem,Nat.reduceEqDiff,Nat.reduceAdd,Nat.reduceLT,Nat.reduceLeDiff,reduceIte,reduceCtorEq]
          have hl : Sp.leaves w R i = true := by
            unfold Sp.leaves
            rw [ha,Bool.true_and,beq_iff_eq,← hch]
            (have : at' = i := by simpa using h1); subst this; exact Sp.chase_self _ _ _
          rw [hl,if_pos rfl] at hXDi hXRi
          refine CallK.pure (hbest i hi _) ?_
          simp only [w19T4,hi',hplD,hplR,go_sem,Nat.reduceEqDiff,Nat.reduceAdd,Nat.reduceLT,Nat.reduceLeDiff,reduceIte,reduceCtorEq]
          refine ⟨by omega,by omega,?_⟩
          refine round1 rfl ⟨(i + 1,Sp.orI lv (Sp.shl1 i)),by omega,Sp.or_set hlv (by omega),fun j hj => ?_⟩ [some 0,some 1] (by dsimp only; omega) (Wk.mk0 rfl (by simp [imgs,Blk.alive]) (by simp only [hle,csle,List.getElem?_cons_zero,List.getElem?_cons_succ,Option.join_some,Sp.part_set hXD hlen.1 hi hXDi,Sp.part_set hXR hlen.2 hi hXRi,mI_bnd,and_true,true_or]) (by simp [fle,vle,Fr.get,mS_bnd,hwi,Sp.orI,Sp.shl1,IntKind.bits]))
          rw [Sp.has_or hlv (by omega) hj,hbits j hj]
          by_cases hji : j = i
          · subst hji; simp [hl]
          · simp only [hji,decide_false,Bool.or_false]; congr 1; simp; omega
        · obtain ⟨a,rfl⟩ : ∃ a : Nat,at' = a := ⟨at'.toNat,by omega⟩
          have ha1 : ¬ ((a : Int) = i) := by simpa using h1
          have ha2 : a < w.length := by omega
          have hwm : IntKind.i64.wrap ((m : Int) + 1) = m + 1 := wrap64 (by omega) (by omega)
          refine CallK.pure (hbest a ha2 _) ?_
          simp only [go_sem,Nat.reduceEqDiff,Nat.reduceAdd,Nat.reduceLT,Nat.reduceLeDiff,reduceIte,reduceCtorEq]
          refine round1 rfl ⟨(m + 1,Sp.best w R a),by omega,⟨(hbs ha2).1,(hbs ha2).2.1⟩,?_⟩ [some 0,some 1] (by dsimp only; omega) (Wk.mk0 rfl (by simp [imgs,Blk.alive]) (by simp [hle,csle,mI_bnd]) (by simp [fle,vle,Fr.get,mS_bnd,hwm]))
          rw [← hch,show w.length - m = (w.length - (m + 1)) + 1 by omega]
          simp only [Sp.chase,if_neg ha1,Int.toNat_natCast]
      · have hmn' : ¬ (m : Int) < w.length := by omega
        simp only [w19L2,hmn',w19T3,go_sem,Nat.reduceEqDiff,Nat.reduceAdd,Nat.reduceLT,Nat.reduceLeDiff,reduceIte,reduceCtorEq]
        rw [show w.length - m = 0 by omega] at hch
        simp only [Sp.chase] at hch
        refine ⟨fun h1 => ?_,fun h1 => ?_⟩
        · have hl : Sp.leaves w R i = true := by
            unfold Sp.leaves
            rw [ha,Bool.true_and,beq_iff_eq,← hch]
            simpa using h1
          rw [hl,if_pos rfl] at hXDi hXRi
          refine CallK.pure (hbest i hi _) ?_
          simp only [w19T4,hi',hplD,hplR,go_sem,Nat.reduceEqDiff,Nat.reduceAdd,Nat.reduceLT,Nat.reduceLeDiff,reduceIte,reduceCtorEq]
          refine ⟨by omega,by omega,?_⟩
          refine round1 rfl ⟨(i + 1,Sp.orI lv (Sp.shl1 i)),by omega,Sp.or_set hlv (by omega),fun j hj => ?_⟩ [some 0,some 1] (by dsimp only; omega) (Wk.mk0 rfl (by simp [imgs,Blk.alive]) (by simp only [hle,csle,List.getElem?_cons_zero,List.getElem?_cons_succ,Option.join_some,Sp.part_set hXD hlen.1 hi hXDi,Sp.part_set hXR hlen.2 hi hXRi,mI_bnd,and_true,true_or]) (by simp [fle,vle,Fr.get,mS_bnd,hwi,Sp.orI,Sp.shl1,IntKind.bits]))
          rw [Sp.has_or hlv (by omega) hj,hbits j hj]
          by_cases hji : j = i
          · subst hji; simp [hl]
          · simp only [hji,decide_false,Bool.or_false]; congr 1; simp; omega
        · have hl : Sp.leaves w R i = false := by
            unfold Sp.leaves
            rw [← hch,ha,Bool.true_and]; exact h1
          rw [hl] at hXDi hXRi
          simp only [w19T4,go_sem,Nat.reduceEqDiff,Nat.reduceAdd,Nat.reduceLT,Nat.reduceLeDiff,reduceIte,reduceCtorEq]
          refine round1 rfl ⟨(i + 1,lv),by omega,hlv,fun j hj => ?_⟩ [some 0,some 1] (by dsimp only; omega) (Wk.mk0 rfl (by simp [imgs,Blk.alive]) (by simp [hle,csle,Sp.part_skip hXD hlen.1 hi (by simpa using hXDi),Sp.part_skip hXR hlen.2 hi (by simpa using hXRi),mI_bnd]) (by simp [fle,vle,Fr.get,mS_bnd,hwi]))
          rw [hbits j hj]
          by_cases hji : j = i
          · subst hji; simp [hl]
          · congr 1; simp; omega
  · have hi' : ¬ (i : Int) < w.length := by omega
    obtain rfl : i = w.length := by omega
    have hw2 : IntKind.i64.wrap ((k : Int) + 1 + 1) = k + 1 + 1 := wrap64 (by omega) (by omega)
    simp only [w19L1,hi',w19T5,w19T6,go_sem,Nat.reduceEqDiff,Nat.reduceAdd,Nat.reduceLT,Nat.reduceLeDiff,reduceIte,reduceCtorEq]
    refine round1 rfl ⟨(k + 1,Sp.butI lf lv),by rw [eXR]; exact Sp.left_step g (by omega) hk hlv hbits⟩ [some 0,some 1] (by dsimp only; rw [eXR,← hR]; exact Sp.left_lt g (by omega) hsome)
      (Wk.mk0 rfl (by simp [imgs,Blk.alive]) (by simp [hle,csle,mI_bnd,eXD,eXR,Sp.part_all hXD hlen.1,Sp.part_all hXR hlen.2]) (by simp [fle,vle,Fr.get,mS_bnd,hw2,Sp.butI]))
open Go.Abs AVal
open Go.Abs AVal
def roundsA (w : List (List Int)) : AVal := if Sp.valid w then .tup [.sl false false (mI (Sp.fin w).2),I 0] else .tup [.sl false false (mI []),I 2]
theorem s7 (nn t : Bool) (w : List (List Int)) (hw : ∀ l ∈ w,l.length < 9223372036854775808) (hl : w.length < 9223372036854775808) : Abs.Spec Try.prog 7 [.sl nn t (mS w)] [] fun v H' => H' = [] ∧ v = roundsA w := by
  refine Abs.Spec.walk mixed fn7 nn7 t7 q7 nt7 (by simp) ?_
  simp only [w7,go_sem,Nat.reduceEqDiff,Nat.reduceAdd,Nat.reduceLT,Nat.reduceLeDiff,reduceIte,reduceCtorEq]
  refine CallK.by (CallV.of_spec (s18 nn t w hw hl)) fun v H' ⟨h1,h2⟩ => ?_
  subst h1 h2
  simp only [go_sem,Nat.reduceEqDiff,Nat.reduceAdd,Nat.reduceLT,Nat.reduceLeDiff,reduceIte,reduceCtorEq]
  refine ⟨fun h => ?_,fun h => ?_⟩
  · refine leaf2 _ ?_ ⟨rfl,rfl⟩
    have h' : Sp.valid w = false := by simpa using h
    rw [roundsA,h']
    exact ⟨⟨mI_bnd,rfl,rfl⟩,rfl,trivial⟩
  · have h' : Sp.valid w = true := by simpa using h
    have g := Sp.valid_good h'
    refine CallK.by (CallV.of_spec (s19 nn t w g)) fun v H' ⟨h1,h2⟩ => ?_
    subst h1 h2
    simp only [List.getD_cons_zero,List.getD_cons_succ,go_sem,Nat.reduceEqDiff,Nat.reduceAdd,Nat.reduceLT,Nat.reduceLeDiff,reduceIte,reduceCtorEq]
    refine leaf2 _ ?_ ⟨rfl,rfl⟩
    rw [roundsA,if_pos h']
    exact ⟨by simp [vle,Fr.get,mI_bnd],rfl,trivial⟩
def w2 : List (List Int) := [[1,0],[0,1]]
end Go.Proofs.Ytlonaefihjdkpaa
