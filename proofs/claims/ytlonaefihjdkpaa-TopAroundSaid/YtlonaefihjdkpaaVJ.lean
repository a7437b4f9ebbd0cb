/- The statement TopAround: from every collector on a circle there is a way without end. -/
import Derived.Test.YtlonaefihjdkpaaVI
import Derived.Test.YtlonaefihjdkpaaVH
namespace Go.Proofs.Ytlonaefihjdkpaa
open Go.Abs AVal
set_option linter.unusedSimpArgs false
attribute [local go_sem] W_skip W_keep KQ_canon canon Fr.norm W_seq W_block W_scope W_exit W_ret W_ops W_draw KQ_nil KQ_norm_seq KQ_exit_seq KQ_ret_seq KQ_norm_block KQ_ret_block KQ_exit_block KQ_exit_loop KQ_ret_loop O_nil O_cons S_call S_mv SE_mv SD_mv S_pick SE_pick SD_pick S_bin SE_bin SD_bin S_eqb SE_eqb SD_eqb S_eqv SE_eqv SD_eqv S_eqnil SE_eqnil SD_eqnil S_eqs SE_eqs SD_eqs S_eqp SE_eqp SD_eqp S_slT SE_slT SD_slT S_un SE_un SD_un S_conv SE_conv SD_conv S_mkfn SE_mkfn SD_mkfn S_load SE_load SD_load S_nilck SE_nilck SD_nilck S_slS SE_slS SD_slS S_slP SE_slP SD_slP S_fldA SE_fldA SD_fldA S_fld SE_fld SD_fld S_ixS SE_ixS SD_ixS S_ixP SE_ixP SD_ixP S_ixV SE_ixV SD_ixV S_ixStr SE_ixStr SD_ixStr S_ext SE_ext SD_ext S_len SE_len SD_len S_lenStr SE_lenStr SD_lenStr S_lenc SE_lenc SD_lenc S_mn SE_mn SD_mn S_mx SE_mx SD_mx S_build SE_build SD_build S_alloc SD_alloc S_box SD_box S_bslice SD_bslice S_mksl SD_mksl S_store SD_store S_append SD_append S_copy SD_copy S_clr SD_clr S_mlen SE_mlen SD_mlen S_mget SE_mget SD_mget S_mval SE_mval SD_mval S_mentry SE_mentry SD_mentry S_mkmap SD_mkmap S_mset SD_mset S_mrange SD_mrange S_mnext mlenA mgetA mvalA mentryA msetA mrangeA cells_mp isCell_mp cellsOk_mp aq_some aa_some al_some alA_some aqd_some aad_some ald_some ape_some D_done D_both D_early D_step SE_call SD_call IOpd.ev Fr.get Fr.put Fr.putd entryFr pickA binA binI isSh shI eqbA eqvA ints ints_mI Option.map_some eqnilA eqsA eqpA slTA unA convA loadA nilckA intA slSA slPA fldAA fldVA ixSA ixPA ixVA ixStrA extA lenA lenStrA mnA mxA AVal.fits fillA fillOk buildA opa srcA appA stoA copA clrA rdFree zeros List.length_nil List.length_cons List.length_map List.map_cons List.map_nil Option.map_some Option.map_none if_true if_false ite_true ite_false true_and and_true and_self implies_true forall_const true_implies Bool.false_eq_true Bool.not_true Bool.not_false decide_eq_true_eq decide_eq_false_iff_not eq_self List.getElem?_cons_zero List.getElem?_cons_succ List.getElem?_nil List.set_cons_zero List.set_cons_succ List.nil_append List.cons_append List.append_nil List.replicate_zero List.replicate_succ Nat.zero_add false_implies rng_lt rng_end rng_get cells_I cells_B cells_sl cut_one Int.toNat_natCast Int.natCast_nonneg List.headD_cons Int.lt_irrefl not_false_eq_true decide_false decide_true mI_length mI_cells mI_sz mI_isCell mI_mid mI_append mI_take mI_drop cells_val cells_own cells_agg isCell_I isCell_B isCell_nil isCell_sl isCell_own isCell_ptr isCell_fn isCell_rp isCell_yld cellsOk_I cellsOk_B cellsOk_nil cellsOk_sl cellsOk_own cellsOk_ptr cellsOk_fn cellsOk_rp cellsOk_yld cellsOk_agg cells_nil cells_ptr cells_fn cells_rp List.all_cons List.all_nil Bool.and_true Nat.mul_one Nat.zero_mul Nat.one_mul List.take_zero List.take_nil List.drop_nil List.drop_zero List.not_mem_nil Nat.le_refl Nat.zero_le mS_length mS_cells mS_sz mS_isCell mS_mid mS_append mS_take mS_drop cells_sI isCell_sI cellsOk_sI sI_eq succ_le_self' List.take_succ_cons List.drop_succ_cons List.take_length beq_self_eq_true List.mem_cons or_false forall_eq mI_put mI_rep O_guard' D_earlyG' D_stepG' W_cond' G_tt G_tf G_ft G_ff GE_tt GE_tf GE_ft GE_ff GS_tt GS_tf GS_ft GS_ff G_u GE_u GS_u IC_t IC_f xft xff xtt xtf z00 z20 z22 z02 zz tn0
def zeros4 (n : Nat) : List Int := List.replicate n 0
theorem works4 {g : List Int} (h : netV g = true) : Works g (zeros4 g.length) where
  n1 := (netV_len h).1
  n6 := (netV_len h).2
  ml := by simp [zeros4]
  nx := fun x hx => by
    obtain ⟨i,hi,rfl⟩ := List.mem_iff_getElem.1 hx
    have := netV_at h hi
    rw [List.getD_eq_getElem?_getD,List.getElem?_eq_getElem hi] at this
    exact ⟨this.1,this.2.1⟩
  mr := fun x hx => by
    unfold zeros4 at hx
    rw [List.mem_replicate] at hx
    omega
theorem full_lt : ∀ n : Nat,n ≤ 6 → 0 ≤ fullN n ∧ fullN n < (2 ^ n : Nat) := fun n hn => by
  have : ∀ n : Nat,n < 7 → 0 ≤ fullN n ∧ fullN n < (2 ^ n : Nat) := by decide +kernel
  exact this n (by omega)
set_option maxRecDepth 20000 in
set_option maxHeartbeats 4000000 in
theorem around_loop {g : List Int} {A : Int} {C : List (List Int)} (hl : g.length ≤ 6) (hCl : C.length ≤ 252) (hC3 : ∀ c ∈ C,c.length ≤ 3) (hCm : ∀ c ∈ C,∀ x ∈ c,0 ≤ x ∧ x < g.length ∧ Sp.bitAt A x = 1) {fr : Fr} {H : AHeap}
    (h0 : fr.get 0 = .sl false false (mI g)) (h6 : fr.get 6 = I A) (h90 : fr.get 90 = .sl false false (mS C)) (h91 : fr.get 91 = I C.length) (h92 : fr.get 92 = I 0) :
    W ⟨Try.prog,0,120,true⟩ (retA 0 r4 fun v H' => H' = [] ∧ v = B true) c4L0.loop [Kont.block 0,Kont.seq c4T3] fr H [] := by
  have e9 : ∀ H,CallV Try.prog (.fn (.func 9) [] []) [] H fun v H' => v = B true ∧ H' = H := fun H => liftV s9 rfl rfl H
  refine W_loop (fun q : { k : Nat // k ≤ C.length } => ([(0,.sl false false (mI g)),(6,I A),(90,.sl false false (mS C)),(91,I C.length),(92,I q.1)],[])) (fun q => C.length - q.1) ⟨0,by omega⟩ [] (Wk.nil (by simp [fle,h0,h6,h90,h91,h92,vle,Fr.get,mS_bnd,mI_bnd])) ?_
  rintro ⟨k,hk⟩
  dsimp only
  by_cases hkl : k < C.length
  · have d1 : (k : Int) < C.length := by omega
    have hwk : IntKind.i64.wrap ((k : Int) + 1) = ((k + 1 : Nat) : Int) := by rw [wrap64 (by omega) (by omega)]; rfl
    obtain ⟨c,hc⟩ : ∃ c,C.getD k [] = c := ⟨_,rfl⟩
    have hcm : c ∈ C := by rw [← hc]; exact Sp.getD_mem hkl
    have hc3 := hC3 c hcm
    have hcx := hCm c hcm
    simp only [w4L0,d1,decide_true,mS_get,hkl,hc,go_sem,Nat.reduceEqDiff,Nat.reduceAdd,Nat.reduceLT,Nat.reduceLeDiff,reduceIte,reduceCtorEq]
    refine W_loop (fun q : { j : Nat // j ≤ c.length } => ([(0,.sl false false (mI g)),(6,I A),(90,.sl false false (mS C)),(91,I C.length),(92,I k),(96,.sl false false (mI c)),(97,I c.length),(98,I q.1)],[])) (fun q => c.length - q.1) ⟨0,by omega⟩ [] (Wk.nil (by simp [fle,vle,Fr.get,mS_bnd,mI_bnd])) ?_
    rintro ⟨j,hj⟩
    dsimp only
    by_cases hjl : j < c.length
    · have dj : (j : Int) < c.length := by omega
      have hwj : IntKind.i64.wrap ((j : Int) + 1) = ((j + 1 : Nat) : Int) := by rw [wrap64 (by omega) (by omega)]; rfl
      obtain ⟨x,hx⟩ : ∃ x,c.getD j 0 = x := ⟨_,rfl⟩
      obtain ⟨x0,x1,x2⟩ := hcx x (by rw [← hx]; exact Sp.getD_mem hjl)
      have dx0 : decide (x < 0) = false := decide_eq_false (by omega)
      have dx1 : decide (x ≥ (g.length : Int)) = false := decide_eq_false (by omega)
      have hbit : bitsI .and .i64 (A.fdiv (2 ^ min x.toNat 64)) 1 = 1 := x2
      have b10 : ((1 : Int) == 0) = false := rfl
      simp only [w4L1,dj,decide_true,mI_get,hjl,hx,mI_hd,dx0,dx1,x0,hbit,b10,hwj,go_sem,Nat.reduceEqDiff,Nat.reduceAdd,Nat.reduceLT,Nat.reduceLeDiff,reduceIte,reduceCtorEq]
      exact round0 rfl ⟨j + 1,hjl⟩ (by dsimp only; omega) rfl (by simp [fle,vle,Fr.get,mS_bnd,mI_bnd])
    · have dj : ¬ (j : Int) < c.length := by omega
      simp only [w4L1,dj,decide_false,w4T2,hwk,go_sem,Nat.reduceEqDiff,Nat.reduceAdd,Nat.reduceLT,Nat.reduceLeDiff,reduceIte,reduceCtorEq]
      exact round0 rfl ⟨k + 1,hkl⟩ (by dsimp only; omega) rfl (by simp [fle,vle,Fr.get,mS_bnd,mI_bnd])
  · have d1 : ¬ (k : Int) < C.length := by omega
    simp only [w4L0,d1,decide_false,w4T3,go_sem,Nat.reduceEqDiff,Nat.reduceAdd,Nat.reduceLT,Nat.reduceLeDiff,reduceIte,reduceCtorEq]
    refine CallK.pure (e9 _) ?_
    simp only [go_sem,Nat.reduceEqDiff,Nat.reduceAdd,Nat.reduceLT,Nat.reduceLeDiff,reduceIte,reduceCtorEq]
    exact leaf (B true) rfl ⟨rfl,rfl⟩
set_option maxRecDepth 20000 in
set_option maxHeartbeats 4000000 in
theorem law4 (g : List Int) (hl : g.length < 9223372036854775808) : Abs.Spec Try.prog 4 [.sl false false (mI g)] [] fun v H' => H' = [] ∧ v = B true := by
  refine Abs.Spec.walk mixed fn4 nn4 t4 q4 nt4 (by simp) ?_
  have e11 : ∀ H,CallV Try.prog (.fn (.func 11) [] []) [.sl false false (mI g)] H fun v H' => v = B (netV g) ∧ H' = H := fun H => liftV (s11 false false g hl) (by simp [bndL,AVal.bnd,mI_bnd]) rfl H
  have e9 : ∀ H,CallV Try.prog (.fn (.func 9) [] []) [] H fun v H' => v = B true ∧ H' = H := fun H => liftV s9 rfl rfl H
  have z23 : ((2 : Int) == 2) = true := rfl
  have z02 : ((0 : Int) != 0) = false := rfl
  have z00 : ((0 : Int) == 0) = true := rfl
  simp only [w4,go_sem,Nat.reduceEqDiff,Nat.reduceAdd,Nat.reduceLT,Nat.reduceLeDiff,reduceIte,reduceCtorEq]
  refine CallK.pure (e11 _) ?_
  cases hv : netV g with
  | false =>
    simp only [go_sem,Nat.reduceEqDiff,Nat.reduceAdd,Nat.reduceLT,Nat.reduceLeDiff,reduceIte,reduceCtorEq]
    generalize hm : (if (9 : Int) < (g.length : Int) then (9 : Int) else (g.length : Int)) = m
    have hm1 : 0 ≤ m ∧ m ≤ g.length ∧ g.take m.toNat = g.take 9 := by
      split at hm
      · subst hm; exact ⟨by omega,by omega,rfl⟩
      · subst hm
        refine ⟨by omega,by omega,?_⟩
        rw [List.take_of_length_le (by omega),List.take_of_length_le (by omega)]
    have e6 : ∀ H,CallV Try.prog (.fn (.func 6) [] []) [.sl false false (mI (g.take 9))] H fun v H' => v = .sl false false (mI (g.take 9)) ∧ H' = H := fun H => liftV (s6' false false (g.take 9) (by simp; omega)) (by simp [bndL,AVal.bnd,mI_bnd]) (by simp [AVal.bnd,mI_bnd]) H
    have e12 := s12 (g.take 9) (by simp; omega)
    rw [take_net hv,if_neg (by simp)] at e12
    rw [hm1.2.2]
    refine ⟨⟨by omega,hm1.1,hm1.2.1⟩,CallK.pure (e6 _) ?_⟩
    simp only [go_sem,Nat.reduceEqDiff,Nat.reduceAdd,Nat.reduceLT,Nat.reduceLeDiff,reduceIte,reduceCtorEq]
    refine CallK.pure (liftV e12 (by simp [bndL,AVal.bnd,mI_bnd]) (by simp [AVal.bnd,bndL,mS_bnd]) _) ?_
    simp only [List.getD_cons_zero,List.getD_cons_succ,z23,go_sem,Nat.reduceEqDiff,Nat.reduceAdd,Nat.reduceLT,Nat.reduceLeDiff,reduceIte,reduceCtorEq]
    refine CallK.pure (e9 _) ?_
    simp only [go_sem,Nat.reduceEqDiff,Nat.reduceAdd,Nat.reduceLT,Nat.reduceLeDiff,reduceIte,reduceCtorEq]
    exact leaf (B true) rfl ⟨rfl,rfl⟩
  | true =>
    obtain ⟨n1,n6⟩ := netV_len hv
    have e6 : ∀ H,CallV Try.prog (.fn (.func 6) [] []) [.sl false false (mI g)] H fun v H' => v = .sl false false (mI g) ∧ H' = H := fun H => liftV (s6' false false g (by omega)) (by simp [bndL,AVal.bnd,mI_bnd]) (by simp [AVal.bnd,mI_bnd]) H
    simp only [go_sem,Nat.reduceEqDiff,Nat.reduceAdd,Nat.reduceLT,Nat.reduceLeDiff,reduceIte,reduceCtorEq]
    have hc : cut true 2 [.sl false false (mI g),.own 0 0 g.length g.length 1] = .agg [.sl false false (mI g),.own 0 0 g.length g.length 1] := rfl
    have hf : IntKind.i64.wrap (IntKind.i64.wrap (1 * 2 ^ min g.length 64) - 1) = fullN g.length := rfl
    obtain ⟨f0,f1⟩ := full_lt g.length n6
    have e12 := s12 g hl
    have e14 := s14 g hl
    rw [hv,if_pos rfl] at e12 e14
    obtain ⟨A,hA⟩ : ∃ A,alwaysK g g.length (fullN g.length) = A := ⟨_,rfl⟩
    obtain ⟨C,hC⟩ : ∃ C,circs g = C := ⟨_,rfl⟩
    obtain ⟨S,hS⟩ : ∃ S,(swapsA C).1 = S := ⟨_,rfl⟩
    have hCS : C = [] → S = [] := fun h => by rw [← hS,← hC]; exact swaps_nil (by rw [hC]; exact h)
    have hA0 : A = 0 → C = [] := fun h => by rw [← hC]; exact around_none hv (by rw [hA]; exact h)
    have hCm : ∀ c ∈ C,∀ x ∈ c,0 ≤ x ∧ x < g.length ∧ Sp.bitAt A x = 1 := fun c hc x hx => by
      rw [← hC] at hc
      rw [← hA]
      exact around_mem hv hc hx
    have hCl : C.length ≤ 252 := by rw [← hC]; exact circs_len n6
    have hC3 : ∀ c ∈ C,c.length ≤ 3 := fun c hc => by
      rw [← hC] at hc
      exact (circs_mem.1 hc).len.2
    have e13 := s13 (works4 hv) (fullN g.length) f0 f1
    rw [hA] at e13
    rw [hC] at e12 e14
    rw [hS] at e14
    have g1 : ∃ b1 : Bool,(A == 0) = b1 ∧ (b1 = true → S = []) := ⟨_,rfl,fun h => hCS (hA0 (by simpa using h))⟩
    have g2 : ∃ b2 : Bool,((C.length : Int) == 0) = b2 ∧ (b2 = true → S = []) := ⟨_,rfl,fun h => hCS (List.eq_nil_of_length_eq_zero (by simp at h; simpa using h))⟩
    obtain ⟨b1,hb1,hs1⟩ := g1
    obtain ⟨b2,hb2,hs2⟩ := g2
    refine ⟨by simp,CallKD.pure e6 ?_⟩
    simp only [hc,hf,go_sem,Nat.reduceEqDiff,Nat.reduceAdd,Nat.reduceLT,Nat.reduceLeDiff,reduceIte,reduceCtorEq]
    refine ⟨⟨by omega,by omega,by omega⟩,CallKD.pure' (CallV.of_spec (first := []) (cap := []) (Spec.lend e13 rfl ?_)) ?_⟩
    · simp [wks,vle,vle.vleL,bndL,AVal.bnd,mI_bnd,mI_rep,zeros4]
      exact ⟨mI_length.trans (by simp),of_eq_true mI_sz,(List.take_of_length_le (by rw [mI_length]; simp)).trans mI_cells.symm⟩
    simp only [List.getD_cons_zero,List.getD_cons_succ,go_sem,Nat.reduceEqDiff,Nat.reduceAdd,Nat.reduceLT,Nat.reduceLeDiff,reduceIte,reduceCtorEq]
    refine CallK.pure (e6 _) ?_
    simp only [go_sem,Nat.reduceEqDiff,Nat.reduceAdd,Nat.reduceLT,Nat.reduceLeDiff,reduceIte,reduceCtorEq]
    refine CallK.pure (liftV e12 (by simp [bndL,AVal.bnd,mI_bnd]) (by simp [AVal.bnd,bndL,mS_bnd]) _) ?_
    simp only [List.getD_cons_zero,List.getD_cons_succ,go_sem,Nat.reduceEqDiff,Nat.reduceAdd,Nat.reduceLT,Nat.reduceLeDiff,reduceIte,reduceCtorEq]
    refine CallK.pure (e6 _) ?_
    simp only [go_sem,Nat.reduceEqDiff,Nat.reduceAdd,Nat.reduceLT,Nat.reduceLeDiff,reduceIte,reduceCtorEq]
    refine CallK.pure (liftV e14 (by simp [bndL,AVal.bnd,mI_bnd]) (by simp [AVal.bnd,bndL,mS_bnd]) _) ?_
    have z0n : (((0 : Nat) : Int) != 0) = false := rfl
    have fin : ∀ {fr : Fr} {H : AHeap},fr.get 0 = .sl false false (mI g) → fr.get 6 = I A → fr.get 90 = .sl false false (mS C) → fr.get 91 = I C.length → fr.get 92 = I 0 →
      W ⟨Try.prog,0,120,true⟩ (retA 0 r4 fun v H' => H' = [] ∧ v = B true) c4L0.loop [Kont.block 0,Kont.seq c4T3] fr H [] := fun a b c d e => around_loop n6 hCl hC3 hCm a b c d e
    cases b1 with
    | true =>
      rw [hs1 rfl]
      cases b2 with
      | true =>
        simp only [List.getD_cons_zero,List.getD_cons_succ,z02,hb1,hb2,mS_length,z0n,go_sem,Nat.reduceEqDiff,Nat.reduceAdd,Nat.reduceLT,Nat.reduceLeDiff,reduceIte,reduceCtorEq]
        exact fin rfl rfl rfl rfl rfl
      | false =>
        simp only [List.getD_cons_zero,List.getD_cons_succ,z02,hb1,hb2,mS_length,z0n,go_sem,Nat.reduceEqDiff,Nat.reduceAdd,Nat.reduceLT,Nat.reduceLeDiff,reduceIte,reduceCtorEq]
        exact fin rfl rfl rfl rfl rfl
    | false =>
      cases b2 with
      | true =>
        rw [hs2 rfl]
        simp only [List.getD_cons_zero,List.getD_cons_succ,z02,hb1,hb2,mS_length,z0n,go_sem,Nat.reduceEqDiff,Nat.reduceAdd,Nat.reduceLT,Nat.reduceLeDiff,reduceIte,reduceCtorEq]
        exact fin rfl rfl rfl rfl rfl
      | false =>
        simp only [List.getD_cons_zero,List.getD_cons_succ,z02,hb1,hb2,mS_length,go_sem,Nat.reduceEqDiff,Nat.reduceAdd,Nat.reduceLT,Nat.reduceLeDiff,reduceIte,reduceCtorEq]
        exact fin rfl rfl rfl rfl rfl
end Go.Proofs.Ytlonaefihjdkpaa
