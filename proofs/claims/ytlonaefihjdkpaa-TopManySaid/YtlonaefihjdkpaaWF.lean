/- The statement TopMany: all kinds came,as the family of all assortments tells. -/
import Derived.Test.YtlonaefihjdkpaaWE
import Derived.Test.YtlonaefihjdkpaaWD
import Derived.Test.YtlonaefihjdkpaaQK
namespace Go.Proofs.Ytlonaefihjdkpaa
open Go.Abs AVal
set_option linter.unusedSimpArgs false
attribute [local go_sem] W_skip W_keep KQ_canon canon Fr.norm W_seq W_block W_scope W_exit W_ret W_ops W_draw KQ_nil KQ_norm_seq KQ_exit_seq KQ_ret_seq KQ_norm_block KQ_ret_block KQ_exit_block KQ_exit_loop KQ_ret_loop O_nil O_cons S_call S_mv SE_mv SD_mv S_pick SE_pick SD_pick S_bin SE_bin SD_bin S_eqb SE_eqb SD_eqb S_eqv SE_eqv SD_eqv S_eqnil SE_eqnil SD_eqnil S_eqs SE_eqs SD_eqs S_eqp SE_eqp SD_eqp S_slT SE_slT SD_slT S_un SE_un SD_un S_conv SE_conv SD_conv S_mkfn SE_mkfn SD_mkfn S_load SE_load SD_load S_nilck SE_nilck SD_nilck S_slS SE_slS SD_slS S_slP SE_slP SD_slP S_fldA SE_fldA SD_fldA S_fld SE_fld SD_fld S_ixS SE_ixS SD_ixS S_ixP SE_ixP SD_ixP S_ixV SE_ixV SD_ixV S_ixStr SE_ixStr SD_ixStr S_ext SE_ext SD_ext S_len SE_len SD_len S_lenStr SE_lenStr SD_lenStr S_lenc SE_lenc SD_lenc S_mn SE_mn SD_mn S_mx SE_mx SD_mx S_build SE_build SD_build S_alloc SD_alloc S_box SD_box S_bslice SD_bslice S_mksl SD_mksl S_store SD_store S_append SD_append S_copy SD_copy S_clr SD_clr S_mlen SE_mlen SD_mlen S_mget SE_mget SD_mget S_mval SE_mval SD_mval S_mentry SE_mentry SD_mentry S_mkmap SD_mkmap S_mset SD_mset S_mrange SD_mrange S_mnext mlenA mgetA mvalA mentryA msetA mrangeA cells_mp isCell_mp cellsOk_mp aq_some aa_some al_some alA_some aqd_some aad_some ald_some ape_some D_done D_both D_early D_step SE_call SD_call IOpd.ev Fr.get Fr.put Fr.putd entryFr pickA binA binI isSh shI eqbA eqvA ints ints_mI Option.map_some eqnilA eqsA eqpA slTA unA convA loadA nilckA intA slSA slPA fldAA fldVA ixSA ixPA ixVA ixStrA extA lenA lenStrA mnA mxA AVal.fits fillA fillOk buildA opa srcA appA stoA copA clrA rdFree zeros List.length_nil List.length_cons List.length_map List.map_cons List.map_nil Option.map_some Option.map_none if_true if_false ite_true ite_false true_and and_true and_self implies_true forall_const true_implies Bool.false_eq_true Bool.not_true Bool.not_false decide_eq_true_eq decide_eq_false_iff_not eq_self List.getElem?_cons_zero List.getElem?_cons_succ List.getElem?_nil List.set_cons_zero List.set_cons_succ List.nil_append List.cons_append List.append_nil List.replicate_zero List.replicate_succ Nat.zero_add false_implies rng_lt rng_end rng_get cells_I cells_B cells_sl cut_one Int.toNat_natCast Int.natCast_nonneg List.headD_cons Int.lt_irrefl not_false_eq_true decide_false decide_true mI_length mI_cells mI_sz mI_isCell mI_mid mI_append mI_take mI_drop cells_val cells_own cells_agg isCell_I isCell_B isCell_nil isCell_sl isCell_own isCell_ptr isCell_fn isCell_rp isCell_yld cellsOk_I cellsOk_B cellsOk_nil cellsOk_sl cellsOk_own cellsOk_ptr cellsOk_fn cellsOk_rp cellsOk_yld cellsOk_agg cells_nil cells_ptr cells_fn cells_rp List.all_cons List.all_nil Bool.and_true Nat.mul_one Nat.zero_mul Nat.one_mul List.take_zero List.take_nil List.drop_nil List.drop_zero List.not_mem_nil Nat.le_refl Nat.zero_le mS_length mS_cells mS_sz mS_isCell mS_mid mS_append mS_take mS_drop cells_sI isCell_sI cellsOk_sI sI_eq succ_le_self' List.take_succ_cons List.drop_succ_cons List.take_length beq_self_eq_true List.mem_cons or_false forall_eq mI_put mI_rep O_guard' D_earlyG' D_stepG' W_cond' G_tt G_tf G_ft G_ff GE_tt GE_tf GE_ft GE_ff GS_tt GS_tf GS_ft GS_ff G_u GE_u GS_u IC_t IC_f xft xff xtt xtf z00 z20 z22 z02 zz tn0
theorem small_of (a m : Int) (hm : 0 < m) (h6 : m ≤ 6) : ∃ n : Nat,1 ≤ n ∧ (n : Int) ≤ m ∧ IntKind.i64.wrap (1 + IntKind.i64.wrap ((IntKind.u64.wrap a).tmod m)) = (n : Int) := by
  have h0 : 0 ≤ IntKind.u64.wrap a := by
    simp only [IntKind.wrap,IntKind.signed,Bool.false_eq_true,false_and,if_false]
    exact Int.emod_nonneg _ (by decide)
  have h1 : 0 ≤ (IntKind.u64.wrap a).tmod m := Int.tmod_nonneg _ h0
  have h2 : (IntKind.u64.wrap a).tmod m < m := Int.tmod_lt_of_pos _ hm
  refine ⟨(1 + (IntKind.u64.wrap a).tmod m).toNat,by omega,by omega,?_⟩
  rw [wrap64 (x := (IntKind.u64.wrap a).tmod m) (by omega) (by omega),wrap64 (by omega) (by omega)]
  omega
def fillL (n i : Nat) : List Int := List.replicate i 1 ++ List.replicate (n - i) 0
theorem fill_len {n i : Nat} (h : i ≤ n) : (fillL n i).length = n := by simp [fillL]; omega
theorem fill_set {n i : Nat} (h : i < n) : (fillL n i).set i 1 = fillL n (i + 1) := by
  unfold fillL
  rw [List.set_append_right _ _ (by simp)]
  obtain ⟨m,hm⟩ : ∃ m,n - i = m + 1 := ⟨n - i - 1,by omega⟩
  rw [hm,show n - (i + 1) = m by omega,List.length_replicate,Nat.sub_self,List.replicate_succ,List.set_cons_zero,List.replicate_succ',List.append_assoc]
  rfl
theorem fill_all (n : Nat) : fillL n n = onesL n := by simp [fillL,onesL]
theorem fam15 {n k : Nat} (n1 : 1 ≤ n) (n4 : n ≤ 4) (k1 : 1 ≤ k) (k6 : k ≤ 6) : Abs.Spec Try.prog 15 [.sl false false (mS [onesL n]),.sl false false (mI (firstL n k))] [] fun v H' => H' = [] ∧ v = .tup [.sl false false (mS (asL n k)),I 0] := by
  have hfl : (firstL n k).length = n := by simp [firstL]; omega
  refine (s15 [onesL n] (firstL n k) (fun l hl => by rw [List.mem_singleton] at hl; subst hl; rw [ones_len]; omega) (by simp) (by omega)).mono ?_
  rintro v H' ⟨rfl,hr⟩
  refine ⟨rfl,?_⟩
  have hok := vec_dec n (by omega) n1 k (by omega) k1
  have hm : Sp.mat [onesL n] = true := by
    unfold Sp.vecOk at hok
    exact (Bool.and_eq_true _ _ ▸ hok).1
  have hb := many_basic n1 n4 hm
  rcases hr with ⟨h1,-⟩ | ⟨-,h1,-⟩ | ⟨-,-,F,hF,-,-,hv⟩
  · rw [hok] at h1; cases h1
  · rw [hb] at h1; cases h1
  · rw [hv,hF.uniq (many_fam n1 n4 (asc_dec n (by omega) n1 k (by omega) k1))]
theorem getD_mem5 {α : Type} {xs : List α} {i : Nat} {d : α} (h : i < xs.length) : xs.getD i d ∈ xs := by
  rw [List.getD_eq_getElem?_getD,List.getElem?_eq_getElem h]; exact List.getElem_mem h
theorem take_step {α : Type} {xs : List α} {i : Nat} {d : α} (h : i < xs.length) : xs.take (i + 1) = xs.take i ++ [xs.getD i d] := by
  rw [List.take_add_one,List.getElem?_eq_getElem h,List.getD_eq_getElem?_getD,List.getElem?_eq_getElem h]; rfl
set_option maxRecDepth 20000 in
set_option maxHeartbeats 4000000 in
theorem many_rest {n k : Nat} (n1 : 1 ≤ n) (n4 : n ≤ 4) (k1 : 1 ≤ k) (k6 : k ≤ 6) {fr : Fr} {H : AHeap} (g0 : fr.get 0 = I n) (g1 : fr.get 1 = I k) (g7 : fr.get 7 = .sl false false (mI (onesL n))) (g9 : fr.get 9 = .sl false false (mS (asL n k))) (g11 : fr.get 11 = I 0) (g12 : fr.get 12 = I 1) (g61 : fr.get 61 = I k) (g62 : fr.get 62 = I 0) :
    W ⟨Try.prog,0,167,true⟩ (retA 0 r5 fun v H' => H' = [] ∧ v = B true) c5L2.loop [Kont.block 2,Kont.seq c5T3] fr H [] := by
  refine W_loop (fun q : { j : Nat // j ≤ k } => ([(0,I n),(1,I k),(7,.sl false false (mI (onesL n))),(9,.sl false false (mS (asL n k))),(11,I 0),(12,I (powW n q.1)),(61,I k),(62,I q.1)],[])) (fun q => k - q.1) ⟨0,by omega⟩ [] (Wk.nil (by simp [fle,g0,g1,g7,g9,g11,g12,g61,g62,vle,Fr.get,mI_bnd,mS_bnd,powW])) ?_
  rintro ⟨j,hj⟩
  dsimp only
  by_cases hjl : j < k
  · have d1 : decide ((j : Int) < k) = true := decide_eq_true (by omega)
    have hwk : IntKind.i64.wrap ((j : Int) + 1) = ((j + 1 : Nat) : Int) := by rw [wrap64 (by omega) (by omega)]; rfl
    simp only [w5L2,d1,hwk,go_sem,Nat.reduceEqDiff,Nat.reduceAdd,Nat.reduceLT,Nat.reduceLeDiff,reduceIte,reduceCtorEq]
    exact round0 rfl ⟨j + 1,hjl⟩ (by dsimp only; omega) rfl (by simp [fle,vle,Fr.get,mI_bnd,mS_bnd,powW])
  have d1 : decide ((j : Int) < k) = false := decide_eq_false (by omega)
  obtain rfl : j = k := by omega
  have hokW := List.all_eq_true.1 (okW_dec n (by omega) n1 j (by omega) k1)
  have hlen : ∀ v ∈ asL n j,v.length = n := fun v hv => ((mem_asL n j v).1 hv).1
  have hFl : (asL n j).length < 1000 := by
    have : ∀ n : Nat,n < 5 → ∀ k : Nat,k < 7 → (asL n k).length < 1000 := by decide +kernel
    exact this n (by omega) j (by omega)
  obtain ⟨F,hF⟩ : ∃ F,asL n j = F := ⟨_,rfl⟩
  rw [hF] at hokW hlen hFl
  obtain ⟨A,hA⟩ : ∃ A,powW n j = A := ⟨_,rfl⟩
  rw [hF,hA]
  simp only [w5L2,d1,w5T3,go_sem,Nat.reduceEqDiff,Nat.reduceAdd,Nat.reduceLT,Nat.reduceLeDiff,reduceIte,reduceCtorEq]
  refine W_loop (fun q : { m : Nat // m ≤ F.length } => ([(0,I n),(1,I j),(7,.sl false false (mI (onesL n))),(11,I (sumW j (F.take q.1))),(12,I A),(68,.sl false false (mS F)),(69,I F.length),(70,I q.1)],[])) (fun q => F.length - q.1) ⟨0,by omega⟩ [] (Wk.nil (by simp [fle,vle,Fr.get,mI_bnd,mS_bnd,sumW])) ?_
  rintro ⟨m,hm⟩
  dsimp only
  by_cases hml : m < F.length
  · have d2 : decide ((m : Int) < F.length) = true := decide_eq_true (by omega)
    have hwm : IntKind.i64.wrap ((m : Int) + 1) = ((m + 1 : Nat) : Int) := by rw [wrap64 (by omega) (by omega)]; rfl
    obtain ⟨v,hv⟩ : ∃ v,F.getD m [] = v := ⟨_,rfl⟩
    have hvm : v ∈ F := by rw [← hv]; exact getD_mem5 hml
    have hvl : v.length = n := hlen v hvm
    have dn : ((v.length : Int) != n) = false := by rw [hvl]; simp
    have hvk := hokW v hvm
    unfold okW at hvk
    simp only [List.all_eq_true,List.mem_range,Bool.and_eq_true,decide_eq_true_eq] at hvk
    have hsum : sumW j (F.take (m + 1)) = addW j (sumW j (F.take m)) v := by
      unfold sumW; rw [take_step (d := []) hml,hv,List.foldl_append]; rfl
    obtain ⟨T,hT⟩ : ∃ T,sumW j (F.take m) = T := ⟨_,rfl⟩
    rw [hT] at hsum
    rw [hT]
    simp only [w5L4,d2,mS_get,hml,hv,dn,go_sem,Nat.reduceEqDiff,Nat.reduceAdd,Nat.reduceLT,Nat.reduceLeDiff,reduceIte,reduceCtorEq]
    refine ⟨by omega,?_⟩
    refine W_loop (fun q : { t : Nat // t ≤ v.length } => ([(0,I n),(1,I j),(7,.sl false false (mI (onesL n))),(11,I T),(12,I A),(15,I (runW j (v.take q.1)).ways),(16,I (runW j (v.take q.1)).left),(17,B (runW j (v.take q.1)).each),(68,.sl false false (mS F)),(69,I F.length),(70,I m),(79,.sl false false (mI v)),(80,I v.length),(81,I q.1)],[])) (fun q => v.length - q.1) ⟨0,by omega⟩ [] (Wk.nil (by simp [fle,vle,Fr.get,mI_bnd,mS_bnd,runW])) ?_
    rintro ⟨t,ht⟩
    dsimp only
    by_cases htl : t < v.length
    · have d3 : decide ((t : Int) < v.length) = true := decide_eq_true (by omega)
      have dt : (t : Int) < v.length := by omega
      have hwt : IntKind.i64.wrap ((t : Int) + 1) = ((t + 1 : Nat) : Int) := by rw [wrap64 (by omega) (by omega)]; rfl
      obtain ⟨c0,c6,cl⟩ := hvk t htl
      have hstep : runW j (v.take (t + 1)) = stepW (runW j (v.take t)) (v.getD t 0) := by
        unfold runW; rw [take_step (d := 0) htl,List.foldl_append]; rfl
      obtain ⟨c,hc⟩ : ∃ c : Nat,v.getD t 0 = c := ⟨(v.getD t 0).toNat,by omega⟩
      obtain ⟨⟨W0,L0,E0⟩,hS⟩ : ∃ S,runW j (v.take t) = S := ⟨_,rfl⟩
      rw [hS] at cl hstep
      rw [hc] at c6 cl hstep
      dsimp only at cl
      rw [hS]
      dsimp only
      have dc0 : decide ((c : Int) < 0) = false := decide_eq_false (by omega)
      have dcl : decide ((c : Int) > L0) = false := decide_eq_false (by omega)
      simp only [w5L5,d3,mI_get,htl,hc,mI_hd,dt,dc0,dcl,go_sem,Nat.reduceEqDiff,Nat.reduceAdd,Nat.reduceLT,Nat.reduceLeDiff,reduceIte,reduceCtorEq]
      refine W_loop (fun q : { u : Nat // u ≤ c } => ([(0,I n),(1,I j),(7,.sl false false (mI (onesL n))),(11,I T),(12,I A),(15,I (wayG L0 q.1 W0)),(16,I L0),(17,B E0),(19,I c),(68,.sl false false (mS F)),(69,I F.length),(70,I m),(79,.sl false false (mI v)),(80,I v.length),(81,I t),(92,I c),(93,I q.1)],[])) (fun q => c - q.1) ⟨0,by omega⟩ [] (Wk.nil (by simp [fle,vle,Fr.get,mI_bnd,mS_bnd,wayG])) ?_
      rintro ⟨u,hu⟩
      dsimp only
      by_cases hul : u < c
      · have d4 : decide ((u : Int) < c) = true := decide_eq_true (by omega)
        have hwu : IntKind.i64.wrap ((u : Int) + 1) = ((u + 1 : Nat) : Int) := by rw [wrap64 (by omega) (by omega)]; rfl
        simp only [w5L6,d4,hwu,go_sem,Nat.reduceEqDiff,Nat.reduceAdd,Nat.reduceLT,Nat.reduceLeDiff,reduceIte,reduceCtorEq]
        refine ⟨by omega,?_⟩
        exact round0 rfl ⟨u + 1,hul⟩ (by dsimp only; omega) rfl (by simp [fle,vle,Fr.get,mI_bnd,mS_bnd,wayG,hwu])
      · have d4 : decide ((u : Int) < c) = false := decide_eq_false (by omega)
        obtain rfl : u = c := by omega
        have hR : stepW ⟨W0,L0,E0⟩ (u : Int) = ⟨wayG L0 u W0,IntKind.i64.wrap (L0 - u),E0 && decide ((u : Int) > 0)⟩ := rfl
        rw [hR] at hstep
        cases E0 with
        | false =>
          simp only [w5L6,d4,w5T7,w5T8,hwt,go_sem,Nat.reduceEqDiff,Nat.reduceAdd,Nat.reduceLT,Nat.reduceLeDiff,reduceIte,reduceCtorEq]
          exact round0 rfl ⟨t + 1,htl⟩ (by dsimp only; omega) rfl (by simp [fle,vle,Fr.get,mI_bnd,mS_bnd,hstep])
        | true =>
          simp only [w5L6,d4,w5T7,w5T8,hwt,go_sem,Nat.reduceEqDiff,Nat.reduceAdd,Nat.reduceLT,Nat.reduceLeDiff,reduceIte,reduceCtorEq]
          exact round0 rfl ⟨t + 1,htl⟩ (by dsimp only; omega) rfl (by simp [fle,vle,Fr.get,mI_bnd,mS_bnd,hstep])
    · have d3 : decide ((t : Int) < v.length) = false := decide_eq_false (by omega)
      obtain rfl : t = v.length := by omega
      rw [List.take_length]
      have hR : sumW j (F.take (m + 1)) = if (runW j v).each then IntKind.i64.wrap (T + (runW j v).ways) else T := by rw [hsum]; rfl
      cases hE : (runW j v).each with
      | false =>
        rw [hE,if_neg (by simp)] at hR
        simp only [w5L5,d3,w5T9,w5T10,hwm,go_sem,Nat.reduceEqDiff,Nat.reduceAdd,Nat.reduceLT,Nat.reduceLeDiff,reduceIte,reduceCtorEq]
        exact round0 rfl ⟨m + 1,hml⟩ (by dsimp only; omega) rfl (by simp [fle,vle,Fr.get,mI_bnd,mS_bnd,hR])
      | true =>
        rw [hE,if_pos rfl] at hR
        simp only [w5L5,d3,w5T9,w5T10,hwm,go_sem,Nat.reduceEqDiff,Nat.reduceAdd,Nat.reduceLT,Nat.reduceLeDiff,reduceIte,reduceCtorEq]
        exact round0 rfl ⟨m + 1,hml⟩ (by dsimp only; omega) rfl (by simp [fle,vle,Fr.get,mI_bnd,mS_bnd,hR])
  · have d2 : decide ((m : Int) < F.length) = false := decide_eq_false (by omega)
    obtain rfl : m = F.length := by omega
    rw [List.take_length]
    have hset : IntKind.i64.wrap (IntKind.i64.wrap (1 * 2 ^ min n 64) - 1) = (2 : Int) ^ n - 1 := by
      have : ∀ n : Nat,n < 5 → IntKind.i64.wrap (IntKind.i64.wrap (1 * 2 ^ min n 64) - 1) = (2 : Int) ^ n - 1 := by decide +kernel
      exact this n (by omega)
    have hs01 : 0 ≤ (2 : Int) ^ n - 1 ∧ (2 : Int) ^ n - 1 < (2 ^ n : Nat) := by
      have : ∀ n : Nat,n < 5 → 0 ≤ (2 : Int) ^ n - 1 ∧ (2 : Int) ^ n - 1 < (2 ^ n : Nat) := by decide +kernel
      exact this n (by omega)
    have hN := okN_dec n (by omega) n1 j (by omega) k1
    unfold okN at hN
    rw [hF,hA] at hN
    simp only [Bool.and_eq_true,decide_eq_true_eq] at hN
    obtain ⟨q1,q2,q3,q4,q5,q6,q7,q8⟩ := hN
    have e16 := s16 n n1 n4 ((2 : Int) ^ n - 1) hs01.1 hs01.2 j (by omega) q1 q2 q3
    have hfv : fracV (sum16 n ((2 : Int) ^ n - 1) j) (den16 n j) = .agg [I (fN (sum16 n ((2 : Int) ^ n - 1) j) (den16 n j)),I (fD (sum16 n ((2 : Int) ^ n - 1) j) (den16 n j))] := rfl
    rw [hfv] at e16
    obtain ⟨x,hx⟩ : ∃ x,fN (sum16 n ((2 : Int) ^ n - 1) j) (den16 n j) = x := ⟨_,rfl⟩
    obtain ⟨y,hy⟩ : ∃ y,fD (sum16 n ((2 : Int) ^ n - 1) j) (den16 n j) = y := ⟨_,rfl⟩
    obtain ⟨T,hT⟩ : ∃ T,sumW j F = T := ⟨_,rfl⟩
    rw [hx] at q6 q7 q8
    rw [hy] at q4 q5 q7 q8
    rw [hT] at q8
    rw [hx,hy] at e16
    rw [hT]
    have p1 : decide (y ≥ 1) = true := decide_eq_true q4
    have p2 : decide (y ≤ A) = true := decide_eq_true q5
    have p3 : decide (x ≥ 0) = true := decide_eq_true q6
    have p4 : decide (x ≤ y) = true := decide_eq_true q7
    have p5 : (IntKind.i64.wrap (x * A) == IntKind.i64.wrap (T * y)) = true := by rw [q8]; exact beq_self_eq_true _
    have z0 : ((0 : Int) == 0) = true := rfl
    simp only [w5L4,d2,w5T11,hset,go_sem,Nat.reduceEqDiff,Nat.reduceAdd,Nat.reduceLT,Nat.reduceLeDiff,reduceIte,reduceCtorEq]
    refine CallK.pure (liftV e16 (by simp [bndL,AVal.bnd,mI_bnd]) rfl _) ?_
    simp only [List.getD_cons_zero,List.getD_cons_succ,z0,p1,p2,p3,p4,p5,go_sem,Nat.reduceEqDiff,Nat.reduceAdd,Nat.reduceLT,Nat.reduceLeDiff,reduceIte,reduceCtorEq]
    refine CallK.pure (liftV s17 rfl rfl _) ?_
    simp only [go_sem,Nat.reduceEqDiff,Nat.reduceAdd,Nat.reduceLT,Nat.reduceLeDiff,reduceIte,reduceCtorEq]
    exact leaf (B true) rfl ⟨rfl,rfl⟩
set_option maxRecDepth 20000 in
set_option maxHeartbeats 4000000 in
theorem law5 (a b : Int) : Abs.Spec Try.prog 5 [I a,I b] [] fun v H' => H' = [] ∧ v = B true := by
  refine Abs.Spec.walk mixed fn5 nn5 t5 q5 nt5 (by simp) ?_
  obtain ⟨n,n1,n4,hn⟩ := small_of a 4 (by omega) (by omega)
  obtain ⟨k,k1,k6,hk⟩ := small_of b 6 (by omega) (by omega)
  simp only [w5,hn,hk,go_sem,Nat.reduceEqDiff,Nat.reduceAdd,Nat.reduceLT,Nat.reduceLeDiff,reduceIte,reduceCtorEq]
  refine ⟨by omega,by omega,⟨by omega,by omega,by omega⟩,⟨by omega,by omega,by omega⟩,⟨by omega,by omega,by omega⟩,?_⟩
  refine W_loop (fun q : { i : Nat // i ≤ n } => ([(0,I n),(1,I k),(5,own 0 0 n n 1),(6,own 1 0 n n 1),(7,own 2 0 n n 1),(38,I n),(39,I q.1)],[.cells (mI (fillL n q.1)),.cells (mI (List.replicate n 0)),.cells (mI (fillL n q.1))])) (fun q => n - q.1) ⟨0,by omega⟩ [some 0,some 1,some 2] (Wk.mk0 rfl (by simp [imgs,Blk.alive]) (by simp [hle,csle,mI_bnd,fillL]) (by simp [fle,vle,Fr.get,imgs,Blk.alive])) ?_
  rintro ⟨i,hi⟩
  dsimp only
  by_cases hil : i < n
  · have d1 : decide ((i : Int) < n) = true := decide_eq_true (by omega)
    have di : (i : Int) < n := by omega
    have hwk : IntKind.i64.wrap ((i : Int) + 1) = ((i + 1 : Nat) : Int) := by rw [wrap64 (by omega) (by omega)]; rfl
    simp only [w5L0,d1,hwk,go_sem,Nat.reduceEqDiff,Nat.reduceAdd,Nat.reduceLT,Nat.reduceLeDiff,reduceIte,reduceCtorEq]
    have hs : List.take i (fillL n i) ++ [1] ++ List.drop (i + 1) (fillL n i) = fillL n (i + 1) := by rw [set_put (by rw [fill_len hi]; exact hil),fill_set hil]
    rw [hs]
    refine ⟨di,by rw [fill_len hi]; omega,di,by rw [fill_len hi]; omega,?_⟩
    exact round1 rfl ⟨i + 1,hil⟩ [some 0,some 1,some 2] (by dsimp only; omega) (Wk.mk0 rfl (by simp [imgs,Blk.alive]) (by simp [hle,csle,mI_bnd]) (by simp [fle,vle,Fr.get,imgs,Blk.alive]))
  · have d1 : decide ((i : Int) < n) = false := decide_eq_false (by omega)
    obtain rfl : i = n := by omega
    rw [fill_all]
    simp only [w5L0,d1,w5T1,go_sem,Nat.reduceEqDiff,Nat.reduceAdd,Nat.reduceLT,Nat.reduceLeDiff,reduceIte,reduceCtorEq]
    have hfirst : (.val (.int .i64 k) :: mI (List.drop 1 (List.replicate i 0)) : List AVal) = mI (firstL i k) := by
      rw [List.drop_replicate]; rfl
    rw [hfirst]
    refine ⟨⟨by omega,by omega⟩,by simp; omega,?_⟩
    have hfl : (firstL i k).length = i := by simp [firstL]; omega
    refine W_view [] [(0,I i),(1,I k),(5,.sl false false (mI (onesL i))),(6,.sl false false (mI (firstL i k))),(7,.sl false false (mI (onesL i)))] [] (Wk.nil ⟨rfl,rfl,vle_mI rfl (by simp) (ones_len i).symm (List.take_of_length_le (by rw [mI_length,ones_len]; omega)),vle_mI rfl (by simp) hfl.symm (List.take_of_length_le (by rw [mI_length,hfl]; omega)),vle_mI rfl (by simp) (ones_len i).symm (List.take_of_length_le (by rw [mI_length,ones_len]; omega)),trivial⟩) ?_
    have e15 := fam15 n1 (by omega : i ≤ 4) k1 (by omega : k ≤ 6)
    simp only [go_sem,Nat.reduceEqDiff,Nat.reduceAdd,Nat.reduceLT,Nat.reduceLeDiff,reduceIte,reduceCtorEq]
    refine CallK.by (R := fun v H' => v = .tup [.sl false false (mS (asL i k)),I 0] ∧ H' = [.dead]) (CallV.of_spec (first := []) (cap := []) (Spec.renum (ρ := []) e15 rfl (Wk.nil ?_) ?_)) ?_
    · exact ⟨vle_mS (xs := [onesL i]) rfl (by simp) rfl rfl,⟨mI_bnd,fun h => h,fun h => h,rfl⟩,trivial⟩
    · rintro _ _ ⟨rfl,rfl⟩
      refine ⟨[some 0],.tup [.sl false false (mS (asL i k)),I 0],[.dead],Wk.mk0 rfl (by simp [imgs,Blk.alive]) (by simp [hle]) (by simp [fle,vle,vle.vleL,mS_bnd,Fr.get]),⟨rfl,rfl⟩,by simp,fun j hj => .inl ?_⟩
      obtain rfl : j = 0 := by simpa using hj
      rfl
    rintro _ _ ⟨rfl,rfl⟩
    have z0 : ((0 : Int) != 0) = false := rfl
    simp only [List.getD_cons_zero,List.getD_cons_succ,z0,go_sem,Nat.reduceEqDiff,Nat.reduceAdd,Nat.reduceLT,Nat.reduceLeDiff,reduceIte,reduceCtorEq]
    exact many_rest n1 (by omega) k1 (by omega) rfl rfl rfl rfl rfl rfl rfl rfl
end Go.Proofs.Ytlonaefihjdkpaa
