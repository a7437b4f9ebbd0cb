/- Contracts of folds: the statement's questions, and putting the top leaf at the bottom. -/
import Derived.Test.YthdjloegibenoaaFD
import Derived.Test.YthdjloegibenoaaFQ
namespace Go.Proofs.Ythdjloegibenoaa
open Go.Abs AVal
set_option linter.unusedSimpArgs false
attribute [local go_sem] W_skip W_keep KQ_canon canon Fr.norm W_seq W_block W_exit W_ret W_ops W_draw KQ_nil KQ_norm_seq KQ_exit_seq KQ_ret_seq KQ_norm_block KQ_ret_block KQ_exit_block KQ_exit_loop KQ_ret_loop O_nil O_cons S_call S_mv SE_mv SD_mv S_pick SE_pick SD_pick S_bin SE_bin SD_bin S_eqb SE_eqb SD_eqb S_eqv SE_eqv SD_eqv S_eqnil SE_eqnil SD_eqnil S_un SE_un SD_un S_conv SE_conv SD_conv S_mkfn SE_mkfn SD_mkfn S_load SE_load SD_load S_nilck SE_nilck SD_nilck S_slS SE_slS SD_slS S_slP SE_slP SD_slP S_fldA SE_fldA SD_fldA S_fld SE_fld SD_fld S_ixS SE_ixS SD_ixS S_ixP SE_ixP SD_ixP S_ixV SE_ixV SD_ixV S_ixStr SE_ixStr SD_ixStr S_ext SE_ext SD_ext S_len SE_len SD_len S_lenStr SE_lenStr SD_lenStr S_lenc SE_lenc SD_lenc S_mn SE_mn SD_mn S_mx SE_mx SD_mx S_build SE_build SD_build S_alloc SD_alloc S_box SD_box S_bslice SD_bslice S_mksl SD_mksl S_store SD_store S_append SD_append S_copy SD_copy S_clr SD_clr aq_some aa_some al_some aqd_some aad_some ald_some ape_some D_done D_both D_early D_step SE_call SD_call IOpd.ev Fr.get Fr.put Fr.putd entryFr pickA binA binI isSh shI eqbA eqvA ints ints_mI Option.map_some eqnilA unA convA loadA nilckA intA slSA slPA fldAA fldVA ixSA ixPA ixVA ixStrA extA lenA lenStrA mnA mxA AVal.fits fillA fillOk buildA opa srcA appA stoA copA clrA rdFree zeros List.length_nil List.length_cons List.length_map List.map_cons List.map_nil Option.map_some Option.map_none if_true if_false ite_true ite_false true_and and_true and_self implies_true forall_const true_implies Bool.false_eq_true Bool.not_true Bool.not_false decide_eq_true_eq decide_eq_false_iff_not eq_self List.getElem?_cons_zero List.getElem?_cons_succ List.getElem?_nil List.set_cons_zero List.set_cons_succ List.nil_append List.cons_append List.append_nil List.replicate_zero List.replicate_succ Nat.zero_add false_implies rng_lt rng_end rng_get cells_I cells_B cells_sl cut_one Int.toNat_natCast Int.natCast_nonneg List.headD_cons Int.lt_irrefl not_false_eq_true decide_false decide_true mI_length mI_cells mI_sz mI_isCell mI_mid mI_append mI_take mI_drop cells_val cells_own cells_agg isCell_I isCell_B isCell_nil isCell_sl isCell_own isCell_ptr isCell_fn isCell_rp isCell_yld cellsOk_I cellsOk_B cellsOk_nil cellsOk_sl cellsOk_own cellsOk_ptr cellsOk_fn cellsOk_rp cellsOk_yld cellsOk_agg cells_nil cells_ptr cells_fn cells_rp List.all_cons List.all_nil Bool.and_true Nat.mul_one Nat.zero_mul Nat.one_mul List.take_zero List.take_nil List.drop_nil List.drop_zero List.not_mem_nil Nat.le_refl Nat.zero_le mS_length mS_cells mS_sz mS_isCell mS_mid mS_append mS_take mS_drop cells_sI isCell_sI cellsOk_sI sI_eq succ_le_self' List.take_succ_cons List.drop_succ_cons List.take_length beq_self_eq_true List.mem_cons or_false forall_eq mI_put mI_rep O_guard' D_earlyG' D_stepG' W_cond' G_tt G_tf G_ft G_ff GE_tt GE_tf GE_ft GE_ff GS_tt GS_tf GS_ft GS_ff G_u GE_u GS_u IC_t IC_f xft xff xtt xtf z00 z20 z22 z02 zz tn0

theorem wrapU (n : Int) : IntKind.u64.wrap n = n % 18446744073709551616 := by simp [IntKind.wrap, IntKind.bits, IntKind.signed]
theorem s23 (nn t : Bool) (D : List Int) (most : Int) (hl : D.length < 9223372036854775808) : Abs.Spec Try.prog 23 [.sl nn t (mI D), I most] [] fun v H' => H' = [] ∧ v = B (Sp.pileR D most) := by
  refine Abs.Spec.walk mixed fn23 nn23 t23 q23 nt23 (by simp) ?_
  simp only [w23, W_skip, W_keep, KQ_canon, canon, Fr.norm, W_seq, W_block, W_cond, W_exit, W_ret, W_ops, W_draw, KQ_nil, KQ_norm_seq, KQ_exit_seq, KQ_ret_seq, KQ_norm_block, KQ_ret_block, KQ_exit_block, KQ_exit_loop, KQ_ret_loop, O_nil, O_cons, O_guard', S_call, S_mv, SE_mv, SD_mv, S_pick, SE_pick, SD_pick, S_bin, SE_bin, SD_bin, S_eqb, SE_eqb, SD_eqb, S_eqv, SE_eqv, SD_eqv, S_eqnil, SE_eqnil, SD_eqnil, S_un, SE_un, SD_un, S_conv, SE_conv, SD_conv, S_mkfn, SE_mkfn, SD_mkfn, S_load, SE_load, SD_load, S_nilck, SE_nilck, SD_nilck, S_slS, SE_slS, SD_slS, S_slP, SE_slP, SD_slP, S_fldA, SE_fldA, SD_fldA, S_fld, SE_fld, SD_fld, S_ixS, SE_ixS, SD_ixS, S_ixP, SE_ixP, SD_ixP, S_ixV, SE_ixV, SD_ixV, S_ixStr, SE_ixStr, SD_ixStr, S_ext, SE_ext, SD_ext, S_len, SE_len, SD_len, S_lenStr, SE_lenStr, SD_lenStr, S_lenc, SE_lenc, SD_lenc, S_mn, SE_mn, SD_mn, S_mx, SE_mx, SD_mx, S_build, SE_build, SD_build, S_alloc, SD_alloc, S_box, SD_box, S_bslice, SD_bslice, S_mksl, SD_mksl, S_store, SD_store, S_append, SD_append, S_copy, SD_copy, S_clr, SD_clr, aq_some, aa_some, al_some, aqd_some, aad_some, ald_some, ape_some, D_done, D_both, D_early, D_earlyG', D_step, D_stepG', SE_call, SD_call, G_bool, GE_bool, GS_bool, icond_bool, IOpd.ev, Fr.get, Fr.put, Fr.putd, entryFr, pickA, binA, binI, isSh, shI, eqbA, eqvA, ints, ints_mI, Option.map_some, eqnilA, unA, convA, loadA, nilckA, intA, slSA, slPA, fldAA, fldVA, ixSA, ixPA, ixVA, ixStrA, extA, lenA, lenStrA, mnA, mxA, AVal.fits, fillA, fillOk, buildA, opa, srcA, appA, stoA, copA, clrA, rdFree, zeros, List.length_nil, List.length_cons, List.length_map, List.map_cons, List.map_nil, Option.map_some, Option.map_none, if_true, if_false, ite_true, ite_false, true_and, and_true, and_self, implies_true, forall_const, true_implies, Nat.reduceEqDiff, Nat.reduceAdd, Nat.reduceLT, Nat.reduceLeDiff, reduceIte, reduceCtorEq, Bool.false_eq_true, Bool.not_true, Bool.not_false, decide_eq_true_eq, decide_eq_false_iff_not, eq_self, List.getElem?_cons_zero, List.getElem?_cons_succ, List.getElem?_nil, List.set_cons_zero, List.set_cons_succ, List.nil_append, List.cons_append, List.append_nil, List.replicate_zero, List.replicate_succ, Nat.zero_add, false_implies, rng_lt, rng_end, rng_get, cells_I, cells_B, cells_sl, cut_one, Int.toNat_natCast, Int.natCast_nonneg, List.headD_cons, Int.lt_irrefl, not_false_eq_true, decide_false, decide_true, mI_length, mI_cells, mI_sz, mI_isCell, mI_mid, mI_append, mI_take, mI_drop, cells_val, cells_own, cells_agg, isCell_I, isCell_B, isCell_nil, isCell_sl, isCell_own, isCell_ptr, isCell_fn, isCell_rp, isCell_yld, cellsOk_I, cellsOk_B, cellsOk_nil, cellsOk_sl, cellsOk_own, cellsOk_ptr, cellsOk_fn, cellsOk_rp, cellsOk_yld, cellsOk_agg, cells_nil, cells_ptr, cells_fn, cells_rp, List.all_cons, List.all_nil, Bool.and_true, Nat.mul_one, Nat.zero_mul, Nat.one_mul, List.take_zero, List.take_nil, List.drop_nil, List.drop_zero, List.not_mem_nil, Nat.le_refl, Nat.zero_le, mS_length, mS_cells, mS_sz, mS_isCell, mS_mid, mS_append, mS_take, mS_drop, cells_sI, isCell_sI, cellsOk_sI, sI_eq, succ_le_self', List.take_succ_cons, List.drop_succ_cons, List.take_length, beq_self_eq_true, List.mem_cons, or_false, forall_eq, mI_put, mI_rep]
  refine W_loop (fun q : { q : Nat × Int // q.1 ≤ D.length ∧ Sp.pileGo D.length q.2 (D.drop q.1) = Sp.pileGo D.length 0 D } => ([(0, sl nn t (mI D)), (1, I most), (5, I q.1.2), (8, sl nn t (mI D)), (9, I D.length), (10, I q.1.1)], [])) (fun q => D.length - q.1.1) ⟨(0, 0), by omega, rfl⟩ [] (Wk.nil (by simp [fle, vle, Fr.get, mI_bnd])) ?_
  rintro ⟨⟨i, met⟩, hi, hinv⟩
  dsimp only at hi hinv ⊢
  by_cases hil : i < D.length
  · have hz : decide ((i : Int) < D.length) = true := decide_eq_true (by omega)
    have hil' : (i : Int) < D.length := by omega
    have hwk : IntKind.i64.wrap ((i : Int) + 1) = ((i + 1 : Nat) : Int) := by rw [wrap64 (by omega) (by omega)]; rfl
    obtain ⟨x, hx⟩ : ∃ x, D.getD i 0 = x := ⟨_, rfl⟩
    have hxd : D[i] = x := by rw [← hx, List.getD_eq_getElem?_getD, List.getElem?_eq_getElem hil]; rfl
    rw [List.drop_eq_getElem_cons hil, hxd, Sp.pileGo] at hinv
    have hbit : ∀ b, (bitsI .and .i64 (met.fdiv (2 ^ min x.toNat IntKind.i64.bits)) 1 == 1) = b → (Sp.bitAt met x == 1) = b := fun b h => h
    simp only [w23L0, hz, hil', mI_get, hil, hx, mI_hd, go_sem, Nat.reduceEqDiff, Nat.reduceAdd, Nat.reduceLT, Nat.reduceLeDiff, reduceIte, reduceCtorEq]
    refine G.splitP (fun h => ?_) fun h => ?_
    · rw [if_pos h] at hinv
      simp only [go_sem, Nat.reduceEqDiff, Nat.reduceAdd, Nat.reduceLT, Nat.reduceLeDiff, reduceIte, reduceCtorEq]
      exact leaf (B _) rfl ⟨rfl, by rw [Sp.pileR, ← hinv]; rfl⟩
    · rw [if_neg h] at hinv
      simp only [go_sem, Nat.reduceEqDiff, Nat.reduceAdd, Nat.reduceLT, Nat.reduceLeDiff, reduceIte, reduceCtorEq]
      refine G.splitP (fun h2 => ?_) fun h2 => ?_
      · rw [if_pos h2] at hinv
        simp only [go_sem, Nat.reduceEqDiff, Nat.reduceAdd, Nat.reduceLT, Nat.reduceLeDiff, reduceIte, reduceCtorEq]
        exact leaf (B _) rfl ⟨rfl, by rw [Sp.pileR, ← hinv]; rfl⟩
      · rw [if_neg h2] at hinv
        simp only [go_sem, Nat.reduceEqDiff, Nat.reduceAdd, Nat.reduceLT, Nat.reduceLeDiff, reduceIte, reduceCtorEq]
        refine G.splitP (fun h3 => ?_) fun h3 => ?_
        · rw [if_pos h3] at hinv
          simp only [go_sem, Nat.reduceEqDiff, Nat.reduceAdd, Nat.reduceLT, Nat.reduceLeDiff, reduceIte, reduceCtorEq]
          exact leaf (B _) rfl ⟨rfl, by rw [Sp.pileR, ← hinv]; rfl⟩
        · rw [if_neg h3] at hinv
          simp only [go_sem, Nat.reduceEqDiff, Nat.reduceAdd, Nat.reduceLT, Nat.reduceLeDiff, reduceIte, reduceCtorEq]
          refine ⟨by omega, ?_⟩
          refine IC.split (fun h4 => ?_) fun h4 => ?_
          · rw [if_pos (hbit _ h4)] at hinv
            simp only [go_sem, Nat.reduceEqDiff, Nat.reduceAdd, Nat.reduceLT, Nat.reduceLeDiff, reduceIte, reduceCtorEq]
            exact leaf (B _) rfl ⟨rfl, by rw [Sp.pileR, ← hinv]; rfl⟩
          · rw [if_neg (by rw [hbit _ h4]; simp)] at hinv
            simp only [hwk, go_sem, Nat.reduceEqDiff, Nat.reduceAdd, Nat.reduceLT, Nat.reduceLeDiff, reduceIte, reduceCtorEq]
            refine ⟨by omega, ?_⟩
            refine round0 rfl ⟨(i + 1, Sp.orI met (Sp.shl1 x)), by omega, hinv⟩ (by dsimp only; omega) rfl ?_
            simp [fle, vle, Fr.get, mI_bnd, Sp.orI, Sp.shl1, IntKind.bits]
  · have hz : decide ((i : Int) < D.length) = false := decide_eq_false (by omega)
    obtain rfl : i = D.length := by omega
    rw [List.drop_length, Sp.pileGo] at hinv
    have e1 : decide ((D.length : Int) ≥ 1) = decide (1 ≤ D.length) := decide_eq_decide.2 (by omega)
    simp only [w23L0, hz, w23T1, e1, go_sem, Nat.reduceEqDiff, Nat.reduceAdd, Nat.reduceLT, Nat.reduceLeDiff, reduceIte, reduceCtorEq]
    refine G.split (fun h => ?_) fun h => ?_
    · simp only [go_sem, Nat.reduceEqDiff, Nat.reduceAdd, Nat.reduceLT, Nat.reduceLeDiff, reduceIte, reduceCtorEq]
      exact leaf (B _) rfl ⟨rfl, by rw [Sp.pileR, ← hinv, h]; rfl⟩
    · simp only [go_sem, Nat.reduceEqDiff, Nat.reduceAdd, Nat.reduceLT, Nat.reduceLeDiff, reduceIte, reduceCtorEq]
      exact leaf (B _) rfl ⟨rfl, by rw [Sp.pileR, ← hinv, h]; rfl⟩
theorem s17 (nn t : Bool) (D : List Int) (hl : D.length < 9223372036854775808) : Abs.Spec Try.prog 17 [.sl nn t (mI D)] [] fun v H' => H' = [] ∧ v = B (Sp.isStrip D) := by
  refine Abs.Spec.walk mixed fn17 nn17 t17 q17 nt17 (by simp) ?_
  simp only [w17, go_sem, Nat.reduceEqDiff, Nat.reduceAdd, Nat.reduceLT, Nat.reduceLeDiff, reduceIte, reduceCtorEq]
  refine CallK.by (CallV.of_spec (s23 nn t D 7 hl)) fun v H' ⟨h1, h2⟩ => ?_
  subst h1 h2
  rw [Sp.pileR_strip]
  simp only [go_sem, Nat.reduceEqDiff, Nat.reduceAdd, Nat.reduceLT, Nat.reduceLeDiff, reduceIte, reduceCtorEq]
  exact leaf (B _) rfl ⟨rfl, rfl⟩

set_option maxHeartbeats 1000000 in
theorem s3 (D : List Int) (k : Int) (hl : D.length < 9223372036854775808) : Abs.Spec Try.prog 3 [.sl false false (mI D), I k] [] fun v H' => H' = [] ∧ v = B true := by
  refine Abs.Spec.walk mixed fn3 nn3 t3 q3 nt3 (by simp) ?_
  simp only [w3, go_sem, Nat.reduceEqDiff, Nat.reduceAdd, Nat.reduceLT, Nat.reduceLeDiff, reduceIte, reduceCtorEq]
  refine CallK.by (CallV.of_spec (s16 false false D hl)) fun v H' ⟨h1, h2⟩ => ?_
  subst h1 h2
  simp only [go_sem, Nat.reduceEqDiff, Nat.reduceAdd, Nat.reduceLT, Nat.reduceLeDiff, reduceIte, reduceCtorEq]
  refine CallK.by (CallV.of_spec (s15 false false (D.take 11) (by simp; omega))) fun v H' ⟨h1, h2⟩ => ?_
  subst h1 h2
  rw [Sp.strip_take]
  cases hs : Sp.isStrip D with
  | false =>
    simp only [Bool.false_eq_true, if_false]
    simp only [List.getD_cons_zero, List.getD_cons_succ, z20, z22, go_sem, Nat.reduceEqDiff, Nat.reduceAdd, Nat.reduceLT, Nat.reduceLeDiff, reduceIte, reduceCtorEq]
    refine CallK.by (CallV.of_spec s18) fun v H' ⟨h1, h2⟩ => ?_
    subst h1 h2
    simp only [go_sem, Nat.reduceEqDiff, Nat.reduceAdd, Nat.reduceLT, Nat.reduceLeDiff, reduceIte, reduceCtorEq]
    exact leaf (B true) rfl ⟨rfl, rfl⟩
  | true =>
    obtain ⟨h1, h7, hp⟩ := Sp.strip_pile hs
    rw [Sp.strip_take' hs]
    simp only [if_true]
    simp only [List.getD_cons_zero, List.getD_cons_succ, z00, go_sem, Nat.reduceEqDiff, Nat.reduceAdd, Nat.reduceLT, Nat.reduceLeDiff, reduceIte, reduceCtorEq]
    refine CallK.by (CallV.of_spec (s17 false false D hl)) fun v H' ⟨h1, h2⟩ => ?_
    subst h1 h2
    rw [hs]
    simp only [go_sem, Nat.reduceEqDiff, Nat.reduceAdd, Nat.reduceLT, Nat.reduceLeDiff, reduceIte, reduceCtorEq]
    have hu : IntKind.u64.wrap (D.length : Int) = D.length := by rw [wrapU]; omega
    have hk0 : 0 ≤ IntKind.u64.wrap k := by rw [wrapU]; omega
    obtain ⟨r, hr, hrn⟩ : ∃ r : Nat, IntKind.i64.wrap ((IntKind.u64.wrap k).tmod (IntKind.u64.wrap (D.length : Int))) = r ∧ r < D.length := by
      rw [hu, Int.tmod_eq_emod_of_nonneg hk0]
      have h2 := Int.emod_lt_of_pos (IntKind.u64.wrap k) (show (0 : Int) < D.length by omega)
      have h3 := Int.emod_nonneg (IntKind.u64.wrap k) (show (D.length : Int) ≠ 0 by omega)
      exact ⟨(IntKind.u64.wrap k % D.length).toNat, by rw [wrap64 (by omega) (by omega)]; omega, by omega⟩
    rw [hr]
    refine ⟨by omega, ⟨by omega, by omega⟩, ⟨by omega, by omega, by omega⟩, ?_⟩
    simp only [go_sem, Nat.reduceEqDiff, Nat.reduceAdd, Nat.reduceLT, Nat.reduceLeDiff, reduceIte, reduceCtorEq]
    have hT := Sp.turn_pile hp r
    have hTs := Sp.pile_strip hT h1 h7
    have hTl := hT.len
    have hposs := Sp.poss_turn hp (k := r) (by omega)
    have h15 : Abs.Spec Try.prog 15 [.sl false false (mI (D.drop r ++ D.take r))] [] fun v H' => H' = [] ∧ v = .tup [B (Sp.possP D (Sp.stripC D.length)), I 0] := by
      refine (s15 false false (D.drop r ++ D.take r) (by omega)).mono fun v H' ⟨e1, e2⟩ => ⟨e1, ?_⟩
      rw [e2, if_pos hTs, hTl, hposs]
    have hdl : (D.drop r).length = D.length - r := List.length_drop
    have htl : (D.take r).length = r := by rw [List.length_take]; omega
    refine CallKD.grow (CallV.of_spec (first := []) (cap := []) (Spec.made (s16o false false (D.drop r) (by omega) (by omega)) (by simp [bndL, AVal.bnd, mI_bnd]) mI_bnd [.hole])) fun v H' ⟨e1, e2⟩ => ?_
    subst e1 e2
    refine ⟨fun i b hi _ => by rw [List.getElem?_append_left (List.getElem?_eq_some_iff.1 hi).1]; exact hi, ?_⟩
    have e18 : ∀ H, CallV Try.prog (.fn (.func 18) [] []) [] H fun v H' => v = B true ∧ H' = H := fun H => liftV s18 rfl rfl H
    have exx : (false ^^ true) = true := rfl
    by_cases hr0 : r = 0
    · subst hr0
      simp only [hdl, htl, Nat.add_zero, go_sem, Nat.reduceEqDiff, Nat.reduceAdd, Nat.reduceLT, Nat.reduceLeDiff, reduceIte, reduceCtorEq]
      refine CallKD.pure' (CallV.of_spec (first := []) (cap := []) (Spec.lend h15 rfl ⟨vle_mI rfl (by simp) (by simp) (by rw [List.drop_length, List.append_nil, take_mI]; simp), trivial⟩)) ?_
      simp only [List.getD_cons_zero, List.getD_cons_succ, z00, exx, go_sem, Nat.reduceEqDiff, Nat.reduceAdd, Nat.reduceLT, Nat.reduceLeDiff, reduceIte, reduceCtorEq]
      refine CallK.pure (e18 _) ?_
      simp only [go_sem, Nat.reduceEqDiff, Nat.reduceAdd, Nat.reduceLT, Nat.reduceLeDiff, reduceIte, reduceCtorEq]
      exact leaf (B true) rfl ⟨rfl, rfl⟩
    · have hnl : ¬ (D.drop r).length + r ≤ (D.drop r).length := by omega
      simp only [htl, hnl, go_sem, Nat.reduceEqDiff, Nat.reduceAdd, Nat.reduceLT, Nat.reduceLeDiff, reduceIte, reduceCtorEq]
      refine ⟨by omega, ?_⟩
      refine CallKD.pure' (CallV.of_spec (first := []) (cap := []) (Spec.lend h15 rfl ⟨vle_mI rfl (by simp) (by rw [List.length_append, htl]) (by rw [List.take_of_length_le (by rw [mI_length, List.length_append, htl]; omega)]), trivial⟩)) ?_
      simp only [List.getD_cons_zero, List.getD_cons_succ, z00, exx, go_sem, Nat.reduceEqDiff, Nat.reduceAdd, Nat.reduceLT, Nat.reduceLeDiff, reduceIte, reduceCtorEq]
      refine CallK.pure (e18 _) ?_
      simp only [go_sem, Nat.reduceEqDiff, Nat.reduceAdd, Nat.reduceLT, Nat.reduceLeDiff, reduceIte, reduceCtorEq]
      exact leaf (B true) rfl ⟨rfl, rfl⟩
end Go.Proofs.Ythdjloegibenoaa
