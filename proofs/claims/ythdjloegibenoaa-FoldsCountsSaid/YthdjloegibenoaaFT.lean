/- The statements FoldsOver and FoldsOpens. -/
import Derived.Test.YthdjloegibenoaaFN
namespace Go.Proofs.Ythdjloegibenoaa
open Go.Abs AVal
set_option linter.unusedSimpArgs false
attribute [local go_sem] W_skip W_keep KQ_canon canon Fr.norm W_seq W_block W_exit W_ret W_ops W_draw KQ_nil KQ_norm_seq KQ_exit_seq KQ_ret_seq KQ_norm_block KQ_ret_block KQ_exit_block KQ_exit_loop KQ_ret_loop O_nil O_cons S_call S_mv SE_mv SD_mv S_pick SE_pick SD_pick S_bin SE_bin SD_bin S_eqb SE_eqb SD_eqb S_eqv SE_eqv SD_eqv S_eqnil SE_eqnil SD_eqnil S_un SE_un SD_un S_conv SE_conv SD_conv S_mkfn SE_mkfn SD_mkfn S_load SE_load SD_load S_nilck SE_nilck SD_nilck S_slS SE_slS SD_slS S_slP SE_slP SD_slP S_fldA SE_fldA SD_fldA S_fld SE_fld SD_fld S_ixS SE_ixS SD_ixS S_ixP SE_ixP SD_ixP S_ixV SE_ixV SD_ixV S_ixStr SE_ixStr SD_ixStr S_ext SE_ext SD_ext S_len SE_len SD_len S_lenStr SE_lenStr SD_lenStr S_lenc SE_lenc SD_lenc S_mn SE_mn SD_mn S_mx SE_mx SD_mx S_build SE_build SD_build S_alloc SD_alloc S_box SD_box S_bslice SD_bslice S_mksl SD_mksl S_store SD_store S_append SD_append S_copy SD_copy S_clr SD_clr aq_some aa_some al_some aqd_some aad_some ald_some ape_some D_done D_both D_early D_step SE_call SD_call IOpd.ev Fr.get Fr.put Fr.putd entryFr pickA binA binI isSh shI eqbA eqvA ints ints_mI Option.map_some eqnilA unA convA loadA nilckA intA slSA slPA fldAA fldVA ixSA ixPA ixVA ixStrA extA lenA lenStrA mnA mxA AVal.fits fillA fillOk buildA opa srcA appA stoA copA clrA rdFree zeros List.length_nil List.length_cons List.length_map List.map_cons List.map_nil Option.map_some Option.map_none if_true if_false ite_true ite_false true_and and_true and_self implies_true forall_const true_implies Bool.false_eq_true Bool.not_true Bool.not_false decide_eq_true_eq decide_eq_false_iff_not eq_self List.getElem?_cons_zero List.getElem?_cons_succ List.getElem?_nil List.set_cons_zero List.set_cons_succ List.nil_append List.cons_append List.append_nil List.replicate_zero List.replicate_succ Nat.zero_add false_implies rng_lt rng_end rng_get cells_I cells_B cells_sl cut_one Int.toNat_natCast Int.natCast_nonneg List.headD_cons Int.lt_irrefl not_false_eq_true decide_false decide_true mI_length mI_cells mI_sz mI_isCell mI_mid mI_append mI_take mI_drop cells_val cells_own cells_agg isCell_I isCell_B isCell_nil isCell_sl isCell_own isCell_ptr isCell_fn isCell_rp isCell_yld cellsOk_I cellsOk_B cellsOk_nil cellsOk_sl cellsOk_own cellsOk_ptr cellsOk_fn cellsOk_rp cellsOk_yld cellsOk_agg cells_nil cells_ptr cells_fn cells_rp List.all_cons List.all_nil Bool.and_true Nat.mul_one Nat.zero_mul Nat.one_mul List.take_zero List.take_nil List.drop_nil List.drop_zero List.not_mem_nil Nat.le_refl Nat.zero_le mS_length mS_cells mS_sz mS_isCell mS_mid mS_append mS_take mS_drop cells_sI isCell_sI cellsOk_sI sI_eq succ_le_self' List.take_succ_cons List.drop_succ_cons List.take_length beq_self_eq_true List.mem_cons or_false forall_eq mI_put mI_rep O_guard' D_earlyG' D_stepG' W_cond' G_tt G_tf G_ft G_ff GE_tt GE_tf GE_ft GE_ff GS_tt GS_tf GS_ft GS_ff G_u GE_u GS_u IC_t IC_f xft xff xtt xtf z00 z20 z22 z02 zz tn0

theorem xor_eq (a b : Int) : bitsI .xor .i64 a b = xorI a b := rfl

set_option maxRecDepth 20000 in
set_option maxHeartbeats 2000000 in
theorem s12 (D : List Int) (hl : D.length < 9223372036854775808) : Abs.Spec Try.prog 12 [.sl false false (mI D)] [] fun v H' => H' = [] ∧ v = B true := by
  have e18 : ∀ H, CallV Try.prog (.fn (.func 18) [] []) [] H fun v H' => v = B true ∧ H' = H := fun H => liftV s18 rfl rfl H
  have hl11 : (D.take 11).length < 9223372036854775808 := by simp; omega
  refine Abs.Spec.walk mixed fn12 nn12 t12 q12 nt12 (by simp) ?_
  have z22 : ((2 : Int) != 0) = true := rfl
  have z23 : ((2 : Int) == 2) = true := rfl
  simp only [w12, go_sem, Nat.reduceEqDiff, Nat.reduceAdd, Nat.reduceLT, Nat.reduceLeDiff, reduceIte, reduceCtorEq]
  refine CallK.by (CallV.of_spec (s16 false false D hl)) fun v H' ⟨h1, h2⟩ => ?_
  subst h1 h2
  simp only [go_sem, Nat.reduceEqDiff, Nat.reduceAdd, Nat.reduceLT, Nat.reduceLeDiff, reduceIte, reduceCtorEq]
  refine CallK.by (CallV.of_spec (s38 false false (D.take 11) hl11)) fun v H' ⟨h1, h2⟩ => ?_
  subst h1 h2
  rw [Sp.strip_take]
  cases hs : Sp.isStrip D with
  | false =>
    rw [if_neg (by simp)]
    simp only [List.getD_cons_zero, List.getD_cons_succ, go_sem, Nat.reduceEqDiff, Nat.reduceAdd, Nat.reduceLT, Nat.reduceLeDiff, reduceIte, reduceCtorEq]
    refine CallK.by (CallV.of_spec (s16 false false D hl)) fun v H' ⟨h1, h2⟩ => ?_
    subst h1 h2
    simp only [go_sem, Nat.reduceEqDiff, Nat.reduceAdd, Nat.reduceLT, Nat.reduceLeDiff, reduceIte, reduceCtorEq]
    refine CallK.by (CallV.of_spec (s39 false false (D.take 11) hl11)) fun v H' ⟨h1, h2⟩ => ?_
    subst h1 h2
    rw [Sp.strip_take, hs, if_neg (by simp)]
    simp only [List.getD_cons_zero, List.getD_cons_succ, z22, z23, go_sem, Nat.reduceEqDiff, Nat.reduceAdd, Nat.reduceLT, Nat.reduceLeDiff, reduceIte, reduceCtorEq]
    refine CallK.pure (e18 _) ?_
    simp only [go_sem, Nat.reduceEqDiff, Nat.reduceAdd, Nat.reduceLT, Nat.reduceLeDiff, reduceIte, reduceCtorEq]
    exact leaf (B true) rfl ⟨rfl, rfl⟩
  | true =>
    obtain ⟨h1, h7, hp⟩ := Sp.strip_pile hs
    have e44 : ∀ E : List Int, E.length = D.length → ∀ H, CallV Try.prog (.fn (.func 44) [] []) [.sl false false (mI E)] H fun v H' => v = .sl false false (mI E) ∧ H' = H := fun E hE H => liftV (s44 false false E (by omega)) (by simp [bndL, AVal.bnd, mI_bnd]) (by simp [AVal.bnd, mI_bnd]) H
    have hR := Sp.rev_pile hp
    have hB := back_pile hp
    have hRs : Sp.isStrip D.reverse = true := Sp.pile_strip hR h1 h7
    have hBs : Sp.isStrip (backP D) = true := Sp.pile_strip hB h1 h7
    have hRl : D.reverse.length = D.length := List.length_reverse
    have hBl := backP_len D
    have hRp := Sp.rev_poss hp
    have hBp := back_poss hp
    rw [if_pos rfl, Sp.strip_take' hs]
    simp only [List.getD_cons_zero, List.getD_cons_succ, go_sem, Nat.reduceEqDiff, Nat.reduceAdd, Nat.reduceLT, Nat.reduceLeDiff, reduceIte, reduceCtorEq]
    refine CallK.by (CallV.of_spec (s16 false false D hl)) fun v H' ⟨h1, h2⟩ => ?_
    subst h1 h2
    rw [Sp.strip_take' hs]
    simp only [go_sem, Nat.reduceEqDiff, Nat.reduceAdd, Nat.reduceLT, Nat.reduceLeDiff, reduceIte, reduceCtorEq]
    refine CallK.by (CallV.of_spec (s39 false false D hl)) fun v H' ⟨h1, h2⟩ => ?_
    subst h1 h2
    rw [hs, if_pos rfl]
    simp only [List.getD_cons_zero, List.getD_cons_succ, z00, go_sem, Nat.reduceEqDiff, Nat.reduceAdd, Nat.reduceLT, Nat.reduceLeDiff, reduceIte, reduceCtorEq]
    refine CallK.by (CallV.of_spec (s17 false false D hl)) fun v H' ⟨h1, h2⟩ => ?_
    subst h1 h2
    rw [hs]
    simp only [z00, go_sem, Nat.reduceEqDiff, Nat.reduceAdd, Nat.reduceLT, Nat.reduceLeDiff, reduceIte, reduceCtorEq]
    refine CallK.by (CallV.of_spec (s16 false false D hl)) fun v H' ⟨h1, h2⟩ => ?_
    subst h1 h2
    rw [Sp.strip_take' hs]
    simp only [go_sem, Nat.reduceEqDiff, Nat.reduceAdd, Nat.reduceLT, Nat.reduceLeDiff, reduceIte, reduceCtorEq]
    refine CallK.by (CallV.of_spec (s15 false false D hl)) fun v H' ⟨h1, h2⟩ => ?_
    subst h1 h2
    rw [hs, if_pos rfl]
    simp only [List.getD_cons_zero, List.getD_cons_succ, z00, go_sem, Nat.reduceEqDiff, Nat.reduceAdd, Nat.reduceLT, Nat.reduceLeDiff, reduceIte, reduceCtorEq]
    refine CallK.pure (e44 _ hRl _) ?_
    simp only [go_sem, Nat.reduceEqDiff, Nat.reduceAdd, Nat.reduceLT, Nat.reduceLeDiff, reduceIte, reduceCtorEq]
    refine CallK.by (CallV.of_spec (s15 false false D.reverse (by omega))) fun v H' ⟨h1, h2⟩ => ?_
    subst h1 h2
    rw [hRs, if_pos rfl, hRl, hRp]
    simp only [List.getD_cons_zero, List.getD_cons_succ, z00, go_sem, Nat.reduceEqDiff, Nat.reduceAdd, Nat.reduceLT, Nat.reduceLeDiff, reduceIte, reduceCtorEq]
    refine CallK.pure (e44 _ hBl _) ?_
    simp only [go_sem, Nat.reduceEqDiff, Nat.reduceAdd, Nat.reduceLT, Nat.reduceLeDiff, reduceIte, reduceCtorEq]
    refine CallK.by (CallV.of_spec (s15 false false (backP D) (by omega))) fun v H' ⟨h1, h2⟩ => ?_
    subst h1 h2
    rw [hBs, if_pos rfl, hBl, hBp]
    simp only [List.getD_cons_zero, List.getD_cons_succ, z00, go_sem, Nat.reduceEqDiff, Nat.reduceAdd, Nat.reduceLT, Nat.reduceLeDiff, reduceIte, reduceCtorEq]
    refine CallK.pure (e44 _ hRl _) ?_
    simp only [go_sem, Nat.reduceEqDiff, Nat.reduceAdd, Nat.reduceLT, Nat.reduceLeDiff, reduceIte, reduceCtorEq]
    refine CallK.by (CallV.of_spec (s38 false false D.reverse (by omega))) fun v H' ⟨h1, h2⟩ => ?_
    subst h1 h2
    rw [hRs, if_pos rfl, List.reverse_reverse]
    simp only [List.getD_cons_zero, List.getD_cons_succ, z00, go_sem, Nat.reduceEqDiff, Nat.reduceAdd, Nat.reduceLT, Nat.reduceLeDiff, reduceIte, reduceCtorEq]
    refine CallK.pure (e44 _ hBl _) ?_
    simp only [go_sem, Nat.reduceEqDiff, Nat.reduceAdd, Nat.reduceLT, Nat.reduceLeDiff, reduceIte, reduceCtorEq]
    refine CallK.by (CallV.of_spec (s39 false false (backP D) (by omega))) fun v H' ⟨h1, h2⟩ => ?_
    subst h1 h2
    rw [hBs, if_pos rfl, back_back]
    have zq : (Sp.possP D (Sp.stripC D.length) != Sp.possP D (Sp.stripC D.length)) = false := bne_self_eq_false _
    simp only [List.getD_cons_zero, List.getD_cons_succ, z00, zq, go_sem, Nat.reduceEqDiff, Nat.reduceAdd, Nat.reduceLT, Nat.reduceLeDiff, reduceIte, reduceCtorEq]
    refine CallK.by (CallV.of_spec (s32 false false false false D D hl)) fun v H' ⟨h1, h2⟩ => ?_
    subst h1 h2
    rw [beq_self_eq_true]
    simp only [go_sem, Nat.reduceEqDiff, Nat.reduceAdd, Nat.reduceLT, Nat.reduceLeDiff, reduceIte, reduceCtorEq]
    refine CallK.by (CallV.of_spec (s32 false false false false D D hl)) fun v H' ⟨h1, h2⟩ => ?_
    subst h1 h2
    rw [beq_self_eq_true]
    simp only [go_sem, Nat.reduceEqDiff, Nat.reduceAdd, Nat.reduceLT, Nat.reduceLeDiff, reduceIte, reduceCtorEq]
    refine CallK.by (CallV.of_spec (s16 false false D hl)) fun v H' ⟨h1, h2⟩ => ?_
    subst h1 h2
    rw [Sp.strip_take' hs]
    simp only [go_sem, Nat.reduceEqDiff, Nat.reduceAdd, Nat.reduceLT, Nat.reduceLeDiff, reduceIte, reduceCtorEq]
    refine CallK.by (CallV.of_spec (s42 false false D hl)) fun v H' ⟨h1, h2⟩ => ?_
    subst h1 h2
    rw [creV, hs, if_pos rfl]
    cases hq : Sp.possP D (Sp.stripC D.length) with
    | false =>
      rw [if_neg (by simp)]
      simp only [List.getD_cons_zero, List.getD_cons_succ, z00, go_sem, Nat.reduceEqDiff, Nat.reduceAdd, Nat.reduceLT, Nat.reduceLeDiff, reduceIte, reduceCtorEq]
      refine CallK.by (CallV.of_spec (s42 false false D.reverse (by omega))) fun v H' ⟨h1, h2⟩ => ?_
      subst h1 h2
      rw [creV, hRs, if_pos rfl, hRl, hRp, hq, if_neg (by simp)]
      have z55 : ((5 : Int) == 5) = true := rfl
      simp only [List.getD_cons_zero, List.getD_cons_succ, z55, go_sem, Nat.reduceEqDiff, Nat.reduceAdd, Nat.reduceLT, Nat.reduceLeDiff, reduceIte, reduceCtorEq]
      refine CallK.pure (e18 _) ?_
      simp only [go_sem, Nat.reduceEqDiff, Nat.reduceAdd, Nat.reduceLT, Nat.reduceLeDiff, reduceIte, reduceCtorEq]
      exact leaf (B true) rfl ⟨rfl, rfl⟩
    | true =>
      rw [if_pos rfl]
      simp only [List.getD_cons_zero, List.getD_cons_succ, z00, go_sem, Nat.reduceEqDiff, Nat.reduceAdd, Nat.reduceLT, Nat.reduceLeDiff, reduceIte, reduceCtorEq]
      refine CallK.by (CallV.of_spec (s42 false false D.reverse (by omega))) fun v H' ⟨h1, h2⟩ => ?_
      subst h1 h2
      rw [creV, hRs, if_pos rfl, hRl, hRp, hq, if_pos rfl]
      have hcre := rev_cre hp h1 h7
      have hw : IntKind.i64.wrap ((D.length : Int) - 1) = ((D.length - 1 : Nat) : Int) := by rw [wrap64 (by omega) (by omega)]; omega
      have hx : (bitsI .xor .i64 (Sp.creP D) (Sp.creP D.reverse) == IntKind.i64.wrap (IntKind.i64.wrap (1 * 2 ^ min (D.length - 1) 64) - 1)) = true := by rw [beq_iff_eq]; exact hcre
      simp only [List.getD_cons_zero, List.getD_cons_succ, z00, mI_length, hw, hx, go_sem, Nat.reduceEqDiff, Nat.reduceAdd, Nat.reduceLT, Nat.reduceLeDiff, reduceIte, reduceCtorEq]
      repeat (refine ⟨by omega, ?_⟩)
      refine CallK.pure (e18 _) ?_
      simp only [go_sem, Nat.reduceEqDiff, Nat.reduceAdd, Nat.reduceLT, Nat.reduceLeDiff, reduceIte, reduceCtorEq]
      exact leaf (B true) rfl ⟨rfl, rfl⟩
set_option maxRecDepth 20000 in
set_option maxHeartbeats 2000000 in
theorem s11 (D : List Int) (hl : D.length < 9223372036854775808) : Abs.Spec Try.prog 11 [.sl false false (mI D)] [] fun v H' => H' = [] ∧ v = B true := by
  have e18 : ∀ H, CallV Try.prog (.fn (.func 18) [] []) [] H fun v H' => v = B true ∧ H' = H := fun H => liftV s18 rfl rfl H
  have hl11 : (D.take 11).length < 9223372036854775808 := by simp; omega
  refine Abs.Spec.walk mixed fn11 nn11 t11 q11 nt11 (by simp) ?_
  have z22 : ((2 : Int) != 0) = true := rfl
  have z23 : ((2 : Int) == 2) = true := rfl
  have z52 : ((5 : Int) != 0) = true := rfl
  have z53 : ((5 : Int) == 2) = false := rfl
  have z55 : ((5 : Int) == 5) = true := rfl
  simp only [w11, go_sem, Nat.reduceEqDiff, Nat.reduceAdd, Nat.reduceLT, Nat.reduceLeDiff, reduceIte, reduceCtorEq]
  refine CallK.by (CallV.of_spec (s16 false false D hl)) fun v H' ⟨h1, h2⟩ => ?_
  subst h1 h2
  simp only [go_sem, Nat.reduceEqDiff, Nat.reduceAdd, Nat.reduceLT, Nat.reduceLeDiff, reduceIte, reduceCtorEq]
  refine CallK.by (CallV.of_spec (s42 false false (D.take 11) hl11)) fun v H' ⟨h1, h2⟩ => ?_
  subst h1 h2
  rw [creV, Sp.strip_take]
  cases hs : Sp.isStrip D with
  | false =>
    rw [if_neg (by simp)]
    simp only [List.getD_cons_zero, List.getD_cons_succ, z22, z23, go_sem, Nat.reduceEqDiff, Nat.reduceAdd, Nat.reduceLT, Nat.reduceLeDiff, reduceIte, reduceCtorEq]
    refine CallK.pure (e18 _) ?_
    simp only [go_sem, Nat.reduceEqDiff, Nat.reduceAdd, Nat.reduceLT, Nat.reduceLeDiff, reduceIte, reduceCtorEq]
    exact leaf (B true) rfl ⟨rfl, rfl⟩
  | true =>
    obtain ⟨h1, h7, hp⟩ := Sp.strip_pile hs
    rw [if_pos rfl, Sp.strip_take' hs]
    cases hq : Sp.possP D (Sp.stripC D.length) with
    | false =>
      rw [if_neg (by simp)]
      simp only [List.getD_cons_zero, List.getD_cons_succ, z52, z53, z55, go_sem, Nat.reduceEqDiff, Nat.reduceAdd, Nat.reduceLT, Nat.reduceLeDiff, reduceIte, reduceCtorEq]
      refine CallK.pure (e18 _) ?_
      simp only [go_sem, Nat.reduceEqDiff, Nat.reduceAdd, Nat.reduceLT, Nat.reduceLeDiff, reduceIte, reduceCtorEq]
      exact leaf (B true) rfl ⟨rfl, rfl⟩
    | true =>
      rw [if_pos rfl]
      simp only [List.getD_cons_zero, List.getD_cons_succ, z00, go_sem, Nat.reduceEqDiff, Nat.reduceAdd, Nat.reduceLT, Nat.reduceLeDiff, reduceIte, reduceCtorEq]
      refine CallK.by (CallV.of_spec (s17 false false D hl)) fun v H' ⟨h1, h2⟩ => ?_
      subst h1 h2
      rw [hs]
      simp only [go_sem, Nat.reduceEqDiff, Nat.reduceAdd, Nat.reduceLT, Nat.reduceLeDiff, reduceIte, reduceCtorEq]
      refine CallK.by (CallV.of_spec (s16 false false D hl)) fun v H' ⟨h1, h2⟩ => ?_
      subst h1 h2
      rw [Sp.strip_take' hs]
      simp only [go_sem, Nat.reduceEqDiff, Nat.reduceAdd, Nat.reduceLT, Nat.reduceLeDiff, reduceIte, reduceCtorEq]
      refine W_loop (fun q : { E : List Int // 1 ≤ E.length ∧ E.length ≤ D.length ∧ Sp.Pile E.length E ∧ Sp.possP E (Sp.stripC E.length) = true ∧ ∀ a b : Nat, a < E.length → b < E.length → Sp.ltD E a b = Sp.ltD D a b } => ([(3, I (Sp.creP D)), (5, .sl false false (mI q.1))], [])) (fun q => q.1.length)
        ⟨D, h1, Nat.le_refl _, hp, hq, fun _ _ _ _ => rfl⟩ [] (Wk.nil (by simp [fle, vle, Fr.get, mI_bnd])) ?_
      rintro ⟨E, hE1, hED, hEp, hEq, hElt⟩
      dsimp only
      have hEs : Sp.isStrip E = true := Sp.pile_strip hEp hE1 (by omega)
      by_cases h2 : 2 ≤ E.length
      · have hz : decide ((E.length : Int) > 1) = true := decide_eq_true (by omega)
        obtain ⟨m, hm⟩ : ∃ m, E.length = m + 1 := ⟨E.length - 1, by omega⟩
        rw [hm] at hEp hEq
        obtain ⟨F, hF⟩ : ∃ F, openP m E = F := ⟨_, rfl⟩
        have hFp : Sp.Pile m F := hF ▸ open_pile hEp (by omega)
        have hFq : Sp.possP F (Sp.stripC m) = true := hF ▸ open_poss hEp (by omega) hEq
        have hFl : F.length = m := hFp.len
        have hFs : Sp.isStrip F = true := Sp.pile_strip hFp (by omega) (by omega)
        have hFlt : ∀ a b : Nat, a < m → b < m → Sp.ltD F a b = Sp.ltD D a b := fun a b ha hb => by
          rw [← hF, open_lt ha hb]; exact hElt a b (by omega) (by omega)
        have hcre := cut_cre hp hFp (by omega) (by omega) h7 hFlt
        have e44 : ∀ H, CallV Try.prog (.fn (.func 44) [] []) [.sl false false (mI F)] H fun v H' => v = .sl false false (mI F) ∧ H' = H := fun H => liftV (s44 false false F (by omega)) (by simp [bndL, AVal.bnd, mI_bnd]) (by simp [AVal.bnd, mI_bnd]) H
        have h43 := s43 false false E (by omega)
        rw [hEs, decide_eq_true h2, Bool.and_self, if_pos rfl, hm, hEq, if_pos rfl, show (((m + 1 : Nat) : Int) - 1) = (m : Nat) by omega, hF] at h43
        simp only [w11L0, hz, mI_length, go_sem, Nat.reduceEqDiff, Nat.reduceAdd, Nat.reduceLT, Nat.reduceLeDiff, reduceIte, reduceCtorEq]
        refine CallK.by (CallV.of_spec (s44 false false E (by omega))) fun v H' ⟨h1, h2⟩ => ?_
        subst h1 h2
        simp only [go_sem, Nat.reduceEqDiff, Nat.reduceAdd, Nat.reduceLT, Nat.reduceLeDiff, reduceIte, reduceCtorEq]
        refine CallK.by (CallV.of_spec h43) fun v H' ⟨h1, h2⟩ => ?_
        subst h1 h2
        simp only [List.getD_cons_zero, List.getD_cons_succ, z00, go_sem, Nat.reduceEqDiff, Nat.reduceAdd, Nat.reduceLT, Nat.reduceLeDiff, reduceIte, reduceCtorEq]
        refine CallK.pure (e44 _) ?_
        simp only [go_sem, Nat.reduceEqDiff, Nat.reduceAdd, Nat.reduceLT, Nat.reduceLeDiff, reduceIte, reduceCtorEq]
        refine CallK.by (CallV.of_spec (s15 false false F (by omega))) fun v H' ⟨h1, h2⟩ => ?_
        subst h1 h2
        rw [hFs, if_pos rfl, hFl, hFq]
        simp only [List.getD_cons_zero, List.getD_cons_succ, z00, go_sem, Nat.reduceEqDiff, Nat.reduceAdd, Nat.reduceLT, Nat.reduceLeDiff, reduceIte, reduceCtorEq]
        refine CallK.pure (e44 _) ?_
        simp only [go_sem, Nat.reduceEqDiff, Nat.reduceAdd, Nat.reduceLT, Nat.reduceLeDiff, reduceIte, reduceCtorEq]
        refine CallK.by (CallV.of_spec (s42 false false F (by omega))) fun v H' ⟨h1, h2⟩ => ?_
        subst h1 h2
        rw [creV, hFs, if_pos rfl, hFl, hFq, if_pos rfl]
        have hw1 : IntKind.i64.wrap ((E.length : Int) - 1) = (m : Int) := by rw [wrap64 (by omega) (by omega)]; omega
        have hw2 : IntKind.i64.wrap ((m : Int) - 1) = ((m - 1 : Nat) : Int) := by rw [wrap64 (by omega) (by omega)]; omega
        have hmm : ((m : Int) != m) = false := bne_self_eq_false _
        have hx : (Sp.creP F != bitsI .and .i64 (Sp.creP D) (IntKind.i64.wrap (IntKind.i64.wrap (1 * 2 ^ min (m - 1) 64) - 1))) = false := by
          rw [bne_eq_false_iff_eq]; exact hcre
        simp only [List.getD_cons_zero, List.getD_cons_succ, z00, mI_length, hw1, hw2, hFl, hmm, hx, go_sem, Nat.reduceEqDiff, Nat.reduceAdd, Nat.reduceLT, Nat.reduceLeDiff, reduceIte, reduceCtorEq]
        repeat (refine ⟨by omega, ?_⟩)
        refine round0 rfl ⟨F, by omega, by omega, hFl ▸ hFp, by rw [hFl]; exact hFq, fun a b ha hb => hFlt a b (by omega) (by omega)⟩ (by dsimp only; omega) rfl ?_
        simp [fle, vle, Fr.get, mI_bnd]
      · have hz : decide ((E.length : Int) > 1) = false := decide_eq_false (by omega)
        have hE : E = [0] := by
          match E, (show E.length = 1 by omega), hEp with
          | [x], _, hEp => have := hEp.rng x (by simp); simp at this; rw [show x = 0 by omega]
        simp only [w11L0, hz, mI_length, go_sem, Nat.reduceEqDiff, Nat.reduceAdd, Nat.reduceLT, Nat.reduceLeDiff, reduceIte, reduceCtorEq]
        rw [hE]
        have z1 : mI [0] = [I 0] := rfl
        have z2 : ([I 0] : List AVal).getD 0 .any = I 0 := rfl
        have z3 : [I 0].headD .any = I 0 := rfl
        simp only [w11T1, z1, z00, z2, z3, go_sem, Nat.reduceEqDiff, Nat.reduceAdd, Nat.reduceLT, Nat.reduceLeDiff, reduceIte, reduceCtorEq]
        refine ⟨by decide, ?_⟩
        refine CallK.pure (e18 _) ?_
        simp only [go_sem, Nat.reduceEqDiff, Nat.reduceAdd, Nat.reduceLT, Nat.reduceLeDiff, reduceIte, reduceCtorEq]
        exact leaf (B true) rfl ⟨rfl, rfl⟩
end Go.Proofs.Ythdjloegibenoaa
