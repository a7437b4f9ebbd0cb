/- The statement FoldsCounts. -/
import Derived.Test.YthdjloegibenoaaGB
namespace Go.Proofs.Ythdjloegibenoaa
open Go.Abs AVal
set_option linter.unusedSimpArgs false
attribute [local go_sem] W_skip W_keep KQ_canon canon Fr.norm W_seq W_block W_exit W_ret W_ops W_draw KQ_nil KQ_norm_seq KQ_exit_seq KQ_ret_seq KQ_norm_block KQ_ret_block KQ_exit_block KQ_exit_loop KQ_ret_loop O_nil O_cons S_call S_mv SE_mv SD_mv S_pick SE_pick SD_pick S_bin SE_bin SD_bin S_eqb SE_eqb SD_eqb S_eqv SE_eqv SD_eqv S_eqnil SE_eqnil SD_eqnil S_un SE_un SD_un S_conv SE_conv SD_conv S_mkfn SE_mkfn SD_mkfn S_load SE_load SD_load S_nilck SE_nilck SD_nilck S_slS SE_slS SD_slS S_slP SE_slP SD_slP S_fldA SE_fldA SD_fldA S_fld SE_fld SD_fld S_ixS SE_ixS SD_ixS S_ixP SE_ixP SD_ixP S_ixV SE_ixV SD_ixV S_ixStr SE_ixStr SD_ixStr S_ext SE_ext SD_ext S_len SE_len SD_len S_lenStr SE_lenStr SD_lenStr S_lenc SE_lenc SD_lenc S_mn SE_mn SD_mn S_mx SE_mx SD_mx S_build SE_build SD_build S_alloc SD_alloc S_box SD_box S_bslice SD_bslice S_mksl SD_mksl S_store SD_store S_append SD_append S_copy SD_copy S_clr SD_clr aq_some aa_some al_some aqd_some aad_some ald_some ape_some D_done D_both D_early D_step SE_call SD_call IOpd.ev Fr.get Fr.put Fr.putd entryFr pickA binA binI isSh shI eqbA eqvA ints ints_mI Option.map_some eqnilA unA convA loadA nilckA intA slSA slPA fldAA fldVA ixSA ixPA ixVA ixStrA extA lenA lenStrA mnA mxA AVal.fits fillA fillOk buildA opa srcA appA stoA copA clrA rdFree zeros List.length_nil List.length_cons List.length_map List.map_cons List.map_nil Option.map_some Option.map_none if_true if_false ite_true ite_false true_and and_true and_self implies_true forall_const true_implies Bool.false_eq_true Bool.not_true Bool.not_false decide_eq_true_eq decide_eq_false_iff_not eq_self List.getElem?_cons_zero List.getElem?_cons_succ List.getElem?_nil List.set_cons_zero List.set_cons_succ List.nil_append List.cons_append List.append_nil List.replicate_zero List.replicate_succ Nat.zero_add false_implies rng_lt rng_end rng_get cells_I cells_B cells_sl cut_one Int.toNat_natCast Int.natCast_nonneg List.headD_cons Int.lt_irrefl not_false_eq_true decide_false decide_true mI_length mI_cells mI_sz mI_isCell mI_mid mI_append mI_take mI_drop cells_val cells_own cells_agg isCell_I isCell_B isCell_nil isCell_sl isCell_own isCell_ptr isCell_fn isCell_rp isCell_yld cellsOk_I cellsOk_B cellsOk_nil cellsOk_sl cellsOk_own cellsOk_ptr cellsOk_fn cellsOk_rp cellsOk_yld cellsOk_agg cells_nil cells_ptr cells_fn cells_rp List.all_cons List.all_nil Bool.and_true Nat.mul_one Nat.zero_mul Nat.one_mul List.take_zero List.take_nil List.drop_nil List.drop_zero List.not_mem_nil Nat.le_refl Nat.zero_le mS_length mS_cells mS_sz mS_isCell mS_mid mS_append mS_take mS_drop cells_sI isCell_sI cellsOk_sI sI_eq succ_le_self' List.take_succ_cons List.drop_succ_cons List.take_length beq_self_eq_true List.mem_cons or_false forall_eq mI_put mI_rep O_guard' D_earlyG' D_stepG' W_cond' G_tt G_tf G_ft G_ff GE_tt GE_tf GE_ft GE_ff GS_tt GS_tf GS_ft GS_ff G_u GE_u GS_u IC_t IC_f xft xff xtt xtf z00 z20 z22 z02 zz tn0

theorem sum_take {f : Nat → Nat} {N i : Nat} (h : i ≤ N) : ((List.range i).map f).sum ≤ ((List.range N).map f).sum := by
  induction N with
  | zero => obtain rfl : i = 0 := by omega
            exact Nat.le_refl _
  | succ N ih =>
    by_cases hi : i = N + 1
    · subst hi; exact Nat.le_refl _
    · rw [List.range_succ, List.map_append, List.sum_append]
      exact Nat.le_trans (ih (by omega)) (by omega)

theorem tab_get : ∀ m : Nat, m ≤ 7 → (List.drop m [I 0, I 1, I 2, I 6, I 16, I 50, I 144, I 462]).headD .any = I (tabF m : Nat)
  | 0, _ => rfl
  | 1, _ => rfl
  | 2, _ => rfl
  | 3, _ => rfl
  | 4, _ => rfl
  | 5, _ => rfl
  | 6, _ => rfl
  | 7, _ => rfl
  | m + 8, h => by omega
theorem tabM_get : ∀ m : Nat, m ≤ 3 → (List.drop m [I 0, I 2, I 8, I 60]).headD .any = I (tabM m : Nat)
  | 0, _ => rfl
  | 1, _ => rfl
  | 2, _ => rfl
  | 3, _ => rfl
  | m + 4, h => by omega
theorem tab_small : ∀ m : Nat, m ≤ 7 → tabF m ≤ 462 := by decide
theorem pow_le : ∀ m : Nat, m ≤ 7 → 2 ^ (m - 1) ≤ 64 := by decide
set_option maxRecDepth 20000 in
set_option maxHeartbeats 2000000 in
theorem s6 (n : Int) : Abs.Spec Try.prog 6 [I n] [] fun v H' => H' = [] ∧ v = B true := by
  have e18 : ∀ H, CallV Try.prog (.fn (.func 18) [] []) [] H fun v H' => v = B true ∧ H' = H := fun H => liftV s18 rfl rfl H
  refine Abs.Spec.walk mixed fn6 nn6 t6 q6 nt6 (by simp) ?_
  have hk0 : 0 ≤ IntKind.u64.wrap n := by rw [wrapU]; omega
  obtain ⟨m, hm, h1, h7⟩ : ∃ m : Nat, IntKind.i64.wrap (1 + IntKind.i64.wrap ((IntKind.u64.wrap n).tmod 7)) = m ∧ 1 ≤ m ∧ m ≤ 7 := by
    rw [Int.tmod_eq_emod_of_nonneg hk0]
    have h2 := Int.emod_lt_of_pos (IntKind.u64.wrap n) (show (0 : Int) < 7 by omega)
    have h3 := Int.emod_nonneg (IntKind.u64.wrap n) (show (7 : Int) ≠ 0 by omega)
    exact ⟨(1 + IntKind.u64.wrap n % 7).toNat, by rw [wrap64 (x := IntKind.u64.wrap n % 7) (by omega) (by omega), wrap64 (by omega) (by omega)]; omega, by omega, by omega⟩
  simp only [w6, hm, go_sem, Nat.reduceEqDiff, Nat.reduceAdd, Nat.reduceLT, Nat.reduceLeDiff, reduceIte, reduceCtorEq]
  refine ⟨by decide, ?_⟩
  have hlo : lenOk (m : Int) = true := by rw [lenOk, decide_eq_true (by omega), decide_eq_true (by omega)]; rfl
  obtain ⟨f1, f2, f3, f4⟩ := facts m h1 h7
  have h24 := s24 m
  have h25 := s25 m
  rw [if_pos hlo, Int.toNat_natCast, f1] at h24
  rw [if_pos hlo, Int.toNat_natCast] at h25
  refine CallK.by (CallV.of_spec h24) fun v H' ⟨e1, e2⟩ => ?_
  subst e1 e2
  simp only [List.getD_cons_zero, List.getD_cons_succ, go_sem, Nat.reduceEqDiff, Nat.reduceAdd, Nat.reduceLT, Nat.reduceLeDiff, reduceIte, reduceCtorEq]
  refine CallK.by (CallV.of_spec h25) fun v H' ⟨e1, e2⟩ => ?_
  subst e1 e2
  generalize ((foldL m).filter headP).length = hd at f2 ⊢
  have z02 : ((0 : Int) != 0) = false := rfl
  have hix := tab_get m h7
  have zt : ((tabF m : Nat) != (tabF m : Nat) : Bool) = false := bne_self_eq_false _
  have zt' : (((tabF m : Nat) : Int) != (tabF m : Nat)) = false := bne_self_eq_false _
  have hmul : IntKind.i64.wrap ((m : Int) * (hd : Nat)) = (tabF m : Nat) := by
    have e : (m : Int) * (hd : Nat) = (tabF m : Nat) := by rw [← f2]; simp
    have := tab_small m h7
    rw [e, wrap64 (by omega) (by omega)]
  have hw1 : IntKind.i64.wrap ((m : Int) - 1) = ((m - 1 : Nat) : Int) := by rw [wrap64 (by omega) (by omega)]; omega
  have hpow : IntKind.i64.wrap (1 * 2 ^ min (m - 1) 64) = ((2 ^ (m - 1) : Nat) : Int) := by rw [pow_small (m - 1) (by omega)]; simp
  simp only [List.getD_cons_zero, List.getD_cons_succ, z02, hix, zt', hmul, hw1, hpow, go_sem, Nat.reduceEqDiff, Nat.reduceAdd, Nat.reduceLT, Nat.reduceLeDiff, reduceIte, reduceCtorEq]
  refine ⟨⟨by omega, by omega⟩, ?_⟩
  have hp64 := pow_le m h7
  obtain ⟨N, hN⟩ : ∃ N, 2 ^ (m - 1) = N := ⟨_, rfl⟩
  have hcre : ∀ i : Nat, i < N → creOk (m : Int) (i : Int) = true := fun i hi => by
    have e : ((2 : Int) ^ ((m : Int) - 1).toNat) = (N : Nat) := by rw [show ((m : Int) - 1).toNat = m - 1 by omega, ← hN]; simp
    rw [creOk, hlo, e, decide_eq_true (show (0 : Int) ≤ i by omega), decide_eq_true (show (i : Int) < N by omega)]; rfl
  rw [hN] at hp64 f3 f4 ⊢
  refine W_loop (fun q : { i : Nat // i ≤ N } => ([(0, I m), (3, I (tabF m : Nat)), (7, I (((List.range q.1).map fun s : Nat => foldsN m s).sum : Nat)), (49, I N), (50, I q.1)], [])) (fun q => N - q.1)
    ⟨0, by omega⟩ [] (Wk.nil (by simp [fle, vle, Fr.get])) ?_
  rintro ⟨i, hi⟩
  dsimp only
  by_cases hil : i < N
  · have hz : decide ((i : Int) < N) = true := decide_eq_true (by omega)
    have hwk : IntKind.i64.wrap ((i : Int) + 1) = ((i + 1 : Nat) : Int) := by rw [wrap64 (by omega) (by omega)]; rfl
    have hsu : ((List.range (i + 1)).map fun s : Nat => foldsN m s).sum = ((List.range i).map fun s : Nat => foldsN m s).sum + foldsN m i := by
      rw [List.range_succ, List.map_append, List.sum_append]; simp
    have hle := sum_take (f := fun s : Nat => foldsN m s) (show i + 1 ≤ N by omega)
    have ht := tab_small m h7
    rw [f4] at hle
    have h1i := f3 i hil
    have h26 := s26 m i
    rw [if_pos (hcre i hil), Int.toNat_natCast] at h26
    have hz1 : decide (((foldsN m (i : Int) : Nat) : Int) < 1) = false := decide_eq_false (by omega)
    have hws : IntKind.i64.wrap ((((List.range i).map fun s : Nat => foldsN m s).sum : Nat) + (foldsN m (i : Int) : Nat)) = (((List.range (i + 1)).map fun s : Nat => foldsN m s).sum : Nat) := by rw [wrap64 (by omega) (by omega)]; omega
    simp only [w6L0, hz, go_sem, Nat.reduceEqDiff, Nat.reduceAdd, Nat.reduceLT, Nat.reduceLeDiff, reduceIte, reduceCtorEq]
    refine CallK.by (CallV.of_spec h26) fun v H' ⟨e1, e2⟩ => ?_
    subst e1 e2
    simp only [List.getD_cons_zero, List.getD_cons_succ, z02, hz1, hws, hwk, go_sem, Nat.reduceEqDiff, Nat.reduceAdd, Nat.reduceLT, Nat.reduceLeDiff, reduceIte, reduceCtorEq]
    refine round0 rfl ⟨i + 1, by omega⟩ (by dsimp only; omega) rfl ?_
    simp [fle, vle, Fr.get]
    omega
  · have hz : decide ((i : Int) < N) = false := decide_eq_false (by omega)
    obtain rfl : i = N := by omega
    rw [f4]
    by_cases h3 : m ≤ 3
    · have hz3 : decide ((m : Int) > 3) = false := decide_eq_false (by omega)
      have h27 := s27 m
      rw [decide_eq_true (show (1 : Int) ≤ m by omega), decide_eq_true (show (m : Int) ≤ 3 by omega), Bool.and_self, if_pos rfl, Int.toNat_natCast, maps_facts m h3 h1] at h27
      simp only [w6L0, hz, w6T1, zt', hz3, go_sem, Nat.reduceEqDiff, Nat.reduceAdd, Nat.reduceLT, Nat.reduceLeDiff, reduceIte, reduceCtorEq]
      refine CallK.by (CallV.of_spec h27) fun v H' ⟨e1, e2⟩ => ?_
      subst e1 e2
      have hix2 := tabM_get m h3
      have z00' : ((0 : Int) == 0) = true := rfl
      have zm : (((tabM m : Nat) : Int) == (tabM m : Nat)) = true := beq_self_eq_true _
      simp only [List.getD_cons_zero, List.getD_cons_succ, z00', hix2, zm, go_sem, Nat.reduceEqDiff, Nat.reduceAdd, Nat.reduceLT, Nat.reduceLeDiff, reduceIte, reduceCtorEq]
      refine ⟨⟨by omega, by omega⟩, ?_⟩
      refine CallK.pure (e18 _) ?_
      simp only [go_sem, Nat.reduceEqDiff, Nat.reduceAdd, Nat.reduceLT, Nat.reduceLeDiff, reduceIte, reduceCtorEq]
      exact leaf (B true) rfl ⟨rfl, rfl⟩
    · have hz3 : decide ((m : Int) > 3) = true := decide_eq_true (by omega)
      simp only [w6L0, hz, w6T1, zt', hz3, go_sem, Nat.reduceEqDiff, Nat.reduceAdd, Nat.reduceLT, Nat.reduceLeDiff, reduceIte, reduceCtorEq]
      refine CallK.pure (e18 _) ?_
      simp only [go_sem, Nat.reduceEqDiff, Nat.reduceAdd, Nat.reduceLT, Nat.reduceLeDiff, reduceIte, reduceCtorEq]
      exact leaf (B true) rfl ⟨rfl, rfl⟩
end Go.Proofs.Ythdjloegibenoaa
