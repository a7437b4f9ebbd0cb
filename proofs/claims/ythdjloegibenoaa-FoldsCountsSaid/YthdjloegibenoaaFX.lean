/- The statement FoldsMaps. -/
import Derived.Test.YthdjloegibenoaaFW
namespace Go.Proofs.Ythdjloegibenoaa
open Go.Abs AVal
set_option linter.unusedSimpArgs false
attribute [local go_sem] W_skip W_keep KQ_canon canon Fr.norm W_seq W_block W_exit W_ret W_ops W_draw KQ_nil KQ_norm_seq KQ_exit_seq KQ_ret_seq KQ_norm_block KQ_ret_block KQ_exit_block KQ_exit_loop KQ_ret_loop O_nil O_cons S_call S_mv SE_mv SD_mv S_pick SE_pick SD_pick S_bin SE_bin SD_bin S_eqb SE_eqb SD_eqb S_eqv SE_eqv SD_eqv S_eqnil SE_eqnil SD_eqnil S_un SE_un SD_un S_conv SE_conv SD_conv S_mkfn SE_mkfn SD_mkfn S_load SE_load SD_load S_nilck SE_nilck SD_nilck S_slS SE_slS SD_slS S_slP SE_slP SD_slP S_fldA SE_fldA SD_fldA S_fld SE_fld SD_fld S_ixS SE_ixS SD_ixS S_ixP SE_ixP SD_ixP S_ixV SE_ixV SD_ixV S_ixStr SE_ixStr SD_ixStr S_ext SE_ext SD_ext S_len SE_len SD_len S_lenStr SE_lenStr SD_lenStr S_lenc SE_lenc SD_lenc S_mn SE_mn SD_mn S_mx SE_mx SD_mx S_build SE_build SD_build S_alloc SD_alloc S_box SD_box S_bslice SD_bslice S_mksl SD_mksl S_store SD_store S_append SD_append S_copy SD_copy S_clr SD_clr aq_some aa_some al_some aqd_some aad_some ald_some ape_some D_done D_both D_early D_step SE_call SD_call IOpd.ev Fr.get Fr.put Fr.putd entryFr pickA binA binI isSh shI eqbA eqvA ints ints_mI Option.map_some eqnilA unA convA loadA nilckA intA slSA slPA fldAA fldVA ixSA ixPA ixVA ixStrA extA lenA lenStrA mnA mxA AVal.fits fillA fillOk buildA opa srcA appA stoA copA clrA rdFree zeros List.length_nil List.length_cons List.length_map List.map_cons List.map_nil Option.map_some Option.map_none if_true if_false ite_true ite_false true_and and_true and_self implies_true forall_const true_implies Bool.false_eq_true Bool.not_true Bool.not_false decide_eq_true_eq decide_eq_false_iff_not eq_self List.getElem?_cons_zero List.getElem?_cons_succ List.getElem?_nil List.set_cons_zero List.set_cons_succ List.nil_append List.cons_append List.append_nil List.replicate_zero List.replicate_succ Nat.zero_add false_implies rng_lt rng_end rng_get cells_I cells_B cells_sl cut_one Int.toNat_natCast Int.natCast_nonneg List.headD_cons Int.lt_irrefl not_false_eq_true decide_false decide_true mI_length mI_cells mI_sz mI_isCell mI_mid mI_append mI_take mI_drop cells_val cells_own cells_agg isCell_I isCell_B isCell_nil isCell_sl isCell_own isCell_ptr isCell_fn isCell_rp isCell_yld cellsOk_I cellsOk_B cellsOk_nil cellsOk_sl cellsOk_own cellsOk_ptr cellsOk_fn cellsOk_rp cellsOk_yld cellsOk_agg cells_nil cells_ptr cells_fn cells_rp List.all_cons List.all_nil Bool.and_true Nat.mul_one Nat.zero_mul Nat.one_mul List.take_zero List.take_nil List.drop_nil List.drop_zero List.not_mem_nil Nat.le_refl Nat.zero_le mS_length mS_cells mS_sz mS_isCell mS_mid mS_append mS_take mS_drop cells_sI isCell_sI cellsOk_sI sI_eq succ_le_self' List.take_succ_cons List.drop_succ_cons List.take_length beq_self_eq_true List.mem_cons or_false forall_eq mI_put mI_rep O_guard' D_earlyG' D_stepG' W_cond' G_tt G_tf G_ft G_ff GE_tt GE_tf GE_ft GE_ff GS_tt GS_tf GS_ft GS_ff G_u GE_u GS_u IC_t IC_f xft xff xtt xtf z00 z20 z22 z02 zz tn0

theorem order_eq {D : List Int} {m : Nat} (h1 : 1 ≤ m) (h4 : m ≤ 4) : Sp.isOrder (D.take 11) (2 * m) = (decide (D.length = 2 * m) && Sp.pileR D 8) := by
  by_cases hl : D.length = 2 * m
  · rw [List.take_of_length_le (by omega), decide_eq_true hl, Bool.true_and, show Sp.pileR D 8 = Sp.pileR D ((8 : Nat) : Int) from rfl, Sp.pileR_eq (m := 8) (by omega), decide_eq_true (show 1 ≤ D.length by omega), decide_eq_true (show D.length ≤ 8 by omega), Bool.true_and, Bool.true_and, hl]; rfl
  · rw [decide_eq_false hl, Bool.false_and, ← Bool.not_eq_true]
    intro h
    have := (Sp.order_rng h).1
    simp at this; omega

set_option maxRecDepth 20000 in
set_option maxHeartbeats 2000000 in
theorem s9 (n : Int) (D : List Int) (hl : D.length < 9223372036854775808) : Abs.Spec Try.prog 9 [I n, .sl false false (mI D)] [] fun v H' => H' = [] ∧ v = B true := by
  have e18 : ∀ H, CallV Try.prog (.fn (.func 18) [] []) [] H fun v H' => v = B true ∧ H' = H := fun H => liftV s18 rfl rfl H
  have hl11 : (D.take 11).length < 9223372036854775808 := by simp; omega
  have z22 : ((2 : Int) != 2) = false := rfl
  have z23 : ((2 : Int) == 2) = true := rfl
  have z02 : ((0 : Int) != 0) = false := rfl
  refine Abs.Spec.walk mixed fn9 nn9 t9 q9 nt9 (by simp) ?_
  simp only [w9, go_sem, Nat.reduceEqDiff, Nat.reduceAdd, Nat.reduceLT, Nat.reduceLeDiff, reduceIte, reduceCtorEq]
  refine CallK.by (CallV.of_spec (s16 false false D hl)) fun v H' ⟨h1, h2⟩ => ?_
  subst h1 h2
  simp only [go_sem, Nat.reduceEqDiff, Nat.reduceAdd, Nat.reduceLT, Nat.reduceLeDiff, reduceIte, reduceCtorEq]
  refine CallK.by (CallV.of_spec (s22 false false (D.take 11) n hl11)) fun v H' ⟨h1, h2⟩ => ?_
  subst h1 h2
  by_cases h1 : 1 ≤ n
  · have z1 : decide (n < 1) = false := decide_eq_false (by omega)
    by_cases h4 : n ≤ 4
    · have z4 : decide (n > 4) = false := decide_eq_false (by omega)
      obtain ⟨m, rfl⟩ : ∃ m : Nat, n = m := ⟨n.toNat, by omega⟩
      have hw : IntKind.i64.wrap (2 * (m : Int)) = 2 * (m : Int) := wrap64 (by omega) (by omega)
      have ho := order_eq (D := D) (m := m) (by omega) (by omega)
      have zl : (((D.length : Nat) : Int) != 2 * (m : Int)) = !decide (D.length = 2 * m) := by rw [bne, Bool.beq_eq_decide_eq, ← decide_not, ← decide_not, decide_eq_decide]; omega
      rw [decide_eq_true h1, decide_eq_true h4, Bool.and_self, Bool.true_and, ho]
      obtain ⟨bl, hbl⟩ : ∃ bl, decide (D.length = 2 * m) = bl := ⟨_, rfl⟩
      obtain ⟨bp, hbp⟩ : ∃ bp, Sp.pileR D 8 = bp := ⟨_, rfl⟩
      rw [hbl] at zl
      rw [hbl, hbp] at ho ⊢
      by_cases h3 : m ≤ 3
      · have z3 : decide ((m : Int) > 3) = false := decide_eq_false (by omega)
        have z5 : (decide ((1 : Int) ≤ m) && decide ((m : Int) ≤ 3)) = true := by rw [decide_eq_true h1, decide_eq_true (show (m : Int) ≤ 3 by omega)]; rfl
        cases bl with
        | false =>
          rw [Bool.false_and, if_neg (by simp)]
          simp only [List.getD_cons_zero, List.getD_cons_succ, go_sem, Nat.reduceEqDiff, Nat.reduceAdd, Nat.reduceLT, Nat.reduceLeDiff, reduceIte, reduceCtorEq]
          refine CallK.by (CallV.of_spec (s27 m)) fun v H' ⟨h1, h2⟩ => ?_
          subst h1 h2
          rw [z5]
          rw [if_pos rfl, Int.toNat_natCast, maps_eq h3]
          simp only [List.getD_cons_zero, List.getD_cons_succ, z1, z3, go_sem, Nat.reduceEqDiff, Nat.reduceAdd, Nat.reduceLT, Nat.reduceLeDiff, reduceIte, reduceCtorEq]
          refine CallK.by (CallV.of_spec (s36 (n := m) (by omega) h3)) fun v H' ⟨h1, h2⟩ => ?_
          subst h1 h2
          have z6 : (((mapsN (Sp.planR m) m : Nat) : Int) != (mapsN (Sp.planR m) m : Nat)) = false := bne_self_eq_false _
          simp only [z6, z02, z1, z4, hw, mI_length, zl, z23, go_sem, Nat.reduceEqDiff, Nat.reduceAdd, Nat.reduceLT, Nat.reduceLeDiff, reduceIte, reduceCtorEq]
          refine CallK.pure (e18 _) ?_
          simp only [go_sem, Nat.reduceEqDiff, Nat.reduceAdd, Nat.reduceLT, Nat.reduceLeDiff, reduceIte, reduceCtorEq]
          exact leaf (B true) rfl ⟨rfl, rfl⟩
        | true =>
          have hDl : D.length = 2 * m := by simpa using hbl
          cases bp with
          | false =>
            rw [Bool.and_false, if_neg (by simp)]
            simp only [List.getD_cons_zero, List.getD_cons_succ, go_sem, Nat.reduceEqDiff, Nat.reduceAdd, Nat.reduceLT, Nat.reduceLeDiff, reduceIte, reduceCtorEq]
            refine CallK.by (CallV.of_spec (s27 m)) fun v H' ⟨h1, h2⟩ => ?_
            subst h1 h2
            rw [z5]
            rw [if_pos rfl, Int.toNat_natCast, maps_eq h3]
            simp only [List.getD_cons_zero, List.getD_cons_succ, z1, z3, go_sem, Nat.reduceEqDiff, Nat.reduceAdd, Nat.reduceLT, Nat.reduceLeDiff, reduceIte, reduceCtorEq]
            refine CallK.by (CallV.of_spec (s36 (n := m) (by omega) h3)) fun v H' ⟨h1, h2⟩ => ?_
            subst h1 h2
            have z6 : (((mapsN (Sp.planR m) m : Nat) : Int) != (mapsN (Sp.planR m) m : Nat)) = false := bne_self_eq_false _
            simp only [z6, z02, z1, z4, hw, mI_length, zl, go_sem, Nat.reduceEqDiff, Nat.reduceAdd, Nat.reduceLT, Nat.reduceLeDiff, reduceIte, reduceCtorEq]
            refine CallK.by (CallV.of_spec (s23 false false D 8 hl)) fun v H' ⟨h1, h2⟩ => ?_
            subst h1 h2
            rw [hbp]
            simp only [z23, go_sem, Nat.reduceEqDiff, Nat.reduceAdd, Nat.reduceLT, Nat.reduceLeDiff, reduceIte, reduceCtorEq]
            refine CallK.pure (e18 _) ?_
            simp only [go_sem, Nat.reduceEqDiff, Nat.reduceAdd, Nat.reduceLT, Nat.reduceLeDiff, reduceIte, reduceCtorEq]
            exact leaf (B true) rfl ⟨rfl, rfl⟩
          | true =>
            rw [Bool.and_self, if_pos rfl, List.take_of_length_le (by omega), Int.toNat_natCast]
            have hoo : Sp.isOrder D ((2 * m : Nat) : Int) = true := by
              rw [List.take_of_length_le (by omega)] at ho; exact ho
            have hpile : Sp.Pile (2 * m) D := Sp.order_pile (by omega) hoo
            rw [Sp.poss_map (by omega) hpile]
            simp only [List.getD_cons_zero, List.getD_cons_succ, go_sem, Nat.reduceEqDiff, Nat.reduceAdd, Nat.reduceLT, Nat.reduceLeDiff, reduceIte, reduceCtorEq]
            refine CallK.by (CallV.of_spec (s27 m)) fun v H' ⟨h1, h2⟩ => ?_
            subst h1 h2
            rw [z5]
            rw [if_pos rfl, Int.toNat_natCast, maps_eq h3]
            simp only [List.getD_cons_zero, List.getD_cons_succ, z1, z3, go_sem, Nat.reduceEqDiff, Nat.reduceAdd, Nat.reduceLT, Nat.reduceLeDiff, reduceIte, reduceCtorEq]
            refine CallK.by (CallV.of_spec (s36 (n := m) (by omega) h3)) fun v H' ⟨h1, h2⟩ => ?_
            subst h1 h2
            have z6 : (((mapsN (Sp.planR m) m : Nat) : Int) != (mapsN (Sp.planR m) m : Nat)) = false := bne_self_eq_false _
            simp only [z6, z02, z1, z4, hw, mI_length, zl, go_sem, Nat.reduceEqDiff, Nat.reduceAdd, Nat.reduceLT, Nat.reduceLeDiff, reduceIte, reduceCtorEq]
            refine CallK.by (CallV.of_spec (s23 false false D 8 hl)) fun v H' ⟨h1, h2⟩ => ?_
            subst h1 h2
            rw [hbp]
            simp only [go_sem, Nat.reduceEqDiff, Nat.reduceAdd, Nat.reduceLT, Nat.reduceLeDiff, reduceIte, reduceCtorEq]
            refine CallK.by (CallV.of_spec (s37 false false D (n := m) (by omega) (by omega) hDl (fun x hx => by have := hpile.rng x hx; omega))) fun v H' ⟨h1, h2⟩ => ?_
            subst h1 h2
            have z8 : (Sp.possP D (Sp.planR m) == Sp.possP D (Sp.planR m)) = true := beq_self_eq_true _
            have z9 : ((0 : Int) == 0) = true := rfl
            simp only [z8, z9, go_sem, Nat.reduceEqDiff, Nat.reduceAdd, Nat.reduceLT, Nat.reduceLeDiff, reduceIte, reduceCtorEq]
            refine CallK.pure (e18 _) ?_
            simp only [go_sem, Nat.reduceEqDiff, Nat.reduceAdd, Nat.reduceLT, Nat.reduceLeDiff, reduceIte, reduceCtorEq]
            exact leaf (B true) rfl ⟨rfl, rfl⟩
      · have z3 : decide ((m : Int) > 3) = true := decide_eq_true (by omega)
        have z5 : (decide ((1 : Int) ≤ m) && decide ((m : Int) ≤ 3)) = false := by rw [decide_eq_false (show ¬ (m : Int) ≤ 3 by omega), Bool.and_false]
        cases bl with
        | false =>
          rw [Bool.false_and, if_neg (by simp)]
          simp only [List.getD_cons_zero, List.getD_cons_succ, go_sem, Nat.reduceEqDiff, Nat.reduceAdd, Nat.reduceLT, Nat.reduceLeDiff, reduceIte, reduceCtorEq]
          refine CallK.by (CallV.of_spec (s27 m)) fun v H' ⟨h1, h2⟩ => ?_
          subst h1 h2
          rw [z5]
          simp only [List.getD_cons_zero, List.getD_cons_succ, z1, z3, z22, z02, z4, hw, mI_length, zl, z23, go_sem, Nat.reduceEqDiff, Nat.reduceAdd, Nat.reduceLT, Nat.reduceLeDiff, reduceIte, reduceCtorEq]
          refine CallK.pure (e18 _) ?_
          simp only [go_sem, Nat.reduceEqDiff, Nat.reduceAdd, Nat.reduceLT, Nat.reduceLeDiff, reduceIte, reduceCtorEq]
          exact leaf (B true) rfl ⟨rfl, rfl⟩
        | true =>
          have hDl : D.length = 2 * m := by simpa using hbl
          cases bp with
          | false =>
            rw [Bool.and_false, if_neg (by simp)]
            simp only [List.getD_cons_zero, List.getD_cons_succ, go_sem, Nat.reduceEqDiff, Nat.reduceAdd, Nat.reduceLT, Nat.reduceLeDiff, reduceIte, reduceCtorEq]
            refine CallK.by (CallV.of_spec (s27 m)) fun v H' ⟨h1, h2⟩ => ?_
            subst h1 h2
            rw [z5]
            simp only [List.getD_cons_zero, List.getD_cons_succ, z1, z3, z22, z02, z4, hw, mI_length, zl, go_sem, Nat.reduceEqDiff, Nat.reduceAdd, Nat.reduceLT, Nat.reduceLeDiff, reduceIte, reduceCtorEq]
            refine CallK.by (CallV.of_spec (s23 false false D 8 hl)) fun v H' ⟨h1, h2⟩ => ?_
            subst h1 h2
            rw [hbp]
            simp only [z23, go_sem, Nat.reduceEqDiff, Nat.reduceAdd, Nat.reduceLT, Nat.reduceLeDiff, reduceIte, reduceCtorEq]
            refine CallK.pure (e18 _) ?_
            simp only [go_sem, Nat.reduceEqDiff, Nat.reduceAdd, Nat.reduceLT, Nat.reduceLeDiff, reduceIte, reduceCtorEq]
            exact leaf (B true) rfl ⟨rfl, rfl⟩
          | true =>
            rw [Bool.and_self, if_pos rfl, List.take_of_length_le (by omega), Int.toNat_natCast]
            have hoo : Sp.isOrder D ((2 * m : Nat) : Int) = true := by
              rw [List.take_of_length_le (by omega)] at ho; exact ho
            have hpile : Sp.Pile (2 * m) D := Sp.order_pile (by omega) hoo
            rw [Sp.poss_map (by omega) hpile]
            simp only [List.getD_cons_zero, List.getD_cons_succ, go_sem, Nat.reduceEqDiff, Nat.reduceAdd, Nat.reduceLT, Nat.reduceLeDiff, reduceIte, reduceCtorEq]
            refine CallK.by (CallV.of_spec (s27 m)) fun v H' ⟨h1, h2⟩ => ?_
            subst h1 h2
            rw [z5]
            simp only [List.getD_cons_zero, List.getD_cons_succ, z1, z3, z22, z02, z4, hw, mI_length, zl, go_sem, Nat.reduceEqDiff, Nat.reduceAdd, Nat.reduceLT, Nat.reduceLeDiff, reduceIte, reduceCtorEq]
            refine CallK.by (CallV.of_spec (s23 false false D 8 hl)) fun v H' ⟨h1, h2⟩ => ?_
            subst h1 h2
            rw [hbp]
            simp only [go_sem, Nat.reduceEqDiff, Nat.reduceAdd, Nat.reduceLT, Nat.reduceLeDiff, reduceIte, reduceCtorEq]
            refine CallK.by (CallV.of_spec (s37 false false D (n := m) (by omega) (by omega) hDl (fun x hx => by have := hpile.rng x hx; omega))) fun v H' ⟨h1, h2⟩ => ?_
            subst h1 h2
            have z8 : (Sp.possP D (Sp.planR m) == Sp.possP D (Sp.planR m)) = true := beq_self_eq_true _
            have z9 : ((0 : Int) == 0) = true := rfl
            simp only [z8, z9, go_sem, Nat.reduceEqDiff, Nat.reduceAdd, Nat.reduceLT, Nat.reduceLeDiff, reduceIte, reduceCtorEq]
            refine CallK.pure (e18 _) ?_
            simp only [go_sem, Nat.reduceEqDiff, Nat.reduceAdd, Nat.reduceLT, Nat.reduceLeDiff, reduceIte, reduceCtorEq]
            exact leaf (B true) rfl ⟨rfl, rfl⟩
    · have z4 : decide (n > 4) = true := decide_eq_true (by omega)
      have z3 : decide (n > 3) = true := decide_eq_true (by omega)
      rw [decide_eq_false h4, Bool.and_false, Bool.false_and]
      simp only [List.getD_cons_zero, List.getD_cons_succ, go_sem, Nat.reduceEqDiff, Nat.reduceAdd, Nat.reduceLT, Nat.reduceLeDiff, reduceIte, reduceCtorEq]
      refine CallK.by (CallV.of_spec (s27 n)) fun v H' ⟨h1, h2⟩ => ?_
      subst h1 h2
      rw [show (decide (1 ≤ n) && decide (n ≤ 3)) = false by rw [decide_eq_false (show ¬ n ≤ 3 by omega), Bool.and_false]]
      simp only [List.getD_cons_zero, List.getD_cons_succ, z1, z3, z4, z22, z23, z02, go_sem, Nat.reduceEqDiff, Nat.reduceAdd, Nat.reduceLT, Nat.reduceLeDiff, reduceIte, reduceCtorEq]
      refine CallK.pure (e18 _) ?_
      simp only [go_sem, Nat.reduceEqDiff, Nat.reduceAdd, Nat.reduceLT, Nat.reduceLeDiff, reduceIte, reduceCtorEq]
      exact leaf (B true) rfl ⟨rfl, rfl⟩
  · have z1 : decide (n < 1) = true := decide_eq_true (by omega)
    rw [decide_eq_false h1, Bool.false_and, Bool.false_and]
    simp only [List.getD_cons_zero, List.getD_cons_succ, go_sem, Nat.reduceEqDiff, Nat.reduceAdd, Nat.reduceLT, Nat.reduceLeDiff, reduceIte, reduceCtorEq]
    refine CallK.by (CallV.of_spec (s27 n)) fun v H' ⟨h1, h2⟩ => ?_
    subst h1 h2
    rw [show (decide (1 ≤ n) && decide (n ≤ 3)) = false by rw [decide_eq_false h1, Bool.false_and]]
    simp only [List.getD_cons_zero, List.getD_cons_succ, z1, z22, z23, z02, go_sem, Nat.reduceEqDiff, Nat.reduceAdd, Nat.reduceLT, Nat.reduceLeDiff, reduceIte, reduceCtorEq]
    refine CallK.pure (e18 _) ?_
    simp only [go_sem, Nat.reduceEqDiff, Nat.reduceAdd, Nat.reduceLT, Nat.reduceLeDiff, reduceIte, reduceCtorEq]
    exact leaf (B true) rfl ⟨rfl, rfl⟩
end Go.Proofs.Ythdjloegibenoaa
