/- The statement FoldsRows. -/
import Derived.Test.YthdjloegibenoaaFY
namespace Go.Proofs.Ythdjloegibenoaa
open Go.Abs AVal
set_option linter.unusedSimpArgs false
attribute [local go_sem] W_skip W_keep KQ_canon canon Fr.norm W_seq W_block W_exit W_ret W_ops W_draw KQ_nil KQ_norm_seq KQ_exit_seq KQ_ret_seq KQ_norm_block KQ_ret_block KQ_exit_block KQ_exit_loop KQ_ret_loop O_nil O_cons S_call S_mv SE_mv SD_mv S_pick SE_pick SD_pick S_bin SE_bin SD_bin S_eqb SE_eqb SD_eqb S_eqv SE_eqv SD_eqv S_eqnil SE_eqnil SD_eqnil S_un SE_un SD_un S_conv SE_conv SD_conv S_mkfn SE_mkfn SD_mkfn S_load SE_load SD_load S_nilck SE_nilck SD_nilck S_slS SE_slS SD_slS S_slP SE_slP SD_slP S_fldA SE_fldA SD_fldA S_fld SE_fld SD_fld S_ixS SE_ixS SD_ixS S_ixP SE_ixP SD_ixP S_ixV SE_ixV SD_ixV S_ixStr SE_ixStr SD_ixStr S_ext SE_ext SD_ext S_len SE_len SD_len S_lenStr SE_lenStr SD_lenStr S_lenc SE_lenc SD_lenc S_mn SE_mn SD_mn S_mx SE_mx SD_mx S_build SE_build SD_build S_alloc SD_alloc S_box SD_box S_bslice SD_bslice S_mksl SD_mksl S_store SD_store S_append SD_append S_copy SD_copy S_clr SD_clr aq_some aa_some al_some aqd_some aad_some ald_some ape_some D_done D_both D_early D_step SE_call SD_call IOpd.ev Fr.get Fr.put Fr.putd entryFr pickA binA binI isSh shI eqbA eqvA ints ints_mI Option.map_some eqnilA unA convA loadA nilckA intA slSA slPA fldAA fldVA ixSA ixPA ixVA ixStrA extA lenA lenStrA mnA mxA AVal.fits fillA fillOk buildA opa srcA appA stoA copA clrA rdFree zeros List.length_nil List.length_cons List.length_map List.map_cons List.map_nil Option.map_some Option.map_none if_true if_false ite_true ite_false true_and and_true and_self implies_true forall_const true_implies Bool.false_eq_true Bool.not_true Bool.not_false decide_eq_true_eq decide_eq_false_iff_not eq_self List.getElem?_cons_zero List.getElem?_cons_succ List.getElem?_nil List.set_cons_zero List.set_cons_succ List.nil_append List.cons_append List.append_nil List.replicate_zero List.replicate_succ Nat.zero_add false_implies rng_lt rng_end rng_get cells_I cells_B cells_sl cut_one Int.toNat_natCast Int.natCast_nonneg List.headD_cons Int.lt_irrefl not_false_eq_true decide_false decide_true mI_length mI_cells mI_sz mI_isCell mI_mid mI_append mI_take mI_drop cells_val cells_own cells_agg isCell_I isCell_B isCell_nil isCell_sl isCell_own isCell_ptr isCell_fn isCell_rp isCell_yld cellsOk_I cellsOk_B cellsOk_nil cellsOk_sl cellsOk_own cellsOk_ptr cellsOk_fn cellsOk_rp cellsOk_yld cellsOk_agg cells_nil cells_ptr cells_fn cells_rp List.all_cons List.all_nil Bool.and_true Nat.mul_one Nat.zero_mul Nat.one_mul List.take_zero List.take_nil List.drop_nil List.drop_zero List.not_mem_nil Nat.le_refl Nat.zero_le mS_length mS_cells mS_sz mS_isCell mS_mid mS_append mS_take mS_drop cells_sI isCell_sI cellsOk_sI sI_eq succ_le_self' List.take_succ_cons List.drop_succ_cons List.take_length beq_self_eq_true List.mem_cons or_false forall_eq mI_put mI_rep O_guard' D_earlyG' D_stepG' W_cond' G_tt G_tf G_ft G_ff GE_tt GE_tf GE_ft GE_ff GS_tt GS_tf GS_ft GS_ff G_u GE_u GS_u IC_t IC_f xft xff xtt xtf z00 z20 z22 z02 zz tn0

theorem part_snoc {q : Int → Bool} {g : Int → Int} {D : List Int} {x : Int} : Sp.partL q g (D ++ [x]) = Sp.partL q g D ++ (if q x then [g x] else []) := by
  rw [Sp.partL, Sp.partL, List.filter_append, List.map_append]
  congr 1
  cases h : q x <;> simp [h]
theorem part_len {q : Int → Bool} {g : Int → Int} {D : List Int} : (Sp.partL q g D).length ≤ D.length := by
  rw [Sp.partL, List.length_map]; exact List.length_filter_le _ _

/-- Two slices in cells, and a third one. -/
theorem wk4 {fr fr' : Fr} {H : AHeap} {x y z : Nat} {a b l : List Int} (h0 : H[0]? = some (.cells [.own x 0 a.length a.length 1, .own y 0 b.length b.length 1])) (h1 : H[x]? = some (.cells (mI a))) (h2 : H[y]? = some (.cells (mI b))) (h3 : H[z]? = some (.cells (mI l))) (nd : [0, x, y, z].Nodup)
    (hf : fle H [some 0, some x, some y, some z] [0, x, y, z] fr fr') : Wk 0 [] [some 0, some x, some y, some z] fr H fr' [.cells [.own 1 0 a.length a.length 1, .own 2 0 b.length b.length 1], .cells (mI a), .cells (mI b), .cells (mI l)] := by
  refine Wk.mk0 rfl nd ?_ hf
  simp only [hle, List.getElem?_cons_zero, List.getElem?_cons_succ, Option.join_some, h0, h1, h2, h3]
  exact ⟨.inr ⟨⟨by simp, rfl, rfl, rfl, Nat.le_refl _, rfl⟩, ⟨by simp, rfl, rfl, rfl, Nat.le_refl _, rfl⟩, trivial⟩, .inl ⟨rfl, mI_bnd⟩, .inl ⟨rfl, mI_bnd⟩, .inl ⟨rfl, mI_bnd⟩, trivial⟩

set_option maxRecDepth 20000 in
set_option maxHeartbeats 2000000 in
theorem s5 (n : Int) (D : List Int) (hl : D.length < 9223372036854775808) : Abs.Spec Try.prog 5 [I n, .sl false false (mI D)] [] fun v H' => H' = [] ∧ v = B true := by
  have e18 : ∀ H, CallV Try.prog (.fn (.func 18) [] []) [] H fun v H' => v = B true ∧ H' = H := fun H => liftV s18 rfl rfl H
  have hl11 : (D.take 11).length < 9223372036854775808 := by simp; omega
  have z22 : ((2 : Int) != 0) = true := rfl
  have z23 : ((2 : Int) == 2) = true := rfl
  have z02 : ((0 : Int) != 0) = false := rfl
  have z_00 : ((0 : Nat) == 0) = true := rfl
  have z_01 : ((0 : Nat) == 1) = false := rfl
  have z_10 : ((1 : Nat) == 0) = false := rfl
  have z_11 : ((1 : Nat) == 1) = true := rfl
  refine Abs.Spec.walk mixed fn5 nn5 t5 q5 nt5 (by simp) ?_
  simp only [w5, go_sem, Nat.reduceEqDiff, Nat.reduceAdd, Nat.reduceLT, Nat.reduceLeDiff, reduceIte, reduceCtorEq]
  refine CallK.by (CallV.of_spec (s16 false false D hl)) fun v H' ⟨h1, h2⟩ => ?_
  subst h1 h2
  simp only [go_sem, Nat.reduceEqDiff, Nat.reduceAdd, Nat.reduceLT, Nat.reduceLeDiff, reduceIte, reduceCtorEq]
  refine CallK.by (CallV.of_spec (s22 false false (D.take 11) n hl11)) fun v H' ⟨h1, h2⟩ => ?_
  subst h1 h2
  cases hok : (decide (1 ≤ n) && decide (n ≤ 4) && Sp.isOrder (D.take 11) (2 * n)) with
  | false =>
    rw [if_neg (by simp)]
    simp only [List.getD_cons_zero, List.getD_cons_succ, z22, z23, go_sem, Nat.reduceEqDiff, Nat.reduceAdd, Nat.reduceLT, Nat.reduceLeDiff, reduceIte, reduceCtorEq]
    refine CallK.pure (e18 _) ?_
    simp only [go_sem, Nat.reduceEqDiff, Nat.reduceAdd, Nat.reduceLT, Nat.reduceLeDiff, reduceIte, reduceCtorEq]
    exact leaf (B true) rfl ⟨rfl, rfl⟩
  | true =>
    rw [if_pos rfl]
    simp only [Bool.and_eq_true, decide_eq_true_eq] at hok
    obtain ⟨⟨h1, h4⟩, ho⟩ := hok
    obtain ⟨m, rfl⟩ : ∃ m : Nat, n = m := ⟨n.toNat, by omega⟩
    have ho' := order_eq (D := D) (m := m) (by omega) (by omega)
    rw [ho'] at ho
    simp only [Bool.and_eq_true, decide_eq_true_eq] at ho
    obtain ⟨hDl, hbp⟩ := ho
    have z1 : decide ((m : Int) < 1) = false := decide_eq_false (by omega)
    have z4 : decide ((m : Int) > 4) = false := decide_eq_false (by omega)
    have hw : IntKind.i64.wrap (2 * (m : Int)) = 2 * (m : Int) := wrap64 (by omega) (by omega)
    have zl : (((D.length : Nat) : Int) != 2 * (m : Int)) = false := by rw [bne_eq_false_iff_eq]; omega
    have hoo : Sp.isOrder D ((2 * m : Nat) : Int) = true := by
      rw [hDl, hbp, decide_eq_true rfl, List.take_of_length_le (by omega)] at ho'; exact ho'
    have hpile : Sp.Pile (2 * m) D := Sp.order_pile (by omega) hoo
    rw [List.take_of_length_le (by omega), Int.toNat_natCast]
    simp only [List.getD_cons_zero, List.getD_cons_succ, z02, z1, z4, hw, mI_length, zl, go_sem, Nat.reduceEqDiff, Nat.reduceAdd, Nat.reduceLT, Nat.reduceLeDiff, reduceIte, reduceCtorEq]
    refine CallK.by (CallV.of_spec (s23 false false D 8 hl)) fun v H' ⟨h1, h2⟩ => ?_
    subst h1 h2
    rw [hbp]
    cases hq : Sp.possP D (Sp.planP m) with
    | false =>
      simp only [go_sem, Nat.reduceEqDiff, Nat.reduceAdd, Nat.reduceLT, Nat.reduceLeDiff, reduceIte, reduceCtorEq]
      refine CallK.pure (e18 _) ?_
      simp only [go_sem, Nat.reduceEqDiff, Nat.reduceAdd, Nat.reduceLT, Nat.reduceLeDiff, reduceIte, reduceCtorEq]
      exact leaf (B true) rfl ⟨rfl, rfl⟩
    | true =>
      simp only [mI_length, go_sem, Nat.reduceEqDiff, Nat.reduceAdd, Nat.reduceLT, Nat.reduceLeDiff, reduceIte, reduceCtorEq]
      refine W_loop (fun q : { i : Nat // i ≤ D.length } => ([(0, I m), (7, .ptr 0 0), (8, .own 3 0 (Sp.lessL m (D.take q.1)).length (Sp.lessL m (D.take q.1)).length 1), (53, .sl false false (mI D)), (54, I D.length), (55, I q.1)],
          [.cells [.own 1 0 (Sp.rowL m 0 (D.take q.1)).length (Sp.rowL m 0 (D.take q.1)).length 1, .own 2 0 (Sp.rowL m 1 (D.take q.1)).length (Sp.rowL m 1 (D.take q.1)).length 1], .cells (mI (Sp.rowL m 0 (D.take q.1))), .cells (mI (Sp.rowL m 1 (D.take q.1))), .cells (mI (Sp.lessL m (D.take q.1)))])) (fun q => D.length - q.1)
        ⟨0, by omega⟩ [some 0, none, none, none] (Wk.mk0 rfl (by simp [imgs, Blk.alive]) (by simp [hle, csle, vle, vle.vleL, mI, Sp.rowL, Sp.lessL, Sp.partL]) (by simp [fle, vle, Fr.get, mI_bnd, Sp.lessL, Sp.partL])) ?_
      rintro ⟨i, hi⟩
      dsimp only
      by_cases hil : i < D.length
      · have hz : decide ((i : Int) < D.length) = true := decide_eq_true (by omega)
        have hil' : (i : Int) < D.length := by omega
        have hwk : IntKind.i64.wrap ((i : Int) + 1) = ((i + 1 : Nat) : Int) := by rw [wrap64 (by omega) (by omega)]; rfl
        obtain ⟨y, hy⟩ : ∃ y, D.getD i 0 = y := ⟨_, rfl⟩
        have hy' : D[i] = y := by rw [← hy, List.getD_eq_getElem?_getD, List.getElem?_eq_getElem hil]; rfl
        have hyr := hpile.rng y (by rw [← hy']; exact List.getElem_mem _)
        obtain ⟨c, rfl⟩ : ∃ c : Nat, y = c := ⟨y.toNat, by omega⟩
        have htk : D.take (i + 1) = D.take i ++ [(c : Int)] := by rw [List.take_add_one, List.getElem?_eq_getElem hil, hy']; rfl
        obtain ⟨d1, d2, d3⟩ := Sp.row_back m (by omega) (by omega) c (by omega)
        have hdv : (c : Int).tdiv (m : Int) = ((c / m : Nat) : Int) := (Int.ofNat_tdiv c m).symm
        have hmd : (c : Int).tmod (m : Int) = ((c % m : Nat) : Int) := (Int.ofNat_tmod c m).symm
        have hm0 : ((m : Int) ≠ 0) := by omega
        have hA := part_len (q := fun x => x.toNat / m == 0) (g := fun x => ((x.toNat % m : Nat) : Int)) (D := D.take i)
        have hB := part_len (q := fun x => x.toNat / m == 1) (g := fun x => ((x.toNat % m : Nat) : Int)) (D := D.take i)
        have hC := part_len (q := fun x => decide (x.toNat % m < m - 1)) (g := fun x => ((x.toNat / m * (m - 1) + x.toNat % m : Nat) : Int)) (D := D.take i)
        have eA : Sp.rowL m 0 (D.take (i + 1)) = Sp.rowL m 0 (D.take i) ++ (if c / m == 0 then [((c % m : Nat) : Int)] else []) := by rw [htk]; exact part_snoc
        have eB : Sp.rowL m 1 (D.take (i + 1)) = Sp.rowL m 1 (D.take i) ++ (if c / m == 1 then [((c % m : Nat) : Int)] else []) := by rw [htk]; exact part_snoc
        have eC : Sp.lessL m (D.take (i + 1)) = Sp.lessL m (D.take i) ++ (if decide (c % m < m - 1) then [((c / m * (m - 1) + c % m : Nat) : Int)] else []) := by rw [htk]; exact part_snoc
        obtain ⟨a, ha⟩ : ∃ a, Sp.rowL m 0 (D.take i) = a := ⟨_, rfl⟩
        obtain ⟨b, hb⟩ : ∃ b, Sp.rowL m 1 (D.take i) = b := ⟨_, rfl⟩
        obtain ⟨l, hll⟩ : ∃ l, Sp.lessL m (D.take i) = l := ⟨_, rfl⟩
        rw [ha] at eA; rw [hb] at eB; rw [hll] at eC
        have hA : a.length ≤ i := by rw [← ha]; exact Nat.le_trans hA (by simp; omega)
        have hB : b.length ≤ i := by rw [← hb]; exact Nat.le_trans hB (by simp; omega)
        have hC : l.length ≤ i := by rw [← hll]; exact Nat.le_trans hC (by simp; omega)
        have ta : (mI a).take a.length = mI a := List.take_of_length_le (by rw [mI_length]; exact Nat.le_refl _)
        have tb : (mI b).take b.length = mI b := List.take_of_length_le (by rw [mI_length]; exact Nat.le_refl _)
        have tl : (mI l).take l.length = mI l := List.take_of_length_le (by rw [mI_length]; exact Nat.le_refl _)
        have na : ¬ a.length + 1 ≤ a.length := by omega
        have nb : ¬ b.length + 1 ≤ b.length := by omega
        have nl : ¬ l.length + 1 ≤ l.length := by omega
        rw [ha, hb, hll]
        by_cases hr : c / m = 0
        · skip
          have hz2 : decide (((c % m : Nat) : Int) < (m : Int) - 1) = decide (c % m < m - 1) := by rw [decide_eq_decide]; omega
          have hw1 : IntKind.i64.wrap ((m : Int) - 1) = (m : Int) - 1 := wrap64 (by omega) (by omega)
          have hdv : (c : Int).tdiv (m : Int) = 0 := by rw [hdv, hr]; rfl
          rw [hr] at eA eB eC
          have w0 : IntKind.i64.wrap 0 = 0 := rfl
          have t0 : (0 : Int).toNat = 0 := rfl
          have hwm : IntKind.i64.wrap (0 * ((m : Int) - 1)) = 0 := by rw [wrap64 (by omega) (by omega)]; omega
          have hwp : IntKind.i64.wrap (0 + ((c % m : Nat) : Int)) = ((c % m : Nat) : Int) := by rw [wrap64 (by omega) (by omega)]; omega
          simp only [w5L0, hz, hil', mI_get, hil, hy, mI_hd, hdv, hmd, ta, tb, tl, na, nb, nl, hw1, hz2, w0, t0, go_sem, Nat.reduceEqDiff, Nat.reduceAdd, Nat.reduceLT, Nat.reduceLeDiff, reduceIte, reduceCtorEq]
          repeat (refine ⟨by omega, ?_⟩)
          refine IC.splitP (fun h => ?_) fun h => ?_
          · simp only [hdv, hmd, w0, hw1, hwm, hwp, tl, nl, hwk, mI_get, go_sem, Nat.reduceEqDiff, Nat.reduceAdd, Nat.reduceLT, Nat.reduceLeDiff, reduceIte, reduceCtorEq]
            repeat (refine ⟨by omega, ?_⟩)
            refine round1 rfl ⟨i + 1, by omega⟩ [some 0, some 5, some 2, some 7] (by dsimp only; omega) ?_
            dsimp only
            rw [eA, eB, eC, decide_eq_true h]
            simp only [Nat.zero_mul, Nat.zero_add, Nat.one_mul, z_00, z_01, z_10, z_11, if_true, if_false, Bool.false_eq_true, List.append_nil]
            refine wk4 (by simp) (by first | rfl | (simp only [← mI_snoc]; rfl)) (by first | rfl | (simp only [← mI_snoc]; rfl)) (by first | rfl | (simp only [← mI_snoc]; rfl)) (by decide) (by simp [fle, vle, Fr.get, mI_bnd])
          · simp only [hwk, go_sem, Nat.reduceEqDiff, Nat.reduceAdd, Nat.reduceLT, Nat.reduceLeDiff, reduceIte, reduceCtorEq]
            refine round1 rfl ⟨i + 1, by omega⟩ [some 0, some 5, some 2, some 3] (by dsimp only; omega) ?_
            dsimp only
            rw [eA, eB, eC, decide_eq_false h]
            simp only [Nat.zero_mul, Nat.zero_add, Nat.one_mul, z_00, z_01, z_10, z_11, if_true, if_false, Bool.false_eq_true, List.append_nil]
            refine wk4 (by simp) (by first | rfl | (simp only [← mI_snoc]; rfl)) (by first | rfl | (simp only [← mI_snoc]; rfl)) (by first | rfl | (simp only [← mI_snoc]; rfl)) (by decide) (by simp [fle, vle, Fr.get, mI_bnd])
        · have hr : c / m = 1 := Nat.le_antisymm (Nat.lt_succ_iff.1 d3) (Nat.pos_of_ne_zero hr)
          have hz2 : decide (((c % m : Nat) : Int) < (m : Int) - 1) = decide (c % m < m - 1) := by rw [decide_eq_decide]; omega
          have hw1 : IntKind.i64.wrap ((m : Int) - 1) = (m : Int) - 1 := wrap64 (by omega) (by omega)
          have hdv : (c : Int).tdiv (m : Int) = 1 := by rw [hdv, hr]; rfl
          rw [hr] at eA eB eC
          have w0 : IntKind.i64.wrap 1 = 1 := rfl
          have t0 : (1 : Int).toNat = 1 := rfl
          have hwm : IntKind.i64.wrap (1 * ((m : Int) - 1)) = ((m - 1 : Nat) : Int) := by rw [wrap64 (by omega) (by omega)]; omega
          have hwp : IntKind.i64.wrap (((m - 1 : Nat) : Int) + ((c % m : Nat) : Int)) = ((m - 1 + c % m : Nat) : Int) := by rw [wrap64 (by omega) (by omega)]; omega
          simp only [w5L0, hz, hil', mI_get, hil, hy, mI_hd, hdv, hmd, ta, tb, tl, na, nb, nl, hw1, hz2, w0, t0, go_sem, Nat.reduceEqDiff, Nat.reduceAdd, Nat.reduceLT, Nat.reduceLeDiff, reduceIte, reduceCtorEq]
          repeat (refine ⟨by omega, ?_⟩)
          refine IC.splitP (fun h => ?_) fun h => ?_
          · simp only [hdv, hmd, w0, hw1, hwm, hwp, tl, nl, hwk, mI_get, go_sem, Nat.reduceEqDiff, Nat.reduceAdd, Nat.reduceLT, Nat.reduceLeDiff, reduceIte, reduceCtorEq]
            repeat (refine ⟨by omega, ?_⟩)
            refine round1 rfl ⟨i + 1, by omega⟩ [some 0, some 1, some 5, some 7] (by dsimp only; omega) ?_
            dsimp only
            rw [eA, eB, eC, decide_eq_true h]
            simp only [Nat.zero_mul, Nat.zero_add, Nat.one_mul, z_00, z_01, z_10, z_11, if_true, if_false, Bool.false_eq_true, List.append_nil]
            refine wk4 (by simp) (by first | rfl | (simp only [← mI_snoc]; rfl)) (by first | rfl | (simp only [← mI_snoc]; rfl)) (by first | rfl | (simp only [← mI_snoc]; rfl)) (by decide) (by simp [fle, vle, Fr.get, mI_bnd])
          · simp only [hwk, go_sem, Nat.reduceEqDiff, Nat.reduceAdd, Nat.reduceLT, Nat.reduceLeDiff, reduceIte, reduceCtorEq]
            refine round1 rfl ⟨i + 1, by omega⟩ [some 0, some 1, some 5, some 3] (by dsimp only; omega) ?_
            dsimp only
            rw [eA, eB, eC, decide_eq_false h]
            simp only [Nat.zero_mul, Nat.zero_add, Nat.one_mul, z_00, z_01, z_10, z_11, if_true, if_false, Bool.false_eq_true, List.append_nil]
            refine wk4 (by simp) (by first | rfl | (simp only [← mI_snoc]; rfl)) (by first | rfl | (simp only [← mI_snoc]; rfl)) (by first | rfl | (simp only [← mI_snoc]; rfl)) (by decide) (by simp [fle, vle, Fr.get, mI_bnd])
      · have hz : decide ((i : Int) < D.length) = false := decide_eq_false (by omega)
        obtain rfl : i = D.length := by omega
        rw [List.take_length]
        simp only [w5L0, hz, w5T1, cut_two', go_sem, Nat.reduceEqDiff, Nat.reduceAdd, Nat.reduceLT, Nat.reduceLeDiff, reduceIte, reduceCtorEq]
        obtain ⟨pA, qA⟩ := Sp.row_poss (by omega) (by omega) hpile hq (r := 0) (by omega)
        obtain ⟨pB, qB⟩ := Sp.row_poss (by omega) (by omega) hpile hq (r := 1) (by omega)
        have sA : Sp.isStrip (Sp.rowL m 0 D) = true := Sp.pile_strip pA (by omega) (by omega)
        have sB : Sp.isStrip (Sp.rowL m 1 D) = true := Sp.pile_strip pB (by omega) (by omega)
        have hAl := pA.len
        have hBl := pB.len
        have hCl := part_len (q := fun x => decide (x.toNat % m < m - 1)) (g := fun x => ((x.toNat / m * (m - 1) + x.toNat % m : Nat) : Int)) (D := D)
        have hless : 2 ≤ m → Sp.Pile (2 * (m - 1)) (Sp.lessL m D) ∧ Sp.possP (Sp.lessL m D) (Sp.planP (m - 1)) = true := fun h2 => Sp.less_poss h2 (by omega) hpile hq
        change (Sp.lessL m D).length ≤ D.length at hCl
        have h15A := s15 false false (Sp.rowL m 0 D) (by omega)
        have h15B := s15 false false (Sp.rowL m 1 D) (by omega)
        rw [sA, if_pos rfl, hAl, qA] at h15A
        rw [sB, if_pos rfl, hBl, qB] at h15B
        generalize Sp.rowL m 0 D = a at *
        generalize Sp.rowL m 1 D = b at *
        generalize Sp.lessL m D = l at *
        refine W_loop (fun q : { j : Nat // j ≤ 2 } => ([(0, I m), (8, .sl false false (mI l)), (93, .agg [.sl false false (mI a), .sl false false (mI b)]), (94, I q.1)], [])) (fun q => 2 - q.1)
          ⟨0, by omega⟩ [] (Wk.nil ⟨rfl, vle_mI rfl (by simp) rfl (List.take_of_length_le (by rw [mI_length]; exact Nat.le_refl _)), .inr ⟨vle_mI rfl (by simp) rfl (List.take_of_length_le (by rw [mI_length]; exact Nat.le_refl _)), vle_mI rfl (by simp) rfl (List.take_of_length_le (by rw [mI_length]; exact Nat.le_refl _)), trivial⟩, rfl, trivial⟩) ?_
        rintro ⟨j, hj⟩
        dsimp only
        have hwj : j < 2 → IntKind.i64.wrap ((j : Int) + 1) = ((j + 1 : Nat) : Int) := fun h => by rw [wrap64 (by omega) (by omega)]; rfl
        by_cases hjl : j < 2
        · have hz : decide ((j : Int) < 2) = true := decide_eq_true (by omega)
          by_cases hj0 : j = 0
          · subst hj0
            simp only [w5L2, hz, go_sem, Nat.reduceEqDiff, Nat.reduceAdd, Nat.reduceLT, Nat.reduceLeDiff, reduceIte, reduceCtorEq]
            refine ⟨by omega, ?_⟩
            refine CallK.by (CallV.of_spec h15A) fun v H' ⟨h1, h2⟩ => ?_
            subst h1 h2
            have hw1 : IntKind.i64.wrap (((0 : Nat) : Int) + 1) = ((1 : Nat) : Int) := rfl
            simp only [List.getD_cons_zero, List.getD_cons_succ, z02, hw1, go_sem, Nat.reduceEqDiff, Nat.reduceAdd, Nat.reduceLT, Nat.reduceLeDiff, reduceIte, reduceCtorEq]
            refine round0 rfl ⟨1, by omega⟩ (by dsimp only; omega) rfl ?_
            simp [fle, vle, vle.vleL, Fr.get, mI_bnd, bndL, AVal.bnd]
          · obtain rfl : j = 1 := by omega
            simp only [w5L2, hz, go_sem, Nat.reduceEqDiff, Nat.reduceAdd, Nat.reduceLT, Nat.reduceLeDiff, reduceIte, reduceCtorEq]
            refine ⟨by omega, ?_⟩
            refine CallK.by (CallV.of_spec h15B) fun v H' ⟨h1, h2⟩ => ?_
            subst h1 h2
            have hw1 : IntKind.i64.wrap (((1 : Nat) : Int) + 1) = ((2 : Nat) : Int) := rfl
            simp only [List.getD_cons_zero, List.getD_cons_succ, z02, hw1, go_sem, Nat.reduceEqDiff, Nat.reduceAdd, Nat.reduceLT, Nat.reduceLeDiff, reduceIte, reduceCtorEq]
            refine round0 rfl ⟨2, by omega⟩ (by dsimp only; omega) rfl ?_
            simp [fle, vle, vle.vleL, Fr.get, mI_bnd, bndL, AVal.bnd]
        · have hz : decide ((j : Int) < 2) = false := decide_eq_false (by omega)
          simp only [w5L2, hz, w5T3, go_sem, Nat.reduceEqDiff, Nat.reduceAdd, Nat.reduceLT, Nat.reduceLeDiff, reduceIte, reduceCtorEq]
          by_cases hm1 : m = 1
          · have zm : ((m : Int) == 1) = true := by rw [beq_iff_eq]; omega
            simp only [zm, go_sem, Nat.reduceEqDiff, Nat.reduceAdd, Nat.reduceLT, Nat.reduceLeDiff, reduceIte, reduceCtorEq]
            refine CallK.pure (e18 _) ?_
            simp only [go_sem, Nat.reduceEqDiff, Nat.reduceAdd, Nat.reduceLT, Nat.reduceLeDiff, reduceIte, reduceCtorEq]
            exact leaf (B true) rfl ⟨rfl, rfl⟩
          · have zm : ((m : Int) == 1) = false := by rw [beq_eq_false_iff_ne]; omega
            have hwm : IntKind.i64.wrap ((m : Int) - 1) = ((m - 1 : Nat) : Int) := by rw [wrap64 (by omega) (by omega)]; omega
            obtain ⟨pL, qL⟩ := hless (by omega)
            have oL : Sp.isOrder l (2 * ((m - 1 : Nat) : Int)) = true := by
              have := Sp.nodup_order (n := 2 * (m - 1)) (by omega) pL.len pL.rng pL.nd
              exact this
            have h22 := s22 false false l ((m - 1 : Nat) : Int) (by omega)
            rw [oL, decide_eq_true (show (1 : Int) ≤ ((m - 1 : Nat) : Int) by omega), decide_eq_true (show ((m - 1 : Nat) : Int) ≤ 4 by omega), Bool.and_self, Bool.and_self, if_pos rfl, Int.toNat_natCast, qL] at h22
            simp only [zm, hwm, go_sem, Nat.reduceEqDiff, Nat.reduceAdd, Nat.reduceLT, Nat.reduceLeDiff, reduceIte, reduceCtorEq]
            refine CallK.by (CallV.of_spec h22) fun v H' ⟨h1, h2⟩ => ?_
            subst h1 h2
            have z00' : ((0 : Int) == 0) = true := rfl
            simp only [List.getD_cons_zero, List.getD_cons_succ, z00', go_sem, Nat.reduceEqDiff, Nat.reduceAdd, Nat.reduceLT, Nat.reduceLeDiff, reduceIte, reduceCtorEq]
            refine CallK.pure (e18 _) ?_
            simp only [go_sem, Nat.reduceEqDiff, Nat.reduceAdd, Nat.reduceLT, Nat.reduceLeDiff, reduceIte, reduceCtorEq]
            exact leaf (B true) rfl ⟨rfl, rfl⟩
end Go.Proofs.Ythdjloegibenoaa
