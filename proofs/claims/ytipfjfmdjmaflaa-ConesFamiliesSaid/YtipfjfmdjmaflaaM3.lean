/- Contracts that rest on the reference's Basic: Pure, plus. -/
import Derived.Test.YtipfjfmdjmaflaaMR
namespace Go.Proofs.Ytipfjfmdjmaflaa
open Go.Abs AVal
set_option linter.unusedSimpArgs false
attribute [local go_sem] W_skip W_keep KQ_canon canon Fr.norm W_seq W_block W_scope W_exit W_ret W_ops W_draw KQ_nil KQ_norm_seq KQ_exit_seq KQ_ret_seq KQ_norm_block KQ_ret_block KQ_exit_block KQ_exit_loop KQ_ret_loop O_nil O_cons S_call S_mv SE_mv SD_mv S_pick SE_pick SD_pick S_bin SE_bin SD_bin S_eqb SE_eqb SD_eqb S_eqv SE_eqv SD_eqv S_eqnil SE_eqnil SD_eqnil S_un SE_un SD_un S_conv SE_conv SD_conv S_mkfn SE_mkfn SD_mkfn S_load SE_load SD_load S_nilck SE_nilck SD_nilck S_slS SE_slS SD_slS S_slP SE_slP SD_slP S_fldA SE_fldA SD_fldA S_fld SE_fld SD_fld S_ixS SE_ixS SD_ixS S_ixP SE_ixP SD_ixP S_ixV SE_ixV SD_ixV S_ixStr SE_ixStr SD_ixStr S_ext SE_ext SD_ext S_len SE_len SD_len S_lenStr SE_lenStr SD_lenStr S_lenc SE_lenc SD_lenc S_mn SE_mn SD_mn S_mx SE_mx SD_mx S_build SE_build SD_build S_alloc SD_alloc S_box SD_box S_bslice SD_bslice S_mksl SD_mksl S_store SD_store S_append SD_append S_copy SD_copy S_clr SD_clr S_mlen SE_mlen SD_mlen S_mget SE_mget SD_mget S_mval SE_mval SD_mval S_mentry SE_mentry SD_mentry S_mkmap SD_mkmap S_mset SD_mset S_mrange SD_mrange S_mnext mlenA mgetA mvalA mentryA msetA mrangeA cells_mp isCell_mp cellsOk_mp aq_some aa_some al_some alA_some aqd_some aad_some ald_some ape_some D_done D_both D_early D_step SE_call SD_call IOpd.ev Fr.get Fr.put Fr.putd entryFr pickA binA binI isSh shI eqbA eqvA ints ints_mI Option.map_some eqnilA unA convA loadA nilckA intA slSA slPA fldAA fldVA ixSA ixPA ixVA ixStrA extA lenA lenStrA mnA mxA AVal.fits fillA fillOk buildA opa srcA appA stoA copA clrA rdFree zeros List.length_nil List.length_cons List.length_map List.map_cons List.map_nil Option.map_some Option.map_none if_true if_false ite_true ite_false true_and and_true and_self implies_true forall_const true_implies Bool.false_eq_true Bool.not_true Bool.not_false decide_eq_true_eq decide_eq_false_iff_not eq_self List.getElem?_cons_zero List.getElem?_cons_succ List.getElem?_nil List.set_cons_zero List.set_cons_succ List.nil_append List.cons_append List.append_nil List.replicate_zero List.replicate_succ Nat.zero_add false_implies rng_lt rng_end rng_get cells_I cells_B cells_sl cut_one Int.toNat_natCast Int.natCast_nonneg List.headD_cons Int.lt_irrefl not_false_eq_true decide_false decide_true mI_length mI_cells mI_sz mI_isCell mI_mid mI_append mI_take mI_drop cells_val cells_own cells_agg isCell_I isCell_B isCell_nil isCell_sl isCell_own isCell_ptr isCell_fn isCell_rp isCell_yld cellsOk_I cellsOk_B cellsOk_nil cellsOk_sl cellsOk_own cellsOk_ptr cellsOk_fn cellsOk_rp cellsOk_yld cellsOk_agg cells_nil cells_ptr cells_fn cells_rp List.all_cons List.all_nil Bool.and_true Nat.mul_one Nat.zero_mul Nat.one_mul List.take_zero List.take_nil List.drop_nil List.drop_zero List.not_mem_nil Nat.le_refl Nat.zero_le mS_length mS_cells mS_sz mS_isCell mS_mid mS_append mS_take mS_drop cells_sI isCell_sI cellsOk_sI sI_eq succ_le_self' List.take_succ_cons List.drop_succ_cons List.take_length beq_self_eq_true List.mem_cons or_false forall_eq mI_put mI_rep O_guard' D_earlyG' D_stepG' W_cond' G_tt G_tf G_ft G_ff GE_tt GE_tf GE_ft GE_ff GS_tt GS_tf GS_ft GS_ff G_u GE_u GS_u IC_t IC_f xft xff xtt xtf z00 z20 z22 z02 zz tn0
/-- What is still to be shown of the reference's Basic. -/
def C50 : Prop := ∀ a : List (List Int), (∀ l ∈ a, l.length < 9223372036854775808) → a.length < 9223372036854775808 → Sp.mat a = true → Abs.Spec Try.prog 50 [.sl false false (mS a)] [] fun v H' => H' = [] ∧ v = .sl false false (mS (Sp.basL a))
theorem gm2 {L : List (List Int)} {i : Nat} (h : i < L.length) : L.getD i [] ∈ L := by
  rw [List.getD_eq_getElem?_getD, List.getElem?_eq_getElem h]; exact List.getElem_mem _
theorem num_pos2 {y : List Int} (h : Sp.inB 16 y) : Sp.numbers y 0 1000 = posV y := by
  unfold Sp.numbers posV
  rw [Bool.eq_iff_iff, List.all_eq_true, List.all_eq_true]
  refine ⟨fun k z hz => ?_, fun k z hz => ?_⟩
  · have := k z hz; simp at this ⊢; omega
  · have := k z hz; have := h z hz; simp at *; omega
/-- The reference's Pure. -/
theorem s34 (h50 : C50) (a : List (List Int)) (ha : ∀ l ∈ a, l.length < 9223372036854775808) (hl : a.length < 9223372036854775808) (hm : Sp.mat a = true) : Abs.Spec Try.prog 34 [.sl false false (mS a)] [] fun v H' => H' = [] ∧ v = .sl false false (mS (Sp.purL a)) := by
  refine Abs.Spec.walk mixed fn34 nn34 t34 q34 nt34 (by simp) ?_
  have f1 : (Sp.basL a).length ≤ 400 := Sp.ans_len hm (Sp.basB_is _ _)
  have f3 : ∀ y ∈ Sp.basL a, Sp.inB 16 y := fun y hy => Sp.ans_num hm (Sp.basB_is _ _) hy
  have f8 : ∀ y ∈ Sp.basL a, y.length = (a.getD 0 []).length := fun y hy => ((Sp.mem_basL hm).1 hy).1
  obtain ⟨-, -, n1, n4⟩ := Sp.mat_cols hm rfl
  have hP : Sp.purL a = (Sp.basL a).filter posV := rfl
  rw [hP]
  simp only [w34, go_sem, Nat.reduceEqDiff, Nat.reduceAdd, Nat.reduceLT, Nat.reduceLeDiff, reduceIte, reduceCtorEq]
  refine CallK.pure (liftV (h50 a ha hl hm) (by simp [bndL, AVal.bnd, mS_bnd]) (by simp [AVal.bnd, mS_bnd]) _) ?_
  obtain ⟨L, hL⟩ : ∃ L, Sp.basL a = L := ⟨_, rfl⟩
  rw [hL] at f1 f3 f8 ⊢
  simp only [go_sem, Nat.reduceEqDiff, Nat.reduceAdd, Nat.reduceLT, Nat.reduceLeDiff, reduceIte, reduceCtorEq]
  refine W_loop (fun q : { k : Nat // k ≤ L.length } => ([(3, .own 0 0 ((L.take q.1).filter posV).length ((L.take q.1).filter posV).length 1), (7, .sl false false (mS L)), (8, I L.length), (9, I q.1)], [.cells (mS ((L.take q.1).filter posV))])) (fun q => L.length - q.1) ⟨0, by omega⟩ [none] (Wk.mk0 rfl (by simp [imgs, Blk.alive]) (by simp [hle, csle, mS_nil]) (by simp [fle, vle, Fr.get, mS_bnd, mI_bnd, nilSl])) ?_
  rintro ⟨k, hk⟩
  dsimp only
  by_cases hkl : k < L.length
  · have d1 : (k : Int) < L.length := by omega
    have gk := mS_getD hkl
    have km := gm2 hkl
    obtain ⟨z, hz⟩ : ∃ z, L.getD k [] = z := ⟨_, rfl⟩
    rw [hz] at gk km
    have zl := f8 z km
    have hw : IntKind.i64.wrap ((k : Int) + 1) = (k : Int) + 1 := wrap64 (by omega) (by omega)
    have tk : (L.take (k + 1)).filter posV = (L.take k).filter posV ++ (if posV z then [z] else []) := by
      rw [← hz, List.take_add_one, List.filter_append, List.getElem?_eq_getElem hkl, List.getD_eq_getElem?_getD, List.getElem?_eq_getElem hkl]
      simp [List.filter_cons]
    obtain ⟨W, hW⟩ : ∃ W, (L.take k).filter posV = W := ⟨_, rfl⟩
    have wl : W.length ≤ 400 := by rw [← hW]; have := List.length_filter_le posV (L.take k); simp at this; omega
    rw [hW]
    simp only [w34L0, d1, gk, go_sem, Nat.reduceEqDiff, Nat.reduceAdd, Nat.reduceLT, Nat.reduceLeDiff, reduceIte, reduceCtorEq]
    refine CallK.pure (liftV (s24 false false z 0 1000 (by omega)) (by simp [bndL, AVal.bnd, mI_bnd]) rfl _) ?_
    rw [num_pos2 (f3 z km)]
    cases hp : posV z with
    | true =>
      rw [hp, if_pos rfl, hW] at tk
      simp only [hw, go_sem, Nat.reduceEqDiff, Nat.reduceAdd, Nat.reduceLT, Nat.reduceLeDiff, reduceIte, reduceCtorEq]
      refine ⟨by omega, ?_⟩
      refine round1 rfl ⟨k + 1, by omega⟩ [some 2] (by dsimp only; omega) (Wk.mk0 rfl (by simp [imgs, Blk.alive]) (by simp [hle, csle, mS_bnd, mS_one, mS_append, tk]) (by simp [fle, vle, Fr.get, mS_bnd, mI_bnd, tk]))
    | false =>
      rw [hp, if_neg (by decide), hW, List.append_nil] at tk
      simp only [hw, go_sem, Nat.reduceEqDiff, Nat.reduceAdd, Nat.reduceLT, Nat.reduceLeDiff, reduceIte, reduceCtorEq]
      refine round1 rfl ⟨k + 1, by omega⟩ [some 0] (by dsimp only; omega) (Wk.mk0 rfl (by simp [imgs, Blk.alive]) (by simp [hle, csle, mS_bnd, tk]) (by simp [fle, vle, Fr.get, mS_bnd, mI_bnd, tk]))
  · have d1 : ¬ (k : Int) < L.length := by omega
    have ek : k = L.length := by omega
    subst ek
    rw [List.take_length]
    simp only [w34L0, w34T1, d1, go_sem, Nat.reduceEqDiff, Nat.reduceAdd, Nat.reduceLT, Nat.reduceLeDiff, reduceIte, reduceCtorEq]
    exact leaf _ (vle_mS rfl (by simp) rfl take_mS) ⟨rfl, rfl⟩
/-- The sum of two vectors. -/
theorem s79 (x y : List Int) (n : Nat) (n1 : 1 ≤ n) (n4 : n ≤ 4) (hx : x.length = n) (hy : y.length = n) (bx : Sp.inB 100000 x) (by' : Sp.inB 100000 y) : Abs.Spec Try.prog 79 [.sl false false (mI x), .sl false false (mI y)] [] fun v H' => H' = [] ∧ v = .sl false false (mI (plusV 1 x y)) := by
  refine Abs.Spec.walk mixed fn79 nn79 t79 q79 nt79 (by simp) ?_
  obtain ⟨T, hT⟩ : ∃ T, plusV 1 x y = T := ⟨_, rfl⟩
  have Tl : T.length = n := by rw [← hT]; simp [plusV, hx, hy]
  have Tg : ∀ j, j < n → T.getD j 0 = x.getD j 0 + y.getD j 0 := fun j hj => by
    rw [← hT]; unfold plusV
    rw [List.getD_eq_getElem?_getD, List.getD_eq_getElem?_getD, List.getD_eq_getElem?_getD, List.getElem?_eq_getElem (by simp; omega), List.getElem?_eq_getElem (by omega), List.getElem?_eq_getElem (by omega), List.getElem_zipWith]
    simp
  rw [hT]
  have hx0 : ¬ x.length ≤ 0 := by omega
  simp only [w79, hx0, go_sem, Nat.reduceEqDiff, Nat.reduceAdd, Nat.reduceLT, Nat.reduceLeDiff, reduceIte, reduceCtorEq]
  refine ⟨by omega, ?_⟩
  rw [hx, hy]
  refine W_loop (fun q : { j : Nat // j ≤ n } => ([(5, .own 0 0 n n 1), (11, .sl false false (mI y)), (12, I n), (13, I q.1)], [.cells (mI (T.take q.1 ++ x.drop q.1))])) (fun q => n - q.1) ⟨0, by omega⟩ [some 1] (Wk.mk0 rfl (by simp [imgs, Blk.alive]) (by simp [hle, csle, mI_bnd]) (by simp [fle, vle, Fr.get, mI_bnd])) ?_
  rintro ⟨j, hj⟩
  dsimp only
  by_cases hjn : j < n
  · have d2 : (j : Int) < n := by omega
    have t1 := Tg j hjn
    have qi : (T.take j ++ x.drop j).getD j 0 = x.getD j 0 := by
      rw [List.getD_eq_getElem?_getD, List.getElem?_append_right (by rw [List.length_take]; omega), List.length_take, List.getElem?_drop, show j + (j - min j T.length) = j by omega, ← List.getD_eq_getElem?_getD]
    have qs : (T.take j ++ x.drop j).set j (T.getD j 0) = T.take (j + 1) ++ x.drop (j + 1) := by
      rw [List.set_append_right _ _ (by rw [List.length_take]; omega), List.length_take, show j - min j T.length = 0 by omega, List.drop_eq_getElem_cons (show j < x.length by omega), List.set_cons_zero, List.getD_eq_getElem?_getD, List.getElem?_eq_getElem (show j < T.length by omega), List.take_add_one, List.getElem?_eq_getElem (show j < T.length by omega)]
      simp only [List.append_assoc, Option.toList, Option.getD_some, List.cons_append, List.nil_append]
    have Ql : (T.take j ++ x.drop j).length = n := by rw [List.length_append, List.length_take, List.length_drop]; omega
    obtain ⟨Q, hQ⟩ : ∃ Q, T.take j ++ x.drop j = Q := ⟨_, rfl⟩
    rw [hQ] at Ql qi qs ⊢
    have xj := Sp.inB_getD bx j
    have yj := Sp.inB_getD by' j
    have p1 := mI_hd0 (l := Q) (i := j) (by omega)
    have p2 : (mI y).getD j any = I (y.getD j 0) := mI_get (by omega)
    have p3 := mI_pt0 (l := Q) (i := j) (by omega) (T.getD j 0)
    rw [qi] at p1
    rw [qs] at p3
    have e2 : IntKind.i64.wrap (x.getD j 0 + y.getD j 0) = T.getD j 0 := by rw [t1]; exact wrap64 (by omega) (by omega)
    have hwj : IntKind.i64.wrap ((j : Int) + 1) = (j : Int) + 1 := wrap64 (by omega) (by omega)
    simp only [w79L0, d2, p1, p2, e2, p3, hwj, go_sem, Nat.reduceEqDiff, Nat.reduceAdd, Nat.reduceLT, Nat.reduceLeDiff, reduceIte, reduceCtorEq]
    refine ⟨by omega, by omega, by omega, ?_⟩
    exact round1 rfl ⟨j + 1, by omega⟩ [some 0] (by dsimp only; omega) (Wk.mk0 rfl (by simp [imgs, Blk.alive]) (by simp [hle, csle, mI_bnd]) (by simp [fle, vle, Fr.get, mS_bnd, mI_bnd]))
  · have d2 : ¬ (j : Int) < n := by omega
    have ej : j = n := by omega
    subst ej
    rw [List.take_of_length_le (by omega), List.drop_of_length_le (by omega), List.append_nil]
    simp only [w79L0, w79T1, d2, go_sem, Nat.reduceEqDiff, Nat.reduceAdd, Nat.reduceLT, Nat.reduceLeDiff, reduceIte, reduceCtorEq]
    exact leaf (.sl false false (mI T)) (vle_mI rfl (by simp) Tl.symm (List.take_of_length_le (by rw [mI_length]; omega))) ⟨rfl, rfl⟩
end Go.Proofs.Ytipfjfmdjmaflaa
