/- Contracts: ConesPure. -/
import Derived.Test.YtipfjfmdjmaflaaMJ
import Derived.Test.YtipfjfmdjmaflaaMC
namespace Go.Proofs.Ytipfjfmdjmaflaa
open Go.Abs AVal
set_option linter.unusedSimpArgs false
attribute [local go_sem] W_skip W_keep KQ_canon canon Fr.norm W_seq W_block W_scope W_exit W_ret W_ops W_draw KQ_nil KQ_norm_seq KQ_exit_seq KQ_ret_seq KQ_norm_block KQ_ret_block KQ_exit_block KQ_exit_loop KQ_ret_loop O_nil O_cons S_call S_mv SE_mv SD_mv S_pick SE_pick SD_pick S_bin SE_bin SD_bin S_eqb SE_eqb SD_eqb S_eqv SE_eqv SD_eqv S_eqnil SE_eqnil SD_eqnil S_un SE_un SD_un S_conv SE_conv SD_conv S_mkfn SE_mkfn SD_mkfn S_load SE_load SD_load S_nilck SE_nilck SD_nilck S_slS SE_slS SD_slS S_slP SE_slP SD_slP S_fldA SE_fldA SD_fldA S_fld SE_fld SD_fld S_ixS SE_ixS SD_ixS S_ixP SE_ixP SD_ixP S_ixV SE_ixV SD_ixV S_ixStr SE_ixStr SD_ixStr S_ext SE_ext SD_ext S_len SE_len SD_len S_lenStr SE_lenStr SD_lenStr S_lenc SE_lenc SD_lenc S_mn SE_mn SD_mn S_mx SE_mx SD_mx S_build SE_build SD_build S_alloc SD_alloc S_box SD_box S_bslice SD_bslice S_mksl SD_mksl S_store SD_store S_append SD_append S_copy SD_copy S_clr SD_clr aq_some aa_some al_some aqd_some aad_some ald_some ape_some D_done D_both D_early D_step SE_call SD_call IOpd.ev Fr.get Fr.put Fr.putd entryFr pickA binA binI isSh shI eqbA eqvA ints ints_mI Option.map_some eqnilA unA convA loadA nilckA intA slSA slPA fldAA fldVA ixSA ixPA ixVA ixStrA extA lenA lenStrA mnA mxA AVal.fits fillA fillOk buildA opa srcA appA stoA copA clrA rdFree zeros List.length_nil List.length_cons List.length_map List.map_cons List.map_nil Option.map_some Option.map_none if_true if_false ite_true ite_false true_and and_true and_self implies_true forall_const true_implies Bool.false_eq_true Bool.not_true Bool.not_false decide_eq_true_eq decide_eq_false_iff_not eq_self List.getElem?_cons_zero List.getElem?_cons_succ List.getElem?_nil List.set_cons_zero List.set_cons_succ List.nil_append List.cons_append List.append_nil List.replicate_zero List.replicate_succ Nat.zero_add false_implies rng_lt rng_end rng_get cells_I cells_B cells_sl cut_one Int.toNat_natCast Int.natCast_nonneg List.headD_cons Int.lt_irrefl not_false_eq_true decide_false decide_true mI_length mI_cells mI_sz mI_isCell mI_mid mI_append mI_take mI_drop cells_val cells_own cells_agg isCell_I isCell_B isCell_nil isCell_sl isCell_own isCell_ptr isCell_fn isCell_rp isCell_yld cellsOk_I cellsOk_B cellsOk_nil cellsOk_sl cellsOk_own cellsOk_ptr cellsOk_fn cellsOk_rp cellsOk_yld cellsOk_agg cells_nil cells_ptr cells_fn cells_rp List.all_cons List.all_nil Bool.and_true Nat.mul_one Nat.zero_mul Nat.one_mul List.take_zero List.take_nil List.drop_nil List.drop_zero List.not_mem_nil Nat.le_refl Nat.zero_le mS_length mS_cells mS_sz mS_isCell mS_mid mS_append mS_take mS_drop cells_sI isCell_sI cellsOk_sI sI_eq succ_le_self' List.take_succ_cons List.drop_succ_cons List.take_length beq_self_eq_true List.mem_cons or_false forall_eq mI_put mI_rep O_guard' D_earlyG' D_stepG' W_cond' G_tt G_tf G_ft G_ff GE_tt GE_tf GE_ft GE_ff GS_tt GS_tf GS_ft GS_ff G_u GE_u GS_u IC_t IC_f xft xff xtt xtf z00 z20 z22 z02 zz tn0

theorem s52 (x y : List Int) (hy : y.length < 9223372036854775808) : Abs.Spec Try.prog 52 [sI x, .rp [sI y]] [] fun v H' => H' = [] ∧ v = B (y == x) := by
  refine Abs.Spec.walk mixed fn52 nn52 t52 q52 nt52 (by simp) ?_
  simp only [w52, go_sem, Nat.reduceEqDiff, Nat.reduceAdd, Nat.reduceLT, Nat.reduceLeDiff, reduceIte, reduceCtorEq]
  refine CallK.by (CallV.of_spec (s22 false false false false y x hy)) fun v H' ⟨h1, h2⟩ => ?_
  subst h1 h2
  simp only [go_sem, Nat.reduceEqDiff, Nat.reduceAdd, Nat.reduceLT, Nat.reduceLeDiff, reduceIte, reduceCtorEq]
  exact leaf (B _) rfl ⟨rfl, rfl⟩
theorem splitC_bnd {a : List (List Int)} {x : List Int} {v : AVal} (h : splitC a x v) : v.bnd 0 = true := by
  rcases h with ⟨-, rfl⟩ | ⟨-, -, rfl⟩ | ⟨-, -, l, -, -, rfl⟩ <;> simp [AVal.bnd, bndL, mS_bnd]
theorem num_pos {y : List Int} (h : Sp.inB 16 y) : Sp.numbers y 0 1000 = posV y := by
  unfold Sp.numbers posV
  rw [Bool.eq_iff_iff, List.all_eq_true, List.all_eq_true]
  refine ⟨fun k z hz => ?_, fun k z hz => ?_⟩
  · have := k z hz; simp at this ⊢; omega
  · have := k z hz; have := h z hz; simp at *; omega
/-- Of a vector without numbers below 0, the parts are pure. -/
theorem split_pure {a : List (List Int)} {x : List Int} {l : List (List Int)} (hm : Sp.mat a = true) (hv : Sp.vecOk a x 0 100 = true) (hl : Sp.SplitOk (a.map Sp.pad) (a.getD 0 []).length (Sp.pad x) l) :
    ∀ y ∈ Sp.sortV (l.map fun y => y.take (a.getD 0 []).length), y ∈ Sp.purL a := by
  intro y hy
  rw [(Sp.sortV_perm _).mem_iff] at hy
  obtain ⟨z, hz, rfl⟩ := List.mem_map.1 hy
  obtain ⟨h1, h2⟩ := hl.each z hz
  obtain ⟨-, -, -, n4⟩ := Sp.mat_cols hm rfl
  unfold Sp.vecOk at hv
  rw [hm, Bool.true_and, Bool.and_eq_true, decide_eq_true_eq] at hv
  obtain ⟨xl, xn⟩ := hv
  have e := Sp.take_pad n4 h1.mv.len h1.mv.pad
  have hp : posV z = true := by
    unfold posV
    rw [List.all_eq_true]
    intro w hw
    obtain ⟨k, hk, rfl⟩ := List.getElem_of_mem hw
    have h3 := (Sp.fitR_iff (by rw [h1.mv.len, Sp.pad_len (by omega)])).1 h2 k
    rw [List.getD_eq_getElem?_getD, List.getElem?_eq_getElem hk, Option.getD_some] at h3
    have h0 : 0 ≤ (Sp.pad x).getD k 0 := by
      by_cases hkx : k < x.length
      · unfold Sp.numbers at xn
        rw [List.all_eq_true] at xn
        have := xn x[k] (List.getElem_mem _)
        unfold Sp.pad
        rw [List.getD_eq_getElem?_getD, List.getElem?_append_left hkx, List.getElem?_eq_getElem hkx, Option.getD_some]
        simp at this; omega
      · rw [Sp.pad_getD rfl (by omega)]; omega
    simp; omega
  unfold Sp.purL
  rw [List.mem_filter]
  refine ⟨(Sp.mem_basL hm).2 ⟨by rw [List.length_take, h1.mv.len]; omega, by rw [e]; exact h1⟩, ?_⟩
  rw [← Sp.posV_pad, e]; exact hp
theorem y20 : ((2 : Int) == 0) = false := rfl
theorem y40 : ((4 : Int) == 0) = false := rfl
theorem y42 : ((4 : Int) == 2) = false := rfl
theorem y44 : ((4 : Int) == 4) = true := rfl
theorem y41 : ((4 : Int) != 0) = true := rfl
set_option maxRecDepth 20000 in
set_option maxHeartbeats 4000000 in
theorem s11 (a : List (List Int)) (x : List Int) (ha : ∀ l ∈ a, l.length < 9223372036854775808) (hl : a.length < 9223372036854775808) (hx : x.length < 9223372036854775808) :
    Abs.Spec Try.prog 11 [.sl false false (mS a), .sl false false (mI x)] [] fun v H' => H' = [] ∧ v = B true := by
  obtain ⟨ha', hl'⟩ := tab6_len ha hl
  have e18 : ∀ H, CallV Try.prog (.fn (.func 18) [] []) [.sl false false (mS a)] H fun v H' => v = .sl false false (mS (Sp.table6 a)) ∧ H' = H := fun H => liftV (s18 false false a ha hl) (by simp [bndL, AVal.bnd, mS_bnd]) (by simp [AVal.bnd, mS_bnd]) H
  have e25 : ∀ H, CallV Try.prog (.fn (.func 25) [] []) [] H fun v H' => v = B true ∧ H' = H := fun H => liftV s25 rfl rfl H
  refine Abs.Spec.walk mixed fn11 nn11 t11 q11 nt11 (by simp) ?_
  simp only [w11, go_sem, Nat.reduceEqDiff, Nat.reduceAdd, Nat.reduceLT, Nat.reduceLeDiff, reduceIte, reduceCtorEq]
  refine CallK.pure (e18 _) ?_
  simp only [go_sem, Nat.reduceEqDiff, Nat.reduceAdd, Nat.reduceLT, Nat.reduceLeDiff, reduceIte, reduceCtorEq]
  refine CallK.pure (liftV (s39d false false _ ha' hl') (by simp [bndL, AVal.bnd, mS_bnd]) (basA_bnd _) _) ?_
  have hA : ∃ L e, basA (Sp.table6 a) = .tup [.sl false false (mS L), I e] ∧ ((Sp.mat a = true ∧ L = Sp.basL a ∧ e = 0) ∨ (Sp.mat a = false ∧ L = [] ∧ e = 2)) := by
    unfold basA
    rw [Sp.mat_table.1]
    by_cases hm : Sp.mat a = true
    · rw [if_pos hm, Sp.mat_table.2 hm]; exact ⟨_, _, rfl, .inl ⟨hm, rfl, rfl⟩⟩
    · rw [if_neg hm]; exact ⟨_, _, rfl, .inr ⟨by simpa using hm, rfl, rfl⟩⟩
  have hP : ∃ P e, purA (Sp.table6 a) = .tup [.sl false false (mS P), I e] ∧ ((Sp.mat a = true ∧ P = Sp.purL a ∧ e = 0) ∨ (Sp.mat a = false ∧ P = [] ∧ e = 2)) := by
    unfold purA
    rw [Sp.mat_table.1]
    by_cases hm : Sp.mat a = true
    · rw [if_pos hm, Sp.mat_table.2 hm]; exact ⟨_, _, rfl, .inl ⟨hm, rfl, rfl⟩⟩
    · rw [if_neg hm]; exact ⟨_, _, rfl, .inr ⟨by simpa using hm, rfl, rfl⟩⟩
  obtain ⟨L, e, hA, hL⟩ := hA
  obtain ⟨P, f, hP, hPL⟩ := hP
  rw [hA]
  simp only [List.getD_cons_zero, List.getD_cons_succ, go_sem, Nat.reduceEqDiff, Nat.reduceAdd, Nat.reduceLT, Nat.reduceLeDiff, reduceIte, reduceCtorEq]
  refine CallK.pure (e18 _) ?_
  simp only [go_sem, Nat.reduceEqDiff, Nat.reduceAdd, Nat.reduceLT, Nat.reduceLeDiff, reduceIte, reduceCtorEq]
  have hs49 := s49d false false _ ha' hl'
  rw [hP] at hs49
  refine CallK.pure (liftV hs49 (by simp [bndL, AVal.bnd, mS_bnd]) (by simp [AVal.bnd, bndL, mS_bnd]) _) ?_
  simp only [List.getD_cons_zero, List.getD_cons_succ, go_sem, Nat.reduceEqDiff, Nat.reduceAdd, Nat.reduceLT, Nat.reduceLeDiff, reduceIte, reduceCtorEq]
  rcases hL with ⟨hm, hL, rfl⟩ | ⟨hm, hL, rfl⟩
  rotate_left
  · have hf : f = 2 := by
      rcases hPL with ⟨h, -⟩ | ⟨-, -, h⟩
      · rw [hm] at h; cases h
      · exact h
    subst hf
    simp only [go_sem, Nat.reduceEqDiff, Nat.reduceAdd, Nat.reduceLT, Nat.reduceLeDiff, reduceIte, reduceCtorEq]
    refine CallK.pure (e25 _) ?_
    simp only [go_sem, Nat.reduceEqDiff, Nat.reduceAdd, Nat.reduceLT, Nat.reduceLeDiff, reduceIte, reduceCtorEq]
    exact leaf (B true) rfl ⟨rfl, rfl⟩
  obtain ⟨hPe, rfl⟩ : P = Sp.purL a ∧ f = 0 := by
    rcases hPL with ⟨-, h1, h2⟩ | ⟨h, -⟩
    · exact ⟨h1, h2⟩
    · rw [hm] at h; cases h
  simp only [go_sem, Nat.reduceEqDiff, Nat.reduceAdd, Nat.reduceLT, Nat.reduceLeDiff, reduceIte, reduceCtorEq]
  refine CallK.pure (liftV (s40 false false a ha hl) (by simp [bndL, AVal.bnd, mS_bnd]) rfl _) ?_
  simp only [hm, go_sem, Nat.reduceEqDiff, Nat.reduceAdd, Nat.reduceLT, Nat.reduceLeDiff, reduceIte, reduceCtorEq]
  have f1 : L.length ≤ 400 := by rw [hL]; exact Sp.ans_len hm (Sp.basB_is _ _)
  have f3 : ∀ y ∈ L, Sp.inB 16 y := fun y hy => Sp.ans_num hm (Sp.basB_is _ _) (by rw [hL] at hy; exact hy)
  have f8 : ∀ y ∈ L, y.length = (a.getD 0 []).length := fun y hy => ((Sp.mem_basL hm).1 (by rw [hL] at hy; exact hy)).1
  obtain ⟨-, -, n1, n4⟩ := Sp.mat_cols hm rfl
  refine W_loop (fun q : { k : Nat // k ≤ L.length } => ([(0, .sl false false (mS a)), (1, .sl false false (mI x)), (7, .sl false false (mS P)), (9, .own 0 0 ((L.take q.1).filter posV).length ((L.take q.1).filter posV).length 1), (48, .sl false false (mS L)), (49, I L.length), (50, I q.1)], [.cells (mS ((L.take q.1).filter posV))])) (fun q => L.length - q.1) ⟨0, by omega⟩ [none] (Wk.mk0 rfl (by simp [imgs, Blk.alive]) (by simp [hle, csle, mS_nil]) (by simp [fle, vle, Fr.get, mS_bnd, mI_bnd, nilSl])) ?_
  rintro ⟨k, hk⟩
  dsimp only
  by_cases hkl : k < L.length
  · have d1 : (k : Int) < L.length := by omega
    have gk := mS_getD hkl
    have km := getD_mem hkl
    obtain ⟨z, hz⟩ : ∃ z, L.getD k [] = z := ⟨_, rfl⟩
    rw [hz] at gk km
    have zl := f8 z km
    have hw : IntKind.i64.wrap ((k : Int) + 1) = (k : Int) + 1 := wrap64 (by omega) (by omega)
    have tk : (L.take (k + 1)).filter posV = (L.take k).filter posV ++ (if posV z then [z] else []) := by
      rw [← hz, List.take_add_one, List.filter_append, List.getElem?_eq_getElem hkl, List.getD_eq_getElem?_getD, List.getElem?_eq_getElem hkl]
      simp [List.filter_cons]
    obtain ⟨W, hW⟩ : ∃ W, (L.take k).filter posV = W := ⟨_, rfl⟩
    have wl : W.length ≤ 400 := by rw [← hW]; have := List.length_filter_le posV (L.take k); simp at this; omega
    rw [hW]
    simp only [w11L0, d1, gk, go_sem, Nat.reduceEqDiff, Nat.reduceAdd, Nat.reduceLT, Nat.reduceLeDiff, reduceIte, reduceCtorEq]
    refine CallK.pure (liftV (s24 false false z 0 1000 (by omega)) (by simp [bndL, AVal.bnd, mI_bnd]) rfl _) ?_
    rw [num_pos (f3 z km)]
    cases hp : posV z with
    | true =>
      rw [hp, if_pos rfl, hW] at tk
      simp only [hw, go_sem, Nat.reduceEqDiff, Nat.reduceAdd, Nat.reduceLT, Nat.reduceLeDiff, reduceIte, reduceCtorEq]
      refine ⟨by omega, ?_⟩
      refine round1 rfl ⟨k + 1, by omega⟩ [some 2] (by dsimp only; omega) (Wk.mk0 rfl (by simp [imgs, Blk.alive]) (by simp [hle, csle, mS_bnd, mS_one, mS_append, tk]) (by simp [fle, vle, Fr.get, mS_bnd, mI_bnd, tk]))
    | false =>
      rw [hp, if_neg (by decide), hW, List.append_nil] at tk
      simp only [hw, go_sem, Nat.reduceEqDiff, Nat.reduceAdd, Nat.reduceLT, Nat.reduceLeDiff, reduceIte, reduceCtorEq]
      refine round1 rfl ⟨k + 1, by omega⟩ [some 0] (by dsimp only; omega) (Wk.mk0 rfl (by simp [imgs, Blk.alive]) (by simp [hle, csle, mS_bnd, tk]) (by simp [fle, vle, Fr.get, mS_bnd, mI_bnd, tk]))
  · have d1 : ¬ (k : Int) < L.length := by omega
    have ek : k = L.length := by omega
    subst ek
    rw [List.take_length]
    have hPW : L.filter posV = P := by rw [hL, hPe]; rfl
    have P9 : ∀ l ∈ P, l.length < 9223372036854775808 := fun l hl => by
      rw [← hPW] at hl; have := f8 l (List.mem_filter.1 hl).1; omega
    have Pl : P.length ≤ 400 := by rw [← hPW]; have := List.length_filter_le posV L; omega
    rw [hPW]
    simp only [w11L0, w11T1, d1, go_sem, Nat.reduceEqDiff, Nat.reduceAdd, Nat.reduceLT, Nat.reduceLeDiff, reduceIte, reduceCtorEq]
    refine CallK.pure (CallV.of_spec (first := []) (cap := []) (Spec.lend (args' := [.sl false false (mS P), .sl false false (mS P)]) (s48 false false false false P P P9 (by omega)) rfl ⟨⟨mS_bnd, fun h => h, fun h => h, rfl⟩, vle_mS (cs := mS P) rfl (by simp) rfl (List.take_of_length_le (by rw [mS_length]; omega)), trivial⟩)) ?_
    have cc : (P == P) = true := beq_self_eq_true P
    simp only [cc, go_sem, Nat.reduceEqDiff, Nat.reduceAdd, Nat.reduceLT, Nat.reduceLeDiff, reduceIte, reduceCtorEq]
    refine CallK.pure (e18 _) ?_
    rw [Sp.mat_table.2 hm]
    simp only [go_sem, Nat.reduceEqDiff, Nat.reduceAdd, Nat.reduceLT, Nat.reduceLeDiff, reduceIte, reduceCtorEq]
    refine CallK.pure (liftV (s19 false false x hx) (by simp [bndL, AVal.bnd, mI_bnd]) (by simp [AVal.bnd, mI_bnd]) _) ?_
    simp only [go_sem, Nat.reduceEqDiff, Nat.reduceAdd, Nat.reduceLT, Nat.reduceLeDiff, reduceIte, reduceCtorEq]
    refine CallK.by (CallV.of_spec (first := []) (cap := []) (Spec.liftE (s51 false false false false a (x.take 6) ha hl (by rw [List.length_take]; omega)) (by simp [bndL, AVal.bnd, mS_bnd, mI_bnd]) (fun v h => splitC_bnd h) _)) fun v H' ⟨hv, hH⟩ => ?_
    subst hH
    rcases hv with ⟨-, rfl⟩ | ⟨-, -, rfl⟩ | ⟨hv, hmv, l, hl4, hsp, rfl⟩
    · simp only [List.getD_cons_zero, List.getD_cons_succ, y20, y40, y42, y44, y41, go_sem, Nat.reduceEqDiff, Nat.reduceAdd, Nat.reduceLT, Nat.reduceLeDiff, reduceIte, reduceCtorEq]
      refine CallK.pure (e25 _) ?_
      simp only [go_sem, Nat.reduceEqDiff, Nat.reduceAdd, Nat.reduceLT, Nat.reduceLeDiff, reduceIte, reduceCtorEq]
      exact leaf (B true) rfl ⟨rfl, rfl⟩
    · simp only [List.getD_cons_zero, List.getD_cons_succ, y20, y40, y42, y44, y41, go_sem, Nat.reduceEqDiff, Nat.reduceAdd, Nat.reduceLT, Nat.reduceLeDiff, reduceIte, reduceCtorEq]
      refine CallK.pure (e25 _) ?_
      simp only [go_sem, Nat.reduceEqDiff, Nat.reduceAdd, Nat.reduceLT, Nat.reduceLeDiff, reduceIte, reduceCtorEq]
      exact leaf (B true) rfl ⟨rfl, rfl⟩
    simp only [List.getD_cons_zero, List.getD_cons_succ, go_sem, Nat.reduceEqDiff, Nat.reduceAdd, Nat.reduceLT, Nat.reduceLeDiff, reduceIte, reduceCtorEq]
    refine CallK.pure (liftV (s21 false false false false a x 0 100 ha hl hx) (by simp [bndL, AVal.bnd, mS_bnd, mI_bnd]) rfl _) ?_
    by_cases hvx : Sp.vecOk a x 0 100 = true
    rotate_left
    · have hvx : Sp.vecOk a x 0 100 = false := by simpa using hvx
      simp only [hvx, go_sem, Nat.reduceEqDiff, Nat.reduceAdd, Nat.reduceLT, Nat.reduceLeDiff, reduceIte, reduceCtorEq]
      refine CallK.pure (e25 _) ?_
      simp only [go_sem, Nat.reduceEqDiff, Nat.reduceAdd, Nat.reduceLT, Nat.reduceLeDiff, reduceIte, reduceCtorEq]
      exact leaf (B true) rfl ⟨rfl, rfl⟩
    have xl : x.length = (a.getD 0 []).length := by
      unfold Sp.vecOk at hvx
      rw [hm, Bool.true_and, Bool.and_eq_true, decide_eq_true_eq] at hvx
      exact hvx.1
    rw [List.take_of_length_le (by omega)] at hsp
    have hpure := split_pure hm hvx hsp
    obtain ⟨S, hS⟩ : ∃ S, Sp.sortV (l.map fun y => y.take (a.getD 0 []).length) = S := ⟨_, rfl⟩
    rw [hS] at hpure
    rw [hS]
    have Sl : S.length ≤ 400 := by rw [← hS, (Sp.sortV_perm _).length_eq, List.length_map]; exact hl4
    simp only [hvx, go_sem, Nat.reduceEqDiff, Nat.reduceAdd, Nat.reduceLT, Nat.reduceLeDiff, reduceIte, reduceCtorEq]
    refine W_loop (fun q : { k : Nat // k ≤ S.length } => ([(7, .sl false false (mS P)), (94, .sl false false (mS S)), (95, I S.length), (96, I q.1)], [])) (fun q => S.length - q.1) ⟨0, by omega⟩ [] (Wk.mk0 rfl (by simp [imgs]) (by simp [hle]) (by simp [fle, vle, Fr.get, mS_bnd])) ?_
    rintro ⟨k, hk⟩
    dsimp only
    by_cases hkl : k < S.length
    · have d1 : (k : Int) < S.length := by omega
      have gk := mS_getD hkl
      have km := getD_mem hkl
      obtain ⟨z, hz⟩ : ∃ z, S.getD k [] = z := ⟨_, rfl⟩
      rw [hz] at gk km
      have zP := hpure z km
      rw [← hPe] at zP
      have zl := P9 z zP
      have hw : IntKind.i64.wrap ((k : Int) + 1) = (k : Int) + 1 := wrap64 (by omega) (by omega)
      simp only [w11L2, d1, gk, go_sem, Nat.reduceEqDiff, Nat.reduceAdd, Nat.reduceLT, Nat.reduceLeDiff, reduceIte, reduceCtorEq]
      have hk44 := s44 false false P (.fn (.func 52) [] [.rp [sI z]]) (fun y => z == y) (fun y hy => CallV.of_spec (first := []) ((s52 y z zl).mono fun v H' h => ⟨h.2, h.1⟩)) (fun H => by simp [vle, vle.vleL, bndL, AVal.bnd, mI_bnd, sI]) (by omega)
      refine CallK.pure (CallV.of_spec (first := []) (cap := []) (Spec.lend (args' := [.sl false false (mS P), .fn (.func 52) [] [.rp [sI z]]]) hk44 rfl (by simp [vle, vle.vleL, mS_bnd, bndL, AVal.bnd, mI_bnd, sI]))) ?_
      have hany : P.any (fun y => z == y) = true := by rw [List.any_eq_true]; exact ⟨z, zP, by simp⟩
      simp only [hany, hw, go_sem, Nat.reduceEqDiff, Nat.reduceAdd, Nat.reduceLT, Nat.reduceLeDiff, reduceIte, reduceCtorEq]
      refine round0 rfl ⟨k + 1, by omega⟩ (by dsimp only; omega) rfl ?_
      simp [fle, vle, Fr.get, mS_bnd]
    · have d1 : ¬ (k : Int) < S.length := by omega
      simp only [w11L2, w11T3, d1, go_sem, Nat.reduceEqDiff, Nat.reduceAdd, Nat.reduceLT, Nat.reduceLeDiff, reduceIte, reduceCtorEq]
      refine CallK.pure (e25 _) ?_
      simp only [go_sem, Nat.reduceEqDiff, Nat.reduceAdd, Nat.reduceLT, Nat.reduceLeDiff, reduceIte, reduceCtorEq]
      exact leaf (B true) rfl ⟨rfl, rfl⟩
end Go.Proofs.Ytipfjfmdjmaflaa
