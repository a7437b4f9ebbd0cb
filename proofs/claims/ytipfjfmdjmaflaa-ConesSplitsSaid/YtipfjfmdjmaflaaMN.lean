/- Contracts: ConesSums. -/
import Derived.Test.YtipfjfmdjmaflaaMM
namespace Go.Proofs.Ytipfjfmdjmaflaa
open Go.Abs AVal
set_option linter.unusedSimpArgs false
attribute [local go_sem] W_skip W_keep KQ_canon canon Fr.norm W_seq W_block W_scope W_exit W_ret W_ops W_draw KQ_nil KQ_norm_seq KQ_exit_seq KQ_ret_seq KQ_norm_block KQ_ret_block KQ_exit_block KQ_exit_loop KQ_ret_loop O_nil O_cons S_call S_mv SE_mv SD_mv S_pick SE_pick SD_pick S_bin SE_bin SD_bin S_eqb SE_eqb SD_eqb S_eqv SE_eqv SD_eqv S_eqnil SE_eqnil SD_eqnil S_un SE_un SD_un S_conv SE_conv SD_conv S_mkfn SE_mkfn SD_mkfn S_load SE_load SD_load S_nilck SE_nilck SD_nilck S_slS SE_slS SD_slS S_slP SE_slP SD_slP S_fldA SE_fldA SD_fldA S_fld SE_fld SD_fld S_ixS SE_ixS SD_ixS S_ixP SE_ixP SD_ixP S_ixV SE_ixV SD_ixV S_ixStr SE_ixStr SD_ixStr S_ext SE_ext SD_ext S_len SE_len SD_len S_lenStr SE_lenStr SD_lenStr S_lenc SE_lenc SD_lenc S_mn SE_mn SD_mn S_mx SE_mx SD_mx S_build SE_build SD_build S_alloc SD_alloc S_box SD_box S_bslice SD_bslice S_mksl SD_mksl S_store SD_store S_append SD_append S_copy SD_copy S_clr SD_clr aq_some aa_some al_some aqd_some aad_some ald_some ape_some D_done D_both D_early D_step SE_call SD_call IOpd.ev Fr.get Fr.put Fr.putd entryFr pickA binA binI isSh shI eqbA eqvA ints ints_mI Option.map_some eqnilA unA convA loadA nilckA intA slSA slPA fldAA fldVA ixSA ixPA ixVA ixStrA extA lenA lenStrA mnA mxA AVal.fits fillA fillOk buildA opa srcA appA stoA copA clrA rdFree zeros List.length_nil List.length_cons List.length_map List.map_cons List.map_nil Option.map_some Option.map_none if_true if_false ite_true ite_false true_and and_true and_self implies_true forall_const true_implies Bool.false_eq_true Bool.not_true Bool.not_false decide_eq_true_eq decide_eq_false_iff_not eq_self List.getElem?_cons_zero List.getElem?_cons_succ List.getElem?_nil List.set_cons_zero List.set_cons_succ List.nil_append List.cons_append List.append_nil List.replicate_zero List.replicate_succ Nat.zero_add false_implies rng_lt rng_end rng_get cells_I cells_B cells_sl cut_one Int.toNat_natCast Int.natCast_nonneg List.headD_cons Int.lt_irrefl not_false_eq_true decide_false decide_true mI_length mI_cells mI_sz mI_isCell mI_mid mI_append mI_take mI_drop cells_val cells_own cells_agg isCell_I isCell_B isCell_nil isCell_sl isCell_own isCell_ptr isCell_fn isCell_rp isCell_yld cellsOk_I cellsOk_B cellsOk_nil cellsOk_sl cellsOk_own cellsOk_ptr cellsOk_fn cellsOk_rp cellsOk_yld cellsOk_agg cells_nil cells_ptr cells_fn cells_rp List.all_cons List.all_nil Bool.and_true Nat.mul_one Nat.zero_mul Nat.one_mul List.take_zero List.take_nil List.drop_nil List.drop_zero List.not_mem_nil Nat.le_refl Nat.zero_le mS_length mS_cells mS_sz mS_isCell mS_mid mS_append mS_take mS_drop cells_sI isCell_sI cellsOk_sI sI_eq succ_le_self' List.take_succ_cons List.drop_succ_cons List.take_length beq_self_eq_true List.mem_cons or_false forall_eq mI_put mI_rep O_guard' D_earlyG' D_stepG' W_cond' G_tt G_tf G_ft G_ff GE_tt GE_tf GE_ft GE_ff GS_tt GS_tf GS_ft GS_ff G_u GE_u GS_u IC_t IC_f xft xff xtt xtf z00 z20 z22 z02 zz tn0

theorem s56 (x : Int) : Abs.Spec Try.prog 56 [I x] [] fun v H' => H' = [] ∧ v = B (x != 0) := by
  refine Abs.Spec.walk mixed fn56 nn56 t56 q56 nt56 (by simp) ?_
  simp only [w56, go_sem, Nat.reduceEqDiff, Nat.reduceAdd, Nat.reduceLT, Nat.reduceLeDiff, reduceIte, reduceCtorEq]
  exact leaf (B _) rfl ⟨rfl, rfl⟩
theorem s57 (x y : List Int) (hy : y.length < 9223372036854775808) : Abs.Spec Try.prog 57 [sI x, .rp [sI y]] [] fun v H' => H' = [] ∧ v = B (y == x) := by
  refine Abs.Spec.walk mixed fn57 nn57 t57 q57 nt57 (by simp) ?_
  simp only [w57, go_sem, Nat.reduceEqDiff, Nat.reduceAdd, Nat.reduceLT, Nat.reduceLeDiff, reduceIte, reduceCtorEq]
  refine CallK.by (CallV.of_spec (s22 false false false false y x hy)) fun v H' ⟨h1, h2⟩ => ?_
  subst h1 h2
  simp only [go_sem, Nat.reduceEqDiff, Nat.reduceAdd, Nat.reduceLT, Nat.reduceLeDiff, reduceIte, reduceCtorEq]
  exact leaf (B _) rfl ⟨rfl, rfl⟩
theorem splitC_bnd' {a : List (List Int)} {x : List Int} {v : AVal} (h : splitC a x v) : v.bnd 0 = true := by
  rcases h with ⟨-, rfl⟩ | ⟨-, -, rfl⟩ | ⟨-, -, l, -, -, rfl⟩ <;> simp [AVal.bnd, bndL, mS_bnd]
theorem u20 : ((2 : Int) == 0) = false := rfl
theorem u44 : ((4 : Int) == 4) = true := rfl
theorem u22 : ((2 : Int) == 2) = true := rfl
theorem u00 : ((0 : Int) == 0) = true := rfl
theorem gd_mem {L : List (List Int)} {i : Nat} (h : i < L.length) : L.getD i [] ∈ L := by
  rw [List.getD_eq_getElem?_getD, List.getElem?_eq_getElem h]; exact List.getElem_mem _
theorem fitR_unpad {x y : List Int} (h : x.length = y.length) (hf : Sp.fitR (Sp.pad x) (Sp.pad y) = true) : Sp.fitR x y = true := by
  rw [Sp.fitR_iff (by unfold Sp.pad; simp [h])] at hf
  rw [Sp.fitR_iff h]
  intro k
  by_cases hk : k < x.length
  · have := hf k
    have e : ∀ {z : List Int}, k < z.length → (Sp.pad z).getD k 0 = z.getD k 0 := fun {z} hz => by
      unfold Sp.pad
      rw [List.getD_eq_getElem?_getD, List.getElem?_append_left hz, List.getD_eq_getElem?_getD]
    rw [e hk, e (by omega)] at this; exact this
  · rw [List.getD_eq_getElem?_getD, List.getElem?_eq_none (by omega), List.getD_eq_getElem?_getD, List.getElem?_eq_none (by omega)]; simp
theorem mid_get {P x : List Int} {i : Nat} (hi : i < P.length) : (P.take i ++ x.drop i).getD i 0 = x.getD i 0 := by
  rw [List.getD_eq_getElem?_getD, List.getElem?_append_right (by rw [List.length_take]; omega), List.length_take, List.getElem?_drop, show i + (i - min i P.length) = i by omega, ← List.getD_eq_getElem?_getD]
theorem mid_set {P x : List Int} {i : Nat} (hi : i < P.length) (hx : i < x.length) : (P.take i ++ x.drop i).set i (P.getD i 0) = P.take (i + 1) ++ x.drop (i + 1) := by
  rw [List.set_append_right _ _ (by rw [List.length_take]; omega), List.length_take, show i - min i P.length = 0 by omega, List.drop_eq_getElem_cons hx, List.set_cons_zero, List.getD_eq_getElem?_getD, List.getElem?_eq_getElem hi, List.take_add_one, List.getElem?_eq_getElem hi]
  simp only [List.append_assoc, Option.toList, Option.getD_some, List.cons_append, List.nil_append]
set_option maxRecDepth 20000 in
set_option maxHeartbeats 4000000 in
theorem s13 (a : List (List Int)) (x : List Int) (ha : ∀ l ∈ a, l.length < 9223372036854775808) (hl : a.length < 9223372036854775808) (hx : x.length < 9223372036854775808) :
    Abs.Spec Try.prog 13 [.sl false false (mS a), .sl false false (mI x)] [] fun v H' => H' = [] ∧ v = B true := by
  obtain ⟨ha', hl'⟩ := tab6_len ha hl
  have hx6 : (x.take 6).length < 9223372036854775808 := by rw [List.length_take]; omega
  have e18 : ∀ H, CallV Try.prog (.fn (.func 18) [] []) [.sl false false (mS a)] H fun v H' => v = .sl false false (mS (Sp.table6 a)) ∧ H' = H := fun H => liftV (s18 false false a ha hl) (by simp [bndL, AVal.bnd, mS_bnd]) (by simp [AVal.bnd, mS_bnd]) H
  have e19 : ∀ H, CallV Try.prog (.fn (.func 19) [] []) [.sl false false (mI x)] H fun v H' => v = .sl false false (mI (x.take 6)) ∧ H' = H := fun H => liftV (s19 false false x hx) (by simp [bndL, AVal.bnd, mI_bnd]) (by simp [AVal.bnd, mI_bnd]) H
  have e25 : ∀ H, CallV Try.prog (.fn (.func 25) [] []) [] H fun v H' => v = B true ∧ H' = H := fun H => liftV s25 rfl rfl H
  refine Abs.Spec.walk mixed fn13 nn13 t13 q13 nt13 (by simp) ?_
  simp only [w13, go_sem, Nat.reduceEqDiff, Nat.reduceAdd, Nat.reduceLT, Nat.reduceLeDiff, reduceIte, reduceCtorEq]
  refine CallK.pure (e18 _) ?_
  simp only [go_sem, Nat.reduceEqDiff, Nat.reduceAdd, Nat.reduceLT, Nat.reduceLeDiff, reduceIte, reduceCtorEq]
  refine CallK.pure (e19 _) ?_
  simp only [go_sem, Nat.reduceEqDiff, Nat.reduceAdd, Nat.reduceLT, Nat.reduceLeDiff, reduceIte, reduceCtorEq]
  refine CallK.by (CallV.of_spec (first := []) (cap := []) (Spec.liftE (s51 false false false false _ _ ha' hl' hx6) (by simp [bndL, AVal.bnd, mS_bnd, mI_bnd]) (fun v h => splitC_bnd' h) _)) fun v H' ⟨hsc, hH⟩ => ?_
  subst hH
  obtain ⟨S, e, hvT, hS⟩ : ∃ S e, v = .tup [.sl false false (mS S), I e] ∧ ((Sp.vecOk a x (-100) 100 = false ∧ e = 2) ∨ (Sp.vecOk a x (-100) 100 = true ∧ Sp.moveB (a.map Sp.pad) (Sp.pad x) = false ∧ e = 4) ∨ (Sp.vecOk a x (-100) 100 = true ∧ Sp.moveB (a.map Sp.pad) (Sp.pad x) = true ∧ e = 0 ∧ ∃ l : List (List Int), l.length ≤ 400 ∧ Sp.SplitOk (a.map Sp.pad) (a.getD 0 []).length (Sp.pad x) l ∧ S = Sp.sortV (l.map fun y => y.take (a.getD 0 []).length))) := by
    have key : Sp.vecOk a x (-100) 100 = true → Sp.table6 a = a ∧ x.take 6 = x := fun h => by
      have h0 := h
      unfold Sp.vecOk at h
      rw [Bool.and_eq_true, Bool.and_eq_true, decide_eq_true_eq] at h
      obtain ⟨hm, xl, -⟩ := h
      obtain ⟨-, -, -, n4⟩ := Sp.mat_cols hm rfl
      exact ⟨Sp.mat_table.2 hm, List.take_of_length_le (by omega)⟩
    rcases hsc with ⟨h1, rfl⟩ | ⟨h1, h2, rfl⟩ | ⟨h1, h2, l, h3, h4, rfl⟩
    · rw [Sp.vecOk_take] at h1
      exact ⟨_, _, rfl, .inl ⟨h1, rfl⟩⟩
    · rw [Sp.vecOk_take] at h1
      obtain ⟨k1, k2⟩ := key h1
      rw [k1, k2] at h2
      exact ⟨_, _, rfl, .inr (.inl ⟨h1, h2, rfl⟩)⟩
    · rw [Sp.vecOk_take] at h1
      obtain ⟨k1, k2⟩ := key h1
      rw [k1, k2] at h2 h4
      exact ⟨_, _, rfl, .inr (.inr ⟨h1, h2, rfl, l, h3, h4, by rw [k1]⟩)⟩
  subst hvT
  simp only [List.getD_cons_zero, List.getD_cons_succ, go_sem, Nat.reduceEqDiff, Nat.reduceAdd, Nat.reduceLT, Nat.reduceLeDiff, reduceIte, reduceCtorEq]
  refine CallK.pure (e18 _) ?_
  simp only [go_sem, Nat.reduceEqDiff, Nat.reduceAdd, Nat.reduceLT, Nat.reduceLeDiff, reduceIte, reduceCtorEq]
  refine CallK.pure (e19 _) ?_
  simp only [go_sem, Nat.reduceEqDiff, Nat.reduceAdd, Nat.reduceLT, Nat.reduceLeDiff, reduceIte, reduceCtorEq]
  have hT : ∃ P f, timesA (Sp.table6 a) (x.take 6) = .tup [.sl false false (mI P), I f] ∧ (Sp.vecOk a x (-100) 100 = true → P = timesV a x ∧ f = 0) := by
    unfold timesA
    rw [Sp.vecOk_take]
    cases hv : Sp.vecOk a x (-1000) 1000 with
    | false =>
      refine ⟨_, _, rfl, fun h => ?_⟩
      exfalso
      unfold Sp.vecOk at h hv
      rw [Bool.and_eq_true, Bool.and_eq_true] at h
      rw [h.1, h.2.1, Bool.true_and, Bool.true_and] at hv
      have := Sp.inB_numbers.1 (Sp.inB_mono (Sp.inB_numbers.2 h.2.2) (show (100 : Int) ≤ 1000 by decide))
      rw [this] at hv; cases hv
    | true =>
      refine ⟨_, _, rfl, fun h => ⟨?_, rfl⟩⟩
      unfold Sp.vecOk at h
      rw [Bool.and_eq_true, Bool.and_eq_true, decide_eq_true_eq] at h
      obtain ⟨hm, xl, -⟩ := h
      obtain ⟨-, -, -, n4⟩ := Sp.mat_cols hm rfl
      rw [Sp.mat_table.2 hm, List.take_of_length_le (by omega)]
  obtain ⟨P, f, hT, hPf⟩ := hT
  have hs17 := s17 false false false false _ _ ha' hl' hx6
  rw [hT] at hs17
  refine CallK.pure (liftV hs17 (by simp [bndL, AVal.bnd, mS_bnd, mI_bnd]) (by simp [AVal.bnd, bndL, mI_bnd]) _) ?_
  simp only [List.getD_cons_zero, List.getD_cons_succ, go_sem, Nat.reduceEqDiff, Nat.reduceAdd, Nat.reduceLT, Nat.reduceLeDiff, reduceIte, reduceCtorEq]
  refine CallK.pure (liftV (s21 false false false false a x (-100) 100 ha hl hx) (by simp [bndL, AVal.bnd, mS_bnd, mI_bnd]) rfl _) ?_
  rcases hS with ⟨hv, rfl⟩ | ⟨hv, hmv, rfl⟩ | ⟨hv, hmv, rfl, l, hl4, hsp, hSe⟩
  · simp only [hv, u22, go_sem, Nat.reduceEqDiff, Nat.reduceAdd, Nat.reduceLT, Nat.reduceLeDiff, reduceIte, reduceCtorEq]
    refine CallK.pure (e25 _) ?_
    simp only [go_sem, Nat.reduceEqDiff, Nat.reduceAdd, Nat.reduceLT, Nat.reduceLeDiff, reduceIte, reduceCtorEq]
    exact leaf (B true) rfl ⟨rfl, rfl⟩
  · obtain ⟨hP, rfl⟩ := hPf hv
    have htm := Sp.times_move hv
    rw [hmv] at htm
    subst hP
    simp only [hv, go_sem, Nat.reduceEqDiff, Nat.reduceAdd, Nat.reduceLT, Nat.reduceLeDiff, reduceIte, reduceCtorEq]
    refine CallK.pure (liftV (s42 false false (timesV a x) _ (fun z => z != 0) (fun z _ => liftV (s56 z) rfl rfl _) (fun H => by simp [vle, vle.vleL]) (by simp [timesV]; omega)) (by simp [bndL, AVal.bnd, mI_bnd]) rfl _) ?_
    simp only [htm, u44, go_sem, Nat.reduceEqDiff, Nat.reduceAdd, Nat.reduceLT, Nat.reduceLeDiff, reduceIte, reduceCtorEq]
    refine CallK.pure (e25 _) ?_
    simp only [go_sem, Nat.reduceEqDiff, Nat.reduceAdd, Nat.reduceLT, Nat.reduceLeDiff, reduceIte, reduceCtorEq]
    exact leaf (B true) rfl ⟨rfl, rfl⟩
  obtain ⟨hP, rfl⟩ := hPf hv
  have htm := Sp.times_move hv
  rw [hmv] at htm
  subst hP
  simp only [hv, go_sem, Nat.reduceEqDiff, Nat.reduceAdd, Nat.reduceLT, Nat.reduceLeDiff, reduceIte, reduceCtorEq]
  refine CallK.pure (liftV (s42 false false (timesV a x) _ (fun z => z != 0) (fun z _ => liftV (s56 z) rfl rfl _) (fun H => by simp [vle, vle.vleL]) (by simp [timesV]; omega)) (by simp [bndL, AVal.bnd, mI_bnd]) rfl _) ?_
  have hv0 := hv
  unfold Sp.vecOk at hv0
  rw [Bool.and_eq_true, Bool.and_eq_true, decide_eq_true_eq] at hv0
  obtain ⟨hm, xl, xn⟩ := hv0
  obtain ⟨-, -, n1, n4⟩ := Sp.mat_cols hm rfl
  simp only [htm, go_sem, Nat.reduceEqDiff, Nat.reduceAdd, Nat.reduceLT, Nat.reduceLeDiff, reduceIte, reduceCtorEq]
  refine CallK.pure (e18 _) ?_
  rw [Sp.mat_table.2 hm]
  simp only [go_sem, Nat.reduceEqDiff, Nat.reduceAdd, Nat.reduceLT, Nat.reduceLeDiff, reduceIte, reduceCtorEq]
  have hs39 := s39d false false a ha hl
  rw [basA, if_pos hm] at hs39
  refine CallK.pure (liftV hs39 (by simp [bndL, AVal.bnd, mS_bnd]) (by simp [AVal.bnd, bndL, mS_bnd]) _) ?_
  simp only [List.getD_cons_zero, List.getD_cons_succ, go_sem, Nat.reduceEqDiff, Nat.reduceAdd, Nat.reduceLT, Nat.reduceLeDiff, reduceIte, reduceCtorEq]
  refine ⟨⟨by omega, by omega, by omega⟩, ?_⟩
  obtain ⟨hpS, hsum⟩ := Sp.parts hm hsp hSe.symm
  have Sl : S.length ≤ 400 := by rw [hSe, (Sp.sortV_perm _).length_eq, List.length_map]; exact hl4
  obtain ⟨L, hL⟩ : ∃ L, Sp.basL a = L := ⟨_, rfl⟩
  have f1 : L.length ≤ 400 := by rw [← hL]; exact Sp.ans_len hm (Sp.basB_is _ _)
  have f3 : ∀ y ∈ L, Sp.inB 16 y := fun y hy => Sp.ans_num hm (Sp.basB_is _ _) (by rw [← hL] at hy; exact hy)
  rw [hL] at hpS ⊢
  rw [← xl] at hpS n4 n1
  obtain ⟨n, hn⟩ : ∃ n, x.length = n := ⟨_, rfl⟩
  rw [hn] at hpS n4 n1 ⊢
  have S9 : ∀ s ∈ S, s.length < 9223372036854775808 := fun s hs => by have := (hpS s hs).2.1; omega
  have S16 : ∀ s ∈ S, Sp.inB 16 s := fun s hs => f3 s (hpS s hs).1
  have SB : ∀ k j, -6400 ≤ Sp.sumC (S.take k) j ∧ Sp.sumC (S.take k) j ≤ 6400 := fun k j => by
    have h1 := Sp.sumC_bnd (j := j) (l := S.take k) fun s hs => S16 s (List.mem_of_mem_take hs)
    have h2 : (S.take k).length ≤ 400 := by rw [List.length_take]; omega
    omega
  rw [← Sp.runS_nil n]
  refine W_loop (fun q : { k : Nat // k ≤ S.length } => ([(0, .sl false false (mS a)), (1, .sl false false (mI x)), (5, .sl false false (mS S)), (9, .sl false false (mS L)), (10, .own 0 0 n n 1), (65, .sl false false (mS S)), (66, I S.length), (67, I q.1)], [.cells (mI (Sp.runS n (S.take q.1)))])) (fun q => S.length - q.1) ⟨0, by omega⟩ [some 0] (Wk.mk0 rfl (by simp [imgs, Blk.alive]) (by simp [hle, csle, mI_bnd]) (by simp [fle, vle, Fr.get, mS_bnd, mI_bnd])) ?_
  rintro ⟨k, hk⟩
  dsimp only
  by_cases hkl : k < S.length
  · have d1 : (k : Int) < S.length := by omega
    have gk := mS_getD hkl
    have km := gd_mem hkl
    obtain ⟨z, hz⟩ : ∃ z, S.getD k [] = z := ⟨_, rfl⟩
    rw [hz] at gk km
    obtain ⟨zL, zl, -, zf⟩ := hpS z km
    have zx := fitR_unpad (by omega) zf
    have z9 := S9 z km
    have zm : (mI z).length = n := by rw [mI_length, zl]
    have xm : (mI x).length = n := by rw [mI_length, hn]
    have nF : ((n : Int) != (n : Int)) = false := bne_self_eq_false _
    have hany : L.any (fun y => z == y) = true := by rw [List.any_eq_true]; exact ⟨z, zL, by simp⟩
    have hw : IntKind.i64.wrap ((k : Int) + 1) = (k : Int) + 1 := wrap64 (by omega) (by omega)
    simp only [w13L0, d1, gk, zm, xm, nF, go_sem, Nat.reduceEqDiff, Nat.reduceAdd, Nat.reduceLT, Nat.reduceLeDiff, reduceIte, reduceCtorEq]
    refine CallK.pure (liftV (s26 false false false false z x (by omega) (by omega)) (by simp [bndL, AVal.bnd, mI_bnd]) rfl _) ?_
    simp only [zx, go_sem, Nat.reduceEqDiff, Nat.reduceAdd, Nat.reduceLT, Nat.reduceLeDiff, reduceIte, reduceCtorEq]
    have hk44 := s44 false false L (.fn (.func 57) [] [.rp [sI z]]) (fun y => z == y) (fun y hy => CallV.of_spec (first := []) ((s57 y z z9).mono fun v H' h => ⟨h.2, h.1⟩)) (fun H => by simp [vle, vle.vleL, bndL, AVal.bnd, mI_bnd, sI]) (by omega)
    refine CallK.pure (CallV.of_spec (first := []) (cap := []) (Spec.lend (args' := [.sl false false (mS L), .fn (.func 57) [] [.rp [sI z]]]) hk44 rfl (by simp [vle, vle.vleL, mS_bnd, bndL, AVal.bnd, mI_bnd, sI]))) ?_
    simp only [hany, zm, go_sem, Nat.reduceEqDiff, Nat.reduceAdd, Nat.reduceLT, Nat.reduceLeDiff, reduceIte, reduceCtorEq]
    obtain ⟨R, hR⟩ : ∃ R, Sp.runS n (S.take k) = R := ⟨_, rfl⟩
    obtain ⟨T, hT'⟩ : ∃ T, Sp.runS n (S.take (k + 1)) = T := ⟨_, rfl⟩
    have Rl : R.length = n := by rw [← hR, Sp.runS_len]
    have Tl : T.length = n := by rw [← hT', Sp.runS_len]
    have RT : ∀ j, j < n → T.getD j 0 = R.getD j 0 + z.getD j 0 ∧ -6400 ≤ R.getD j 0 ∧ R.getD j 0 ≤ 6400 := fun j hj => by
      rw [← hR, ← hT', Sp.runS_get _ hj, Sp.runS_get _ hj]
      refine ⟨?_, SB k j⟩
      rw [← hz, List.take_add_one, Sp.sumC_app, List.getElem?_eq_getElem hkl, List.getD_eq_getElem?_getD (l := S), List.getElem?_eq_getElem hkl]
      simp [Sp.sumC]
    rw [hR]
    refine W_loop (fun q : { j : Nat // j ≤ n } => ([(0, .sl false false (mS a)), (1, .sl false false (mI x)), (5, .sl false false (mS S)), (9, .sl false false (mS L)), (10, .own 0 0 n n 1), (65, .sl false false (mS S)), (66, I S.length), (67, I k), (88, .sl false false (mI z)), (89, I n), (90, I q.1)], [.cells (mI (T.take q.1 ++ R.drop q.1))])) (fun q => n - q.1) ⟨0, by omega⟩ [some 0] (Wk.mk0 rfl (by simp [imgs, Blk.alive]) (by simp [hle, csle, mI_bnd]) (by simp [fle, vle, Fr.get, mS_bnd, mI_bnd])) ?_
    rintro ⟨j, hj⟩
    dsimp only
    by_cases hjn : j < n
    · have d2 : (j : Int) < n := by omega
      obtain ⟨t1, t2⟩ := RT j hjn
      have qi := mid_get (P := T) (x := R) (i := j) (by omega)
      have qs := mid_set (P := T) (x := R) (i := j) (by omega) (by omega)
      have Ql : (T.take j ++ R.drop j).length = n := by rw [List.length_append, List.length_take, List.length_drop]; omega
      obtain ⟨Q, hQ⟩ : ∃ Q, T.take j ++ R.drop j = Q := ⟨_, rfl⟩
      rw [hQ] at Ql qi qs ⊢
      have zj := Sp.inB_getD (S16 z km) j
      have p1 := mI_hd0 (l := Q) (i := j) (by omega)
      have p2 : (mI z).getD j any = I (z.getD j 0) := mI_get (by omega)
      have p3 := mI_pt0 (l := Q) (i := j) (by omega) (T.getD j 0)
      rw [qi] at p1
      rw [qs] at p3
      have e2 : IntKind.i64.wrap (R.getD j 0 + z.getD j 0) = T.getD j 0 := by rw [t1]; exact wrap64 (by omega) (by omega)
      have hwj : IntKind.i64.wrap ((j : Int) + 1) = (j : Int) + 1 := wrap64 (by omega) (by omega)
      have Qm : (mI Q).length = n := by rw [mI_length, Ql]
      simp only [w13L1, d2, p1, p2, e2, p3, hwj, go_sem, Nat.reduceEqDiff, Nat.reduceAdd, Nat.reduceLT, Nat.reduceLeDiff, reduceIte, reduceCtorEq]
      refine ⟨by omega, by omega, by omega, ?_⟩
      exact round1 rfl ⟨j + 1, by omega⟩ [some 0] (by dsimp only; omega) (Wk.mk0 rfl (by simp [imgs, Blk.alive]) (by simp [hle, csle, mI_bnd]) (by simp [fle, vle, Fr.get, mS_bnd, mI_bnd]))
    · have d2 : ¬ (j : Int) < n := by omega
      have ej : j = n := by omega
      subst ej
      rw [List.take_of_length_le (by omega), List.drop_of_length_le (by omega), List.append_nil, ← hT']
      simp only [w13L1, w13T2, d2, hw, go_sem, Nat.reduceEqDiff, Nat.reduceAdd, Nat.reduceLT, Nat.reduceLeDiff, reduceIte, reduceCtorEq]
      exact round1 rfl ⟨k + 1, by omega⟩ [some 0] (by dsimp only; omega) (Wk.mk0 rfl (by simp [imgs, Blk.alive]) (by simp [hle, csle, mI_bnd]) (by simp [fle, vle, Fr.get, mS_bnd, mI_bnd]))
  · have d1 : ¬ (k : Int) < S.length := by omega
    have ek : k = S.length := by omega
    subst ek
    rw [List.take_length]
    simp only [w13L0, w13T3, d1, go_sem, Nat.reduceEqDiff, Nat.reduceAdd, Nat.reduceLT, Nat.reduceLeDiff, reduceIte, reduceCtorEq]
    refine CallK.pure (e18 _) ?_
    rw [Sp.mat_table.2 hm]
    simp only [go_sem, Nat.reduceEqDiff, Nat.reduceAdd, Nat.reduceLT, Nat.reduceLeDiff, reduceIte, reduceCtorEq]
    refine CallK.pure (e19 _) ?_
    rw [List.take_of_length_le (show x.length ≤ 6 by omega)]
    simp only [go_sem, Nat.reduceEqDiff, Nat.reduceAdd, Nat.reduceLT, Nat.reduceLeDiff, reduceIte, reduceCtorEq]
    refine CallK.pure (liftV (s18 false false S S9 (by omega)) (by simp [bndL, AVal.bnd, mS_bnd]) (by simp [AVal.bnd, mS_bnd]) _) ?_
    obtain ⟨S9', Sl'⟩ := tab6_len S9 (show S.length < 9223372036854775808 by omega)
    have hs53 := s53 false false false false false false a x (Sp.table6 S) ha hl hx S9' Sl'
    rw [checkA, if_pos hv] at hs53
    simp only [go_sem, Nat.reduceEqDiff, Nat.reduceAdd, Nat.reduceLT, Nat.reduceLeDiff, reduceIte, reduceCtorEq]
    refine CallK.pure (liftV hs53 (by simp [bndL, AVal.bnd, mS_bnd, mI_bnd]) (by simp [AVal.bnd, bndL]) _) ?_
    have rx : Sp.runS n S = x := by
      refine List.ext_getElem (by rw [Sp.runS_len, hn]) fun j h1 h2 => ?_
      have hj : j < n := by omega
      have g1 := Sp.runS_get S hj
      have g2 := hsum j
      rw [Sp.sumC_pad hj (fun s hs => (hpS s hs).2.1)] at g2
      rw [← g2] at g1
      unfold Sp.pad at g1
      rw [List.getD_eq_getElem?_getD, List.getElem?_eq_getElem h1, List.getD_eq_getElem?_getD, List.getElem?_append_left h2, List.getElem?_eq_getElem h2] at g1
      exact g1
    simp only [List.getD_cons_zero, List.getD_cons_succ, go_sem, Nat.reduceEqDiff, Nat.reduceAdd, Nat.reduceLT, Nat.reduceLeDiff, reduceIte, reduceCtorEq]
    rw [rx]
    refine CallK.pure (CallV.of_spec (first := []) (cap := []) (Spec.lend (args' := [.sl false false (mI x), .sl false false (mI x)]) (s22 false false false false x x hx) rfl ⟨vle_mI rfl (by simp) hn.symm (List.take_of_length_le (by rw [mI_length]; omega)), ⟨mI_bnd, fun h => h, fun h => h, rfl⟩, trivial⟩)) ?_
    have cc : (x == x) = true := beq_self_eq_true x
    obtain ⟨c, hc⟩ : ∃ c, checkL (Sp.basL a) (Sp.pad x) Sp.z4 (Sp.table6 S) = c := ⟨_, rfl⟩
    rw [hc]
    have hc' : S.length ≤ 250 → c = true := fun h => by
      rw [Sp.table6_id h (fun r hr => by have := (hpS r hr).2.1; omega)] at hc
      rw [← hc, hL]
      refine Sp.check_true (Sp.pad_len (by omega)) S rfl ?_ (fun s hs => ⟨(hpS s hs).1, (hpS s hs).2.2⟩) fun j => by rw [hsum j, Sp.z4_getD]; omega
      rw [Sp.fitR_iff (by rw [Sp.pad_len (by omega)]; rfl)]
      intro k
      rw [Sp.z4_getD]; omega
    cases c with
    | true =>
      simp only [cc, u00, go_sem, Nat.reduceEqDiff, Nat.reduceAdd, Nat.reduceLT, Nat.reduceLeDiff, reduceIte, reduceCtorEq]
      refine CallK.pure (e25 _) ?_
      simp only [go_sem, Nat.reduceEqDiff, Nat.reduceAdd, Nat.reduceLT, Nat.reduceLeDiff, reduceIte, reduceCtorEq]
      exact leaf (B true) rfl ⟨rfl, rfl⟩
    | false =>
      have hS2 : (250 : Int) < S.length := by
        by_cases h : S.length ≤ 250
        · cases hc' h
        · omega
      simp only [cc, u00, hS2, go_sem, Nat.reduceEqDiff, Nat.reduceAdd, Nat.reduceLT, Nat.reduceLeDiff, reduceIte, reduceCtorEq]
      refine CallK.pure (e25 _) ?_
      simp only [go_sem, Nat.reduceEqDiff, Nat.reduceAdd, Nat.reduceLT, Nat.reduceLeDiff, reduceIte, reduceCtorEq]
      exact leaf (B true) rfl ⟨rfl, rfl⟩
end Go.Proofs.Ytipfjfmdjmaflaa
