/- The statement ConesChain. -/
import Derived.Test.YtipfjfmdjmaflaaNF
import Derived.Test.YtipfjfmdjmaflaaNJ
namespace Go.Proofs.Ytipfjfmdjmaflaa
open Go.Abs AVal
set_option linter.unusedSimpArgs false
attribute [local go_sem] W_skip W_keep KQ_canon canon Fr.norm W_seq W_block W_scope W_exit W_ret W_ops W_draw KQ_nil KQ_norm_seq KQ_exit_seq KQ_ret_seq KQ_norm_block KQ_ret_block KQ_exit_block KQ_exit_loop KQ_ret_loop O_nil O_cons S_call S_mv SE_mv SD_mv S_pick SE_pick SD_pick S_bin SE_bin SD_bin S_eqb SE_eqb SD_eqb S_eqv SE_eqv SD_eqv S_eqnil SE_eqnil SD_eqnil S_un SE_un SD_un S_conv SE_conv SD_conv S_mkfn SE_mkfn SD_mkfn S_load SE_load SD_load S_nilck SE_nilck SD_nilck S_slS SE_slS SD_slS S_slP SE_slP SD_slP S_fldA SE_fldA SD_fldA S_fld SE_fld SD_fld S_ixS SE_ixS SD_ixS S_ixP SE_ixP SD_ixP S_ixV SE_ixV SD_ixV S_ixStr SE_ixStr SD_ixStr S_ext SE_ext SD_ext S_len SE_len SD_len S_lenStr SE_lenStr SD_lenStr S_lenc SE_lenc SD_lenc S_mn SE_mn SD_mn S_mx SE_mx SD_mx S_build SE_build SD_build S_alloc SD_alloc S_box SD_box S_bslice SD_bslice S_mksl SD_mksl S_store SD_store S_append SD_append S_copy SD_copy S_clr SD_clr aq_some aa_some al_some aqd_some aad_some ald_some ape_some D_done D_both D_early D_step SE_call SD_call IOpd.ev Fr.get Fr.put Fr.putd entryFr pickA binA binI isSh shI eqbA eqvA ints ints_mI Option.map_some eqnilA unA convA loadA nilckA intA slSA slPA fldAA fldVA ixSA ixPA ixVA ixStrA extA lenA lenStrA mnA mxA AVal.fits fillA fillOk buildA opa srcA appA stoA copA clrA rdFree zeros List.length_nil List.length_cons List.length_map List.map_cons List.map_nil Option.map_some Option.map_none if_true if_false ite_true ite_false true_and and_true and_self implies_true forall_const true_implies Bool.false_eq_true Bool.not_true Bool.not_false decide_eq_true_eq decide_eq_false_iff_not eq_self List.getElem?_cons_zero List.getElem?_cons_succ List.getElem?_nil List.set_cons_zero List.set_cons_succ List.nil_append List.cons_append List.append_nil List.replicate_zero List.replicate_succ Nat.zero_add false_implies rng_lt rng_end rng_get cells_I cells_B cells_sl cut_one Int.toNat_natCast Int.natCast_nonneg List.headD_cons Int.lt_irrefl not_false_eq_true decide_false decide_true mI_length mI_cells mI_sz mI_isCell mI_mid mI_append mI_take mI_drop cells_val cells_own cells_agg isCell_I isCell_B isCell_nil isCell_sl isCell_own isCell_ptr isCell_fn isCell_rp isCell_yld cellsOk_I cellsOk_B cellsOk_nil cellsOk_sl cellsOk_own cellsOk_ptr cellsOk_fn cellsOk_rp cellsOk_yld cellsOk_agg cells_nil cells_ptr cells_fn cells_rp List.all_cons List.all_nil Bool.and_true Nat.mul_one Nat.zero_mul Nat.one_mul List.take_zero List.take_nil List.drop_nil List.drop_zero List.not_mem_nil Nat.le_refl Nat.zero_le mS_length mS_cells mS_sz mS_isCell mS_mid mS_append mS_take mS_drop cells_sI isCell_sI cellsOk_sI sI_eq succ_le_self' List.take_succ_cons List.drop_succ_cons List.take_length beq_self_eq_true List.mem_cons or_false forall_eq mI_put mI_rep O_guard' D_earlyG' D_stepG' W_cond' G_tt G_tf G_ft G_ff GE_tt GE_tf GE_ft GE_ff GS_tt GS_tf GS_ft GS_ff G_u GE_u GS_u IC_t IC_f xft xff xtt xtf z00 z20 z22 z02 zz tn0

set_option maxRecDepth 20000 in
set_option maxHeartbeats 4000000 in
theorem s7 (a : List (List Int)) (x p : List Int) (ha : ∀ l ∈ a, l.length < 9223372036854775808) (hl : a.length < 9223372036854775808) (hx : x.length < 9223372036854775808) (hp : p.length < 9223372036854775808) :
    Abs.Spec Try.prog 7 [.sl false false (mS a), .sl false false (mI x), .sl false false (mI p)] [] fun v H' => H' = [] ∧ v = B true := by
  obtain ⟨ha', hl'⟩ := tab6_len ha hl
  have hx6 : (x.take 6).length < 9223372036854775808 := by rw [List.length_take]; omega
  have hp6 : (p.take 6).length < 9223372036854775808 := by rw [List.length_take]; omega
  have e18 : ∀ H, CallV Try.prog (.fn (.func 18) [] []) [.sl false false (mS a)] H fun v H' => v = .sl false false (mS (Sp.table6 a)) ∧ H' = H := fun H => liftV (s18 false false a ha hl) (by simp [bndL, AVal.bnd, mS_bnd]) (by simp [AVal.bnd, mS_bnd]) H
  have e19 : ∀ H, CallV Try.prog (.fn (.func 19) [] []) [.sl false false (mI x)] H fun v H' => v = .sl false false (mI (x.take 6)) ∧ H' = H := fun H => liftV (s19 false false x hx) (by simp [bndL, AVal.bnd, mI_bnd]) (by simp [AVal.bnd, mI_bnd]) H
  have e19p : ∀ H, CallV Try.prog (.fn (.func 19) [] []) [.sl false false (mI p)] H fun v H' => v = .sl false false (mI (p.take 6)) ∧ H' = H := fun H => liftV (s19 false false p hp) (by simp [bndL, AVal.bnd, mI_bnd]) (by simp [AVal.bnd, mI_bnd]) H
  have e25 : ∀ H, CallV Try.prog (.fn (.func 25) [] []) [] H fun v H' => v = B true ∧ H' = H := fun H => liftV s25 rfl rfl H
  have e21 : ∀ H, CallV Try.prog (.fn (.func 21) [] []) [.sl false false (mS a), .sl false false (mI x), I 0, I 6] H fun v H' => v = B (Sp.vecOk a x 0 6) ∧ H' = H := fun H => liftV (s21 false false false false a x 0 6 ha hl hx) (by simp [bndL, AVal.bnd, mS_bnd, mI_bnd]) rfl H
  have e21p : ∀ H, CallV Try.prog (.fn (.func 21) [] []) [.sl false false (mS a), .sl false false (mI p), I (-9), I 9] H fun v H' => v = B (Sp.vecOk a p (-9) 9) ∧ H' = H := fun H => liftV (s21 false false false false a p (-9) 9 ha hl hp) (by simp [bndL, AVal.bnd, mS_bnd, mI_bnd]) rfl H
  refine Abs.Spec.walk mixed fn7 nn7 t7 q7 nt7 (by simp) ?_
  simp only [w7, go_sem, Nat.reduceEqDiff, Nat.reduceAdd, Nat.reduceLT, Nat.reduceLeDiff, reduceIte, reduceCtorEq]
  refine CallK.pure (e18 _) ?_
  simp only [go_sem, Nat.reduceEqDiff, Nat.reduceAdd, Nat.reduceLT, Nat.reduceLeDiff, reduceIte, reduceCtorEq]
  refine CallK.pure (e19 _) ?_
  simp only [go_sem, Nat.reduceEqDiff, Nat.reduceAdd, Nat.reduceLT, Nat.reduceLeDiff, reduceIte, reduceCtorEq]
  refine CallK.pure (e19p _) ?_
  simp only [go_sem, Nat.reduceEqDiff, Nat.reduceAdd, Nat.reduceLT, Nat.reduceLeDiff, reduceIte, reduceCtorEq]
  refine CallK.by (CallV.of_spec (first := []) (cap := []) (Spec.liftE (s32 _ _ _ ha' hl' hx6 hp6) (by simp [bndL, AVal.bnd, mS_bnd, mI_bnd]) (fun v h => bestR_bnd h) _)) fun v H' ⟨hb, hH⟩ => ?_
  subst hH
  have z22 : ((2 : Int) == 2) = true := rfl
  have z52 : ((5 : Int) == 2) = false := rfl
  have z55 : ((5 : Int) == 5) = true := rfl
  have n2 : ((2 : Int) != 0) = true := rfl
  have n5 : ((5 : Int) != 0) = true := rfl
  have n0 : ((0 : Int) != 0) = false := rfl
  have n4' : ((4 : Int) != 0) = true := rfl
  have z44 : ((4 : Int) == 4) = true := rfl
  rcases hb with ⟨h, rfl⟩ | ⟨h, h2, rfl⟩ | ⟨hok, hnp, nb, hL, rfl⟩
  · simp only [List.getD_cons_zero, List.getD_cons_succ, n2, z22, go_sem, Nat.reduceEqDiff, Nat.reduceAdd, Nat.reduceLT, Nat.reduceLeDiff, reduceIte, reduceCtorEq]
    refine CallK.pure (e25 _) ?_
    simp only [go_sem, Nat.reduceEqDiff, Nat.reduceAdd, Nat.reduceLT, Nat.reduceLeDiff, reduceIte, reduceCtorEq]
    exact leaf (B true) rfl ⟨rfl, rfl⟩
  · simp only [List.getD_cons_zero, List.getD_cons_succ, n5, z52, z55, go_sem, Nat.reduceEqDiff, Nat.reduceAdd, Nat.reduceLT, Nat.reduceLeDiff, reduceIte, reduceCtorEq]
    refine CallK.pure (e25 _) ?_
    simp only [go_sem, Nat.reduceEqDiff, Nat.reduceAdd, Nat.reduceLT, Nat.reduceLeDiff, reduceIte, reduceCtorEq]
    exact leaf (B true) rfl ⟨rfl, rfl⟩
  rw [prOk_take] at hok
  have hok0 := hok
  rw [prOk_vec, Bool.and_eq_true] at hok0
  obtain ⟨hv1, hv2⟩ := hok0
  obtain ⟨hm, xl, pl, Xl, Pl, bX, pX, bP, bp, bx⟩ := prOk_spec (by decide) hok
  obtain ⟨r1, r2, n1, n4⟩ := mat_rows hm
  have k1 := Sp.mat_table.2 hm
  have k2 : x.take 6 = x := List.take_of_length_le (by omega)
  have k3 : p.take 6 = p := List.take_of_length_le (by omega)
  rw [k1, k2, k3] at hL
  rw [k1] at hnp
  rw [k1] at e18
  rw [k2] at e19
  rw [k3] at e19p
  obtain ⟨n, hn⟩ : ∃ n, (a.getD 0 []).length = n := ⟨_, rfl⟩
  have Xp : ∀ j, (a.getD 0 []).length ≤ j → (Sp.pad x).getD j 0 = 0 := fun j hj => Sp.pad_getD xl hj
  have hnp' : ∀ m, Sp.Mini (a.map Sp.pad) (a.getD 0 []).length m → posV m = false := fun m hM => by
    have e := Sp.take_pad (by omega) hM.mv.len hM.mv.pad
    have h1 := List.any_eq_false.1 hnp (m.take (a.getD 0 []).length) ((Sp.mem_basL hm).2 ⟨by rw [List.length_take, hM.mv.len]; omega, by rw [e]; exact hM⟩)
    rw [← Sp.posV_pad, e] at h1
    simpa using h1
  have dpe : ∀ y : List Int, y.length = (a.getD 0 []).length → Sp.dp (Sp.pad p) (Sp.pad y) = Sp.dp p y := fun y hy => dp_pad (by omega)
  simp only [List.getD_cons_zero, List.getD_cons_succ, n0, go_sem, Nat.reduceEqDiff, Nat.reduceAdd, Nat.reduceLT, Nat.reduceLeDiff, reduceIte, reduceCtorEq]
  refine CallK.pure (e21 _) ?_
  simp only [hv1, go_sem, Nat.reduceEqDiff, Nat.reduceAdd, Nat.reduceLT, Nat.reduceLeDiff, reduceIte, reduceCtorEq]
  refine CallK.pure (e21p _) ?_
  simp only [hv2, go_sem, Nat.reduceEqDiff, Nat.reduceAdd, Nat.reduceLT, Nat.reduceLeDiff, reduceIte, reduceCtorEq]
  refine CallK.pure (e19 _) ?_
  simp only [go_sem, Nat.reduceEqDiff, Nat.reduceAdd, Nat.reduceLT, Nat.reduceLeDiff, reduceIte, reduceCtorEq]
  refine W_loop (fun s : { s : Nat × List Int // s.2.length = (a.getD 0 []).length ∧ Sp.Fam (a.map Sp.pad) (a.getD 0 []).length (Sp.pad x) (Sp.pad s.2) ∧ Sp.dp p s.2 + s.1 ≤ Sp.dp p x } => ([(0, .sl false false (mS a)), (1, .sl false false (mI x)), (2, .sl false false (mI p)), (7, I nb), (9, .sl false false (mI s.1.2)), (47, I s.1.1)], [])) (fun s => 2000 - s.1.1)
    ⟨(0, x), xl, Sp.Fam.self Xl Xp pX, by simp⟩ [] (Wk.nil (by simp [fle, vle, Fr.get, mS_bnd, mI_bnd])) ?_
  rintro ⟨⟨k, y⟩, yl, hF, hk⟩
  dsimp only at yl hF hk ⊢
  have hgap := Sp.gap hm Xl Xp bX Pl bP hnp' hF
  rw [dpe x xl, dpe y yl] at hgap
  have hkk : k ≤ 1728 := by omega
  have d1 : decide ((k : Int) < 2000) = true := decide_eq_true (by omega)
  have yb := Sp.fam_bound hm Xl Xp pX (by decide) bX hnp' hF
  have yb1 : Sp.inB 390 y := (Sp.inB_pad (by decide)).1 yb
  have yp : posV y = true := by rw [← Sp.posV_pad]; exact hF.pos
  have num : ∀ M : Int, 390 ≤ M → ∀ w : List Int, Sp.inB 390 w → posV w = true → Sp.numbers w 0 M = true := fun M hM w hw hwp => by
    unfold Sp.numbers posV at *
    rw [List.all_eq_true] at *
    intro z hz
    have h1 := of_decide_eq_true (hwp z hz)
    have h2 := hw z hz
    simp only [Bool.and_eq_true, decide_eq_true_eq]
    omega
  have hny := num 1000 (by decide) y yb1 yp
  have e24 := fun H => liftV (s24 false false y 0 1000 (by omega)) (by simp [bndL, AVal.bnd, mI_bnd]) rfl H
  rw [hny] at e24
  have hoky : prOk a y p 1000 = true := by
    unfold prOk Sp.vecOk
    rw [hm, decide_eq_true yl, hny, decide_eq_true pl, Sp.inB_numbers.1 bp]; rfl
  have e38 : ∀ H, CallV Try.prog (.fn (.func 38) [] []) [.sl false false (mI y)] H fun v H' => v = .sl false false (mI y) ∧ H' = H := fun H => liftV (s38' false false y (by omega)) (by simp [bndL, AVal.bnd, mI_bnd]) (by simp [AVal.bnd, mI_bnd]) H
  have h33 := s33 a y p ha hl (by omega) hp
  rw [stepR_eq] at h33
  unfold stepP at h33
  rw [hoky, if_pos rfl, hnp, if_neg (by decide)] at h33
  have h37 : ∀ z : List Int, z.length = (a.getD 0 []).length → Sp.inB 390 z → ∀ H, CallV Try.prog (.fn (.func 37) [] []) [.sl false false (mI z), .sl false false (mI p)] H fun v H' => v = I (Sp.dp p z) ∧ H' = H := fun z hz bz H => liftV (s37 false false false false z p (by omega) (by omega) (Sp.inB_mono bz (by decide)) bp) (by simp [bndL, AVal.bnd, mI_bnd]) rfl H
  simp only [w7L0, d1, go_sem, Nat.reduceEqDiff, Nat.reduceAdd, Nat.reduceLT, Nat.reduceLeDiff, reduceIte, reduceCtorEq]
  refine CallK.pure (e24 _) ?_
  simp only [go_sem, Nat.reduceEqDiff, Nat.reduceAdd, Nat.reduceLT, Nat.reduceLeDiff, reduceIte, reduceCtorEq]
  refine CallK.pure (e18 _) ?_
  simp only [go_sem, Nat.reduceEqDiff, Nat.reduceAdd, Nat.reduceLT, Nat.reduceLeDiff, reduceIte, reduceCtorEq]
  refine CallK.pure (e38 _) ?_
  simp only [go_sem, Nat.reduceEqDiff, Nat.reduceAdd, Nat.reduceLT, Nat.reduceLeDiff, reduceIte, reduceCtorEq]
  refine CallK.pure (e19p _) ?_
  have hst := Sp.stepF_is (Sp.dp (Sp.pad p)) (Sp.dp (Sp.pad p) (Sp.pad y)) (nearL (Sp.pad y) (Sp.basB (a.map Sp.pad) (a.getD 0 []).length))
  have hst' : Sp.IsStep (Sp.dp (Sp.pad p)) (Sp.dp (Sp.pad p) (Sp.pad y)) (nearL (Sp.pad y) (Sp.basB (a.map Sp.pad) (a.getD 0 []).length)) (stepA a (Sp.pad p) (Sp.pad y)) := hst
  cases hr : stepA a (Sp.pad p) (Sp.pad y) with
  | none =>
    rw [hr] at h33 hst'
    have hle : Sp.dp p y = nb := by
      have hno := hst'.no rfl
      have hL2 : Least a (Sp.pad p) (Sp.pad x) (Sp.dp (Sp.pad p) (Sp.pad y)) := ⟨⟨_, hF, rfl⟩, fun Y hY => Sp.fam_least hm hF.len hF.pad hF.pos Pl (fun m hM hpos => hno _ (List.mem_filter.2 ⟨List.mem_map.2 ⟨m, (Sp.mem_bs hm (Sp.basB_is _ _)).2 hM, rfl⟩, hpos⟩)) (Sp.Fam.turn Xl hF hY)⟩
      rw [← dpe y yl]; exact hL2.uniq hL
    have ze : (Sp.dp p y == nb) = true := beq_iff_eq.2 hle
    simp only [go_sem, Nat.reduceEqDiff, Nat.reduceAdd, Nat.reduceLT, Nat.reduceLeDiff, reduceIte, reduceCtorEq]
    refine CallK.pure (liftV h33 (by simp [bndL, AVal.bnd, mS_bnd, mI_bnd]) (by simp [bndL, AVal.bnd, mI_bnd]) _) ?_
    simp only [List.getD_cons_zero, List.getD_cons_succ, n4', z44, go_sem, Nat.reduceEqDiff, Nat.reduceAdd, Nat.reduceLT, Nat.reduceLeDiff, reduceIte, reduceCtorEq]
    refine CallK.pure (h37 y yl yb1 _) ?_
    simp only [ze, go_sem, Nat.reduceEqDiff, Nat.reduceAdd, Nat.reduceLT, Nat.reduceLeDiff, reduceIte, reduceCtorEq]
    refine CallK.pure (e25 _) ?_
    simp only [go_sem, Nat.reduceEqDiff, Nat.reduceAdd, Nat.reduceLT, Nat.reduceLeDiff, reduceIte, reduceCtorEq]
    exact leaf (B true) rfl ⟨rfl, rfl⟩
  | some z =>
    rw [hr] at h33 hst'
    obtain ⟨hz1, hz2, -⟩ := hst'.yes z rfl
    obtain ⟨hy1, hpos⟩ := List.mem_filter.1 hz1
    obtain ⟨m, hmb, hzm⟩ := List.mem_map.1 hy1
    have hM := (Sp.mem_bs hm (Sp.basB_is _ _)).1 hmb
    have zF : Sp.Fam (a.map Sp.pad) (a.getD 0 []).length (Sp.pad x) z := by
      rw [← hzm]; exact Sp.Fam.step Xl hF hM (by rw [hzm]; exact hpos)
    have ez := Sp.take_pad (by omega) zF.len zF.pad
    obtain ⟨w, hw⟩ : ∃ w, z.take (a.getD 0 []).length = w := ⟨_, rfl⟩
    have wl : w.length = (a.getD 0 []).length := by rw [← hw, List.length_take, zF.len]; omega
    rw [hw] at ez
    have wb : Sp.inB 390 w := (Sp.inB_pad (by decide)).1 (by rw [ez]; exact Sp.fam_bound hm Xl Xp pX (by decide) bX hnp' zF)
    have wp : posV w = true := by rw [← Sp.posV_pad, ez]; exact zF.pos
    have wd : Sp.dp p w < Sp.dp p y := by rw [← dpe w wl, ← dpe y yl, ez]; exact hz2
    have hvw : Sp.vecOk a w 0 100000 = true := by
      unfold Sp.vecOk
      rw [hm, decide_eq_true wl, num 100000 (by decide) w wb wp]; rfl
    have e21w := fun H => liftV (s21 false false false false a w 0 100000 ha hl (by omega)) (by simp [bndL, AVal.bnd, mS_bnd, mI_bnd]) rfl H
    rw [hvw] at e21w
    have teq : (a.map fun r => Sp.dotG 0 r w) = a.map fun r => Sp.dotG 0 r x := by
      refine List.map_congr_left fun r hr => ?_
      have rl := ((Sp.mat_spec hm).2.2 r hr).1
      obtain ⟨q1, -, -, -⟩ := Sp.mat_cols hm rfl
      have rb : Sp.inB 2 r := fun u hu => q1.bnd (Sp.pad r) (List.mem_map.2 ⟨r, hr, rfl⟩) u (by unfold Sp.pad; simp [hu])
      rw [Sp.dotG_dp (A := 2) (M := 390) (by decide) (by decide) (by decide) rb wb (by omega) (by omega) (by omega), Sp.dotG_dp (A := 2) (M := 390) (by decide) (by decide) (by decide) rb (Sp.inB_mono bx (by decide)) (by omega) (by omega) (by omega)]
      have hmv := Sp.moveB_all.1 zF.mv (Sp.pad r) (List.mem_map.2 ⟨r, hr, rfl⟩)
      rw [Sp.dp_plus (by rw [zF.len, Xl]), ← ez, dp_pad (by omega), dp_pad (by omega)] at hmv
      omega
    have h23 : ∀ v : List Int, v.length = (a.getD 0 []).length → ∀ H, CallV Try.prog (.fn (.func 23) [] []) [.sl false false (mS a), .sl false false (mI v)] H fun u H' => u = .sl false false (mI (a.map fun r => Sp.dotG 0 r v)) ∧ H' = H := fun v hv H => liftV (s23 false false false false a v (fun r hr => by rw [hv]; exact ((Sp.mat_spec hm).2.2 r hr).1) (by have := (Sp.mat_spec hm).2.1; omega) (by omega)) (by simp [bndL, AVal.bnd, mS_bnd, mI_bnd]) (by simp [AVal.bnd, mI_bnd]) H
    have e22 : ∀ ys : List Int, ys.length = a.length → ∀ H, CallV Try.prog (.fn (.func 22) [] []) [.sl false false (mI ys), .sl false false (mI ys)] H fun v H' => v = B true ∧ H' = H := fun ys hys H => by
      have := liftV (s22 false false false false ys ys (by omega)) (by simp [bndL, AVal.bnd, mI_bnd]) rfl H
      rwa [beq_self_eq_true] at this
    have zg : decide (Sp.dp p w ≥ Sp.dp p y) = false := decide_eq_false (by omega)
    have ek : IntKind.i64.wrap ((k : Int) + 1) = ((k + 1 : Nat) : Int) := by rw [wrap64 (by omega) (by omega)]; omega
    have h33' := h33
    dsimp only at h33'
    rw [hw] at h33'
    simp only [go_sem, Nat.reduceEqDiff, Nat.reduceAdd, Nat.reduceLT, Nat.reduceLeDiff, reduceIte, reduceCtorEq]
    refine CallK.pure (liftV h33' (by simp [bndL, AVal.bnd, mS_bnd, mI_bnd]) (by simp [bndL, AVal.bnd, mI_bnd]) _) ?_
    simp only [List.getD_cons_zero, List.getD_cons_succ, n0, go_sem, Nat.reduceEqDiff, Nat.reduceAdd, Nat.reduceLT, Nat.reduceLeDiff, reduceIte, reduceCtorEq]
    refine CallK.pure (e21w _) ?_
    simp only [go_sem, Nat.reduceEqDiff, Nat.reduceAdd, Nat.reduceLT, Nat.reduceLeDiff, reduceIte, reduceCtorEq]
    refine CallK.pure (h37 w wl wb _) ?_
    simp only [go_sem, Nat.reduceEqDiff, Nat.reduceAdd, Nat.reduceLT, Nat.reduceLeDiff, reduceIte, reduceCtorEq]
    refine CallK.pure (h37 y yl yb1 _) ?_
    simp only [zg, go_sem, Nat.reduceEqDiff, Nat.reduceAdd, Nat.reduceLT, Nat.reduceLeDiff, reduceIte, reduceCtorEq]
    refine CallK.pure (h23 w wl _) ?_
    simp only [go_sem, Nat.reduceEqDiff, Nat.reduceAdd, Nat.reduceLT, Nat.reduceLeDiff, reduceIte, reduceCtorEq]
    refine CallK.pure (h23 x xl _) ?_
    rw [teq]
    simp only [go_sem, Nat.reduceEqDiff, Nat.reduceAdd, Nat.reduceLT, Nat.reduceLeDiff, reduceIte, reduceCtorEq]
    refine CallK.pure (e22 _ (by simp) _) ?_
    simp only [ek, go_sem, Nat.reduceEqDiff, Nat.reduceAdd, Nat.reduceLT, Nat.reduceLeDiff, reduceIte, reduceCtorEq]
    exact round0 rfl ⟨(k + 1, w), wl, by dsimp only; rw [ez]; exact zF, by dsimp only; omega⟩ (by dsimp only; omega) rfl (by simp [fle, vle, Fr.get, mS_bnd, mI_bnd])
end Go.Proofs.Ytipfjfmdjmaflaa
