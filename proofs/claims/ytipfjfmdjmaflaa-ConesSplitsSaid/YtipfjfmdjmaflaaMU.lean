/- Contracts: ConesSplits, once C50 is shown. -/
import Derived.Test.YtipfjfmdjmaflaaMT
import Derived.Test.YtipfjfmdjmaflaaMN
namespace Go.Proofs.Ytipfjfmdjmaflaa
open Go.Abs AVal
set_option linter.unusedSimpArgs false
attribute [local go_sem] W_skip W_keep KQ_canon canon Fr.norm W_seq W_block W_scope W_exit W_ret W_ops W_draw KQ_nil KQ_norm_seq KQ_exit_seq KQ_ret_seq KQ_norm_block KQ_ret_block KQ_exit_block KQ_exit_loop KQ_ret_loop O_nil O_cons S_call S_mv SE_mv SD_mv S_pick SE_pick SD_pick S_bin SE_bin SD_bin S_eqb SE_eqb SD_eqb S_eqv SE_eqv SD_eqv S_eqnil SE_eqnil SD_eqnil S_un SE_un SD_un S_conv SE_conv SD_conv S_mkfn SE_mkfn SD_mkfn S_load SE_load SD_load S_nilck SE_nilck SD_nilck S_slS SE_slS SD_slS S_slP SE_slP SD_slP S_fldA SE_fldA SD_fldA S_fld SE_fld SD_fld S_ixS SE_ixS SD_ixS S_ixP SE_ixP SD_ixP S_ixV SE_ixV SD_ixV S_ixStr SE_ixStr SD_ixStr S_ext SE_ext SD_ext S_len SE_len SD_len S_lenStr SE_lenStr SD_lenStr S_lenc SE_lenc SD_lenc S_mn SE_mn SD_mn S_mx SE_mx SD_mx S_build SE_build SD_build S_alloc SD_alloc S_box SD_box S_bslice SD_bslice S_mksl SD_mksl S_store SD_store S_append SD_append S_copy SD_copy S_clr SD_clr aq_some aa_some al_some aqd_some aad_some ald_some ape_some D_done D_both D_early D_step SE_call SD_call IOpd.ev Fr.get Fr.put Fr.putd entryFr pickA binA binI isSh shI eqbA eqvA ints ints_mI Option.map_some eqnilA unA convA loadA nilckA intA slSA slPA fldAA fldVA ixSA ixPA ixVA ixStrA extA lenA lenStrA mnA mxA AVal.fits fillA fillOk buildA opa srcA appA stoA copA clrA rdFree zeros List.length_nil List.length_cons List.length_map List.map_cons List.map_nil Option.map_some Option.map_none if_true if_false ite_true ite_false true_and and_true and_self implies_true forall_const true_implies Bool.false_eq_true Bool.not_true Bool.not_false decide_eq_true_eq decide_eq_false_iff_not eq_self List.getElem?_cons_zero List.getElem?_cons_succ List.getElem?_nil List.set_cons_zero List.set_cons_succ List.nil_append List.cons_append List.append_nil List.replicate_zero List.replicate_succ Nat.zero_add false_implies rng_lt rng_end rng_get cells_I cells_B cells_sl cut_one Int.toNat_natCast Int.natCast_nonneg List.headD_cons Int.lt_irrefl not_false_eq_true decide_false decide_true mI_length mI_cells mI_sz mI_isCell mI_mid mI_append mI_take mI_drop cells_val cells_own cells_agg isCell_I isCell_B isCell_nil isCell_sl isCell_own isCell_ptr isCell_fn isCell_rp isCell_yld cellsOk_I cellsOk_B cellsOk_nil cellsOk_sl cellsOk_own cellsOk_ptr cellsOk_fn cellsOk_rp cellsOk_yld cellsOk_agg cells_nil cells_ptr cells_fn cells_rp List.all_cons List.all_nil Bool.and_true Nat.mul_one Nat.zero_mul Nat.one_mul List.take_zero List.take_nil List.drop_nil List.drop_zero List.not_mem_nil Nat.le_refl Nat.zero_le mS_length mS_cells mS_sz mS_isCell mS_mid mS_append mS_take mS_drop cells_sI isCell_sI cellsOk_sI sI_eq succ_le_self' List.take_succ_cons List.drop_succ_cons List.take_length beq_self_eq_true List.mem_cons or_false forall_eq mI_put mI_rep O_guard' D_earlyG' D_stepG' W_cond' G_tt G_tf G_ft G_ff GE_tt GE_tf GE_ft GE_ff GS_tt GS_tf GS_ft GS_ff G_u GE_u GS_u IC_t IC_f xft xff xtt xtf z00 z20 z22 z02 zz tn0

theorem check_take {B : List (List Int)} {X : List Int} {n : Nat} (n4 : n ≤ 4) (h8 : ∀ y ∈ B, y.length = n) : ∀ (l : List (List Int)) (S : List Int), checkL B X S (l.map fun s => s.take 6) = checkL B X S l
  | [], S => rfl
  | s :: l, S => by
    rw [List.map_cons]
    unfold checkL
    by_cases h : s.length ≤ 6
    · rw [List.take_of_length_le h, check_take n4 h8 l]
    · have h1 : B.contains (s.take 6) = false := by
        cases hc : B.contains (s.take 6) with
        | false => rfl
        | true => have := h8 _ (List.contains_iff_mem.1 hc); rw [List.length_take] at this; omega
      have h2 : B.contains s = false := by
        cases hc : B.contains s with
        | false => rfl
        | true => have := h8 _ (List.contains_iff_mem.1 hc); omega
      rw [h1, h2]; rfl
theorem all_move {a : List (List Int)} {x : List Int} (hv : Sp.vecOk a x (-100) 100 = true) : (a.all fun r => Sp.dotG 0 r x == 0) = Sp.moveB (a.map Sp.pad) (Sp.pad x) := by
  have h := Sp.times_move hv
  unfold timesV at h
  rw [List.any_map] at h
  cases hm : Sp.moveB (a.map Sp.pad) (Sp.pad x) with
  | true =>
    rw [hm, Bool.not_true, List.any_eq_false] at h
    rw [List.all_eq_true]
    intro r hr
    have := h r hr
    simpa using this
  | false =>
    rw [hm, Bool.not_false, List.any_eq_true] at h
    obtain ⟨r, hr, h⟩ := h
    rw [List.all_eq_false]
    exact ⟨r, hr, by simpa using h⟩
set_option maxRecDepth 20000 in
set_option maxHeartbeats 4000000 in
theorem s12 (h50 : C50) (a : List (List Int)) (x : List Int) (l : List (List Int)) (ha : ∀ l ∈ a, l.length < 9223372036854775808) (hl : a.length < 9223372036854775808) (hx : x.length < 9223372036854775808) (hls : ∀ s ∈ l, s.length < 9223372036854775808) (hll : l.length < 9223372036854775808) :
    Abs.Spec Try.prog 12 [.sl false false (mS a), .sl false false (mI x), .sl false false (mS l)] [] fun v H' => H' = [] ∧ v = B true := by
  obtain ⟨ha', hl'⟩ := tab6_len ha hl
  obtain ⟨hls', hll'⟩ := tab6_len hls hll
  have hx6 : (x.take 6).length < 9223372036854775808 := by rw [List.length_take]; omega
  have e18 : ∀ H, CallV Try.prog (.fn (.func 18) [] []) [.sl false false (mS a)] H fun v H' => v = .sl false false (mS (Sp.table6 a)) ∧ H' = H := fun H => liftV (s18 false false a ha hl) (by simp [bndL, AVal.bnd, mS_bnd]) (by simp [AVal.bnd, mS_bnd]) H
  have e18l : ∀ H, CallV Try.prog (.fn (.func 18) [] []) [.sl false false (mS l)] H fun v H' => v = .sl false false (mS (Sp.table6 l)) ∧ H' = H := fun H => liftV (s18 false false l hls hll) (by simp [bndL, AVal.bnd, mS_bnd]) (by simp [AVal.bnd, mS_bnd]) H
  have e19 : ∀ H, CallV Try.prog (.fn (.func 19) [] []) [.sl false false (mI x)] H fun v H' => v = .sl false false (mI (x.take 6)) ∧ H' = H := fun H => liftV (s19 false false x hx) (by simp [bndL, AVal.bnd, mI_bnd]) (by simp [AVal.bnd, mI_bnd]) H
  have e25 : ∀ H, CallV Try.prog (.fn (.func 25) [] []) [] H fun v H' => v = B true ∧ H' = H := fun H => liftV s25 rfl rfl H
  refine Abs.Spec.walk mixed fn12 nn12 t12 q12 nt12 (by simp) ?_
  simp only [w12, go_sem, Nat.reduceEqDiff, Nat.reduceAdd, Nat.reduceLT, Nat.reduceLeDiff, reduceIte, reduceCtorEq]
  refine CallK.pure (e18 _) ?_
  simp only [go_sem, Nat.reduceEqDiff, Nat.reduceAdd, Nat.reduceLT, Nat.reduceLeDiff, reduceIte, reduceCtorEq]
  refine CallK.pure (e19 _) ?_
  simp only [go_sem, Nat.reduceEqDiff, Nat.reduceAdd, Nat.reduceLT, Nat.reduceLeDiff, reduceIte, reduceCtorEq]
  refine CallK.by (CallV.of_spec (first := []) (cap := []) (Spec.liftE (s51 false false false false _ _ ha' hl' hx6) (by simp [bndL, AVal.bnd, mS_bnd, mI_bnd]) (fun v h => splitC_bnd' h) _)) fun v H' ⟨hsc, hH⟩ => ?_
  subst hH
  unfold splitC at hsc
  rw [Sp.vecOk_take] at hsc
  have hs53 := s53 false false false false false false _ _ _ ha' hl' hx6 hls' hll'
  unfold checkA at hs53
  rw [Sp.vecOk_take] at hs53
  have bnd53 : ∀ (b : Bool) (e : Int), (AVal.tup [B b, I e]).bnd 0 = true := fun b e => by simp [AVal.bnd, bndL]
  by_cases hv : Sp.vecOk a x (-100) 100 = true
  rotate_left
  · have hv' : Sp.vecOk a x (-100) 100 = false := by simpa using hv
    rw [if_neg hv] at hs53
    rcases hsc with ⟨-, rfl⟩ | ⟨h, -⟩ | ⟨h, -⟩
    · have ln : (mS []).length = 0 := rfl
      have z0 : (((0 : Nat) : Int) == 0) = true := rfl
      simp only [List.getD_cons_zero, List.getD_cons_succ, go_sem, Nat.reduceEqDiff, Nat.reduceAdd, Nat.reduceLT, Nat.reduceLeDiff, reduceIte, reduceCtorEq]
      refine CallK.pure (e18 _) ?_
      simp only [go_sem, Nat.reduceEqDiff, Nat.reduceAdd, Nat.reduceLT, Nat.reduceLeDiff, reduceIte, reduceCtorEq]
      refine CallK.pure (e19 _) ?_
      simp only [go_sem, Nat.reduceEqDiff, Nat.reduceAdd, Nat.reduceLT, Nat.reduceLeDiff, reduceIte, reduceCtorEq]
      refine CallK.pure (e18l _) ?_
      simp only [go_sem, Nat.reduceEqDiff, Nat.reduceAdd, Nat.reduceLT, Nat.reduceLeDiff, reduceIte, reduceCtorEq]
      refine CallK.pure (liftV hs53 (by simp [bndL, AVal.bnd, mS_bnd, mI_bnd]) (bnd53 _ _) _) ?_
      simp only [List.getD_cons_zero, List.getD_cons_succ, go_sem, Nat.reduceEqDiff, Nat.reduceAdd, Nat.reduceLT, Nat.reduceLeDiff, reduceIte, reduceCtorEq]
      refine CallK.pure (liftV (s21 false false false false a x (-100) 100 ha hl hx) (by simp [bndL, AVal.bnd, mS_bnd, mI_bnd]) rfl _) ?_
      simp only [hv', ln, z0, u22, go_sem, Nat.reduceEqDiff, Nat.reduceAdd, Nat.reduceLT, Nat.reduceLeDiff, reduceIte, reduceCtorEq]
      refine CallK.pure (e25 _) ?_
      simp only [go_sem, Nat.reduceEqDiff, Nat.reduceAdd, Nat.reduceLT, Nat.reduceLeDiff, reduceIte, reduceCtorEq]
      exact leaf (B true) rfl ⟨rfl, rfl⟩
    · exact absurd h hv
    · exact absurd h hv
  rw [if_pos hv] at hs53
  have hv0 := hv
  unfold Sp.vecOk at hv0
  rw [Bool.and_eq_true, Bool.and_eq_true, decide_eq_true_eq] at hv0
  obtain ⟨hm, xl, xn⟩ := hv0
  obtain ⟨-, -, n1, n4⟩ := Sp.mat_cols hm rfl
  have ht6 := Sp.mat_table.2 hm
  have hx6' : x.take 6 = x := List.take_of_length_le (by omega)
  rw [ht6, hx6'] at hsc hs53
  obtain ⟨L, hL⟩ : ∃ L, Sp.basL a = L := ⟨_, rfl⟩
  have f8 : ∀ y ∈ L, y.length = x.length := fun y hy => by rw [xl]; exact ((Sp.mem_basL hm).1 (by rw [← hL] at hy; exact hy)).1
  have zl : (List.replicate x.length (0 : Int)).length = x.length := by simp
  have zfit : Sp.fitR (List.replicate x.length (0 : Int)) x = true := by
    rw [Sp.fitR_iff zl]
    intro k
    have : (List.replicate x.length (0 : Int)).getD k 0 = 0 := by
      rw [List.getD_eq_getElem?_getD]
      cases h : (List.replicate x.length (0 : Int))[k]? with
      | none => rfl
      | some v => exact List.eq_of_mem_replicate (List.mem_of_getElem? h)
    rw [this]; omega
  have zpad : Sp.pad (List.replicate x.length (0 : Int)) = Sp.z4 := by
    unfold Sp.pad
    rw [List.length_replicate, List.replicate_append_replicate, show x.length + (4 - x.length) = 4 by omega]; rfl
  have chk : ∀ m : List (List Int), checkL L (Sp.pad x) Sp.z4 m = isGo L x (List.replicate x.length 0) m := fun m => by
    rw [← zpad]; exact Sp.check_is (n := x.length) rfl f8 m zl zfit
  have ham := all_move hv
  have hra : ∀ r ∈ a, r.length = x.length := fun r hr => by rw [xl]; exact ((Sp.mat_spec hm).2.2 r hr).1
  have h54 := s54 false false false false a x hra (by have := (Sp.mat_spec hm).2.1; omega) (by omega)
  rw [ham] at h54
  have fin : l.length ≤ 250 → checkL L (Sp.pad x) Sp.z4 (Sp.table6 l) = isGo L x (List.replicate x.length 0) l := fun h => by
    have e : Sp.table6 l = l.map fun s => s.take 6 := by unfold Sp.table6; rw [List.take_of_length_le h]
    rw [e, check_take (n := x.length) (by omega) f8, chk]
  rw [hL] at hs53
  obtain ⟨c, hc⟩ : ∃ c, checkL L (Sp.pad x) Sp.z4 (Sp.table6 l) = c := ⟨_, rfl⟩
  rw [hc] at hs53 fin
  have fx : ∀ b : Bool, (false ^^ (b == b)) = true := fun b => by simp
  rcases hsc with ⟨h, -⟩ | ⟨-, hmv, rfl⟩ | ⟨-, hmv, m, hm4, hsp, rfl⟩
  · rw [hv] at h; cases h
  · have ln : (mS []).length = 0 := rfl
    have z0 : (((0 : Nat) : Int) != 0) = false := rfl
    have z4' : ((4 : Int) != 4) = false := rfl
    rw [hmv] at h54
    simp only [List.getD_cons_zero, List.getD_cons_succ, go_sem, Nat.reduceEqDiff, Nat.reduceAdd, Nat.reduceLT, Nat.reduceLeDiff, reduceIte, reduceCtorEq]
    refine CallK.pure (e18 _) ?_
    rw [ht6]
    simp only [go_sem, Nat.reduceEqDiff, Nat.reduceAdd, Nat.reduceLT, Nat.reduceLeDiff, reduceIte, reduceCtorEq]
    refine CallK.pure (e19 _) ?_
    rw [hx6']
    simp only [go_sem, Nat.reduceEqDiff, Nat.reduceAdd, Nat.reduceLT, Nat.reduceLeDiff, reduceIte, reduceCtorEq]
    refine CallK.pure (e18l _) ?_
    simp only [go_sem, Nat.reduceEqDiff, Nat.reduceAdd, Nat.reduceLT, Nat.reduceLeDiff, reduceIte, reduceCtorEq]
    refine CallK.pure (liftV hs53 (by simp [bndL, AVal.bnd, mS_bnd, mI_bnd]) (bnd53 _ _) _) ?_
    simp only [List.getD_cons_zero, List.getD_cons_succ, go_sem, Nat.reduceEqDiff, Nat.reduceAdd, Nat.reduceLT, Nat.reduceLeDiff, reduceIte, reduceCtorEq]
    refine CallK.pure (liftV (s21 false false false false a x (-100) 100 ha hl hx) (by simp [bndL, AVal.bnd, mS_bnd, mI_bnd]) rfl _) ?_
    simp only [hv, go_sem, Nat.reduceEqDiff, Nat.reduceAdd, Nat.reduceLT, Nat.reduceLeDiff, reduceIte, reduceCtorEq]
    refine CallK.pure (liftV h54 (by simp [bndL, AVal.bnd, mS_bnd, mI_bnd]) rfl _) ?_
    by_cases hl2 : l.length ≤ 250
    · have d1 : ¬ (250 : Int) < l.length := by omega
      have h55 := s55 h50 a x l ha hl hm xl hls (by omega)
      rw [hL, ← fin hl2] at h55
      simp only [ln, z0, z4', u00, d1, go_sem, Nat.reduceEqDiff, Nat.reduceAdd, Nat.reduceLT, Nat.reduceLeDiff, reduceIte, reduceCtorEq]
      refine CallK.pure (liftV h55 (by simp [bndL, AVal.bnd, mS_bnd, mI_bnd]) rfl _) ?_
      simp only [fx, go_sem, Nat.reduceEqDiff, Nat.reduceAdd, Nat.reduceLT, Nat.reduceLeDiff, reduceIte, reduceCtorEq]
      refine CallK.pure (e25 _) ?_
      simp only [go_sem, Nat.reduceEqDiff, Nat.reduceAdd, Nat.reduceLT, Nat.reduceLeDiff, reduceIte, reduceCtorEq]
      exact leaf (B true) rfl ⟨rfl, rfl⟩
    · have d1 : (250 : Int) < l.length := by omega
      simp only [ln, z0, z4', u00, d1, go_sem, Nat.reduceEqDiff, Nat.reduceAdd, Nat.reduceLT, Nat.reduceLeDiff, reduceIte, reduceCtorEq]
      refine CallK.pure (e25 _) ?_
      simp only [go_sem, Nat.reduceEqDiff, Nat.reduceAdd, Nat.reduceLT, Nat.reduceLeDiff, reduceIte, reduceCtorEq]
      exact leaf (B true) rfl ⟨rfl, rfl⟩
  · obtain ⟨S, hS⟩ : ∃ S, Sp.sortV (m.map fun y => y.take (a.getD 0 []).length) = S := ⟨_, rfl⟩
    obtain ⟨hpS, hsum⟩ := Sp.parts hm hsp hS
    rw [hS]
    have Sl : S.length ≤ 400 := by rw [← hS, (Sp.sortV_perm _).length_eq, List.length_map]; exact hm4
    have S9 : ∀ s ∈ S, s.length < 9223372036854775808 := fun s hs => by have := (hpS s hs).2.1; omega
    have hgo : isGo L x (List.replicate x.length 0) S = true := by
      rw [← chk]
      refine Sp.check_true (Sp.pad_len (by omega)) S rfl ?_ (fun s hs => ⟨by rw [← hL]; exact (hpS s hs).1, (hpS s hs).2.2⟩) fun j => by rw [hsum j, Sp.z4_getD]; omega
      rw [Sp.fitR_iff (by rw [Sp.pad_len (by omega)]; rfl)]
      intro k
      rw [Sp.z4_getD]; omega
    have h55S := s55 h50 a x S ha hl hm xl S9 Sl
    rw [hL, hgo] at h55S
    rw [hmv] at h54
    simp only [List.getD_cons_zero, List.getD_cons_succ, go_sem, Nat.reduceEqDiff, Nat.reduceAdd, Nat.reduceLT, Nat.reduceLeDiff, reduceIte, reduceCtorEq]
    refine CallK.pure (e18 _) ?_
    rw [ht6]
    simp only [go_sem, Nat.reduceEqDiff, Nat.reduceAdd, Nat.reduceLT, Nat.reduceLeDiff, reduceIte, reduceCtorEq]
    refine CallK.pure (e19 _) ?_
    rw [hx6']
    simp only [go_sem, Nat.reduceEqDiff, Nat.reduceAdd, Nat.reduceLT, Nat.reduceLeDiff, reduceIte, reduceCtorEq]
    refine CallK.pure (e18l _) ?_
    simp only [go_sem, Nat.reduceEqDiff, Nat.reduceAdd, Nat.reduceLT, Nat.reduceLeDiff, reduceIte, reduceCtorEq]
    refine CallK.pure (liftV hs53 (by simp [bndL, AVal.bnd, mS_bnd, mI_bnd]) (bnd53 _ _) _) ?_
    simp only [List.getD_cons_zero, List.getD_cons_succ, go_sem, Nat.reduceEqDiff, Nat.reduceAdd, Nat.reduceLT, Nat.reduceLeDiff, reduceIte, reduceCtorEq]
    refine CallK.pure (liftV (s21 false false false false a x (-100) 100 ha hl hx) (by simp [bndL, AVal.bnd, mS_bnd, mI_bnd]) rfl _) ?_
    simp only [hv, go_sem, Nat.reduceEqDiff, Nat.reduceAdd, Nat.reduceLT, Nat.reduceLeDiff, reduceIte, reduceCtorEq]
    refine CallK.pure (liftV h54 (by simp [bndL, AVal.bnd, mS_bnd, mI_bnd]) rfl _) ?_
    simp only [go_sem, Nat.reduceEqDiff, Nat.reduceAdd, Nat.reduceLT, Nat.reduceLeDiff, reduceIte, reduceCtorEq]
    refine CallK.pure (liftV h55S (by simp [bndL, AVal.bnd, mS_bnd, mI_bnd]) rfl _) ?_
    by_cases hl2 : l.length ≤ 250
    · have d1 : ¬ (250 : Int) < l.length := by omega
      have h55 := s55 h50 a x l ha hl hm xl hls (by omega)
      rw [hL, ← fin hl2] at h55
      simp only [u00, d1, go_sem, Nat.reduceEqDiff, Nat.reduceAdd, Nat.reduceLT, Nat.reduceLeDiff, reduceIte, reduceCtorEq]
      refine CallK.pure (liftV h55 (by simp [bndL, AVal.bnd, mS_bnd, mI_bnd]) rfl _) ?_
      simp only [fx, go_sem, Nat.reduceEqDiff, Nat.reduceAdd, Nat.reduceLT, Nat.reduceLeDiff, reduceIte, reduceCtorEq]
      refine CallK.pure (e25 _) ?_
      simp only [go_sem, Nat.reduceEqDiff, Nat.reduceAdd, Nat.reduceLT, Nat.reduceLeDiff, reduceIte, reduceCtorEq]
      exact leaf (B true) rfl ⟨rfl, rfl⟩
    · have d1 : (250 : Int) < l.length := by omega
      simp only [u00, d1, go_sem, Nat.reduceEqDiff, Nat.reduceAdd, Nat.reduceLT, Nat.reduceLeDiff, reduceIte, reduceCtorEq]
      refine CallK.pure (e25 _) ?_
      simp only [go_sem, Nat.reduceEqDiff, Nat.reduceAdd, Nat.reduceLT, Nat.reduceLeDiff, reduceIte, reduceCtorEq]
      exact leaf (B true) rfl ⟨rfl, rfl⟩
end Go.Proofs.Ytipfjfmdjmaflaa
