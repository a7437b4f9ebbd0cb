/- Contracts: Times, Fits, and the statement's function. -/
import Derived.Test.YtipfjfmdjmaflaaKC
import Derived.Test.YtipfjfmdjmaflaaKP
namespace Go.Proofs.Ytipfjfmdjmaflaa
open Go.Abs AVal
set_option linter.unusedSimpArgs false
attribute [local go_sem] W_skip W_keep KQ_canon canon Fr.norm W_seq W_block W_scope W_exit W_ret W_ops W_draw KQ_nil KQ_norm_seq KQ_exit_seq KQ_ret_seq KQ_norm_block KQ_ret_block KQ_exit_block KQ_exit_loop KQ_ret_loop O_nil O_cons S_call S_mv SE_mv SD_mv S_pick SE_pick SD_pick S_bin SE_bin SD_bin S_eqb SE_eqb SD_eqb S_eqv SE_eqv SD_eqv S_eqnil SE_eqnil SD_eqnil S_un SE_un SD_un S_conv SE_conv SD_conv S_mkfn SE_mkfn SD_mkfn S_load SE_load SD_load S_nilck SE_nilck SD_nilck S_slS SE_slS SD_slS S_slP SE_slP SD_slP S_fldA SE_fldA SD_fldA S_fld SE_fld SD_fld S_ixS SE_ixS SD_ixS S_ixP SE_ixP SD_ixP S_ixV SE_ixV SD_ixV S_ixStr SE_ixStr SD_ixStr S_ext SE_ext SD_ext S_len SE_len SD_len S_lenStr SE_lenStr SD_lenStr S_lenc SE_lenc SD_lenc S_mn SE_mn SD_mn S_mx SE_mx SD_mx S_build SE_build SD_build S_alloc SD_alloc S_box SD_box S_bslice SD_bslice S_mksl SD_mksl S_store SD_store S_append SD_append S_copy SD_copy S_clr SD_clr S_mlen SE_mlen SD_mlen S_mget SE_mget SD_mget S_mval SE_mval SD_mval S_mentry SE_mentry SD_mentry S_mkmap SD_mkmap S_mset SD_mset S_mrange SD_mrange S_mnext mlenA mgetA mvalA mentryA msetA mrangeA cells_mp isCell_mp cellsOk_mp aq_some aa_some al_some alA_some aqd_some aad_some ald_some ape_some D_done D_both D_early D_step SE_call SD_call IOpd.ev Fr.get Fr.put Fr.putd entryFr pickA binA binI isSh shI eqbA eqvA ints ints_mI Option.map_some eqnilA unA convA loadA nilckA intA slSA slPA fldAA fldVA ixSA ixPA ixVA ixStrA extA lenA lenStrA mnA mxA AVal.fits fillA fillOk buildA opa srcA appA stoA copA clrA rdFree zeros List.length_nil List.length_cons List.length_map List.map_cons List.map_nil Option.map_some Option.map_none if_true if_false ite_true ite_false true_and and_true and_self implies_true forall_const true_implies Bool.false_eq_true Bool.not_true Bool.not_false decide_eq_true_eq decide_eq_false_iff_not eq_self List.getElem?_cons_zero List.getElem?_cons_succ List.getElem?_nil List.set_cons_zero List.set_cons_succ List.nil_append List.cons_append List.append_nil List.replicate_zero List.replicate_succ Nat.zero_add false_implies rng_lt rng_end rng_get cells_I cells_B cells_sl cut_one Int.toNat_natCast Int.natCast_nonneg List.headD_cons Int.lt_irrefl not_false_eq_true decide_false decide_true mI_length mI_cells mI_sz mI_isCell mI_mid mI_append mI_take mI_drop cells_val cells_own cells_agg isCell_I isCell_B isCell_nil isCell_sl isCell_own isCell_ptr isCell_fn isCell_rp isCell_yld cellsOk_I cellsOk_B cellsOk_nil cellsOk_sl cellsOk_own cellsOk_ptr cellsOk_fn cellsOk_rp cellsOk_yld cellsOk_agg cells_nil cells_ptr cells_fn cells_rp List.all_cons List.all_nil Bool.and_true Nat.mul_one Nat.zero_mul Nat.one_mul List.take_zero List.take_nil List.drop_nil List.drop_zero List.not_mem_nil Nat.le_refl Nat.zero_le mS_length mS_cells mS_sz mS_isCell mS_mid mS_append mS_take mS_drop cells_sI isCell_sI cellsOk_sI sI_eq succ_le_self' List.take_succ_cons List.drop_succ_cons List.take_length beq_self_eq_true List.mem_cons or_false forall_eq mI_put mI_rep O_guard' D_earlyG' D_stepG' W_cond' G_tt G_tf G_ft G_ff GE_tt GE_tf GE_ft GE_ff GS_tt GS_tf GS_ft GS_ff G_u GE_u GS_u IC_t IC_f xft xff xtt xtf z00 z20 z22 z02 zz tn0
def timesV (a : List (List Int)) (x : List Int) : List Int := a.map fun r => Sp.dotG 0 r x
def timesA (a : List (List Int)) (x : List Int) : AVal := if Sp.vecOk a x (-1000) 1000 then .tup [.sl false false (mI (timesV a x)), I 0] else .tup [.sl false false (mI []), I 2]
set_option maxHeartbeats 2000000 in
theorem s17 (nn t nn' t' : Bool) (a : List (List Int)) (x : List Int) (ha : ∀ l ∈ a, l.length < 9223372036854775808) (hl : a.length < 9223372036854775808) (hx : x.length < 9223372036854775808) :
    Abs.Spec Try.prog 17 [.sl nn t (mS a), .sl nn' t' (mI x)] [] fun v H' => H' = [] ∧ v = timesA a x := by
  refine Abs.Spec.walk mixed fn17 nn17 t17 q17 nt17 (by simp) ?_
  simp only [w17, go_sem, Nat.reduceEqDiff, Nat.reduceAdd, Nat.reduceLT, Nat.reduceLeDiff, reduceIte, reduceCtorEq]
  refine CallK.by (CallV.of_spec (s62 nn t a ha hl)) fun v H' ⟨h1, h2⟩ => ?_
  subst h1
  rcases h2 with ⟨hm, rfl⟩ | ⟨hm, vs, n, rfl⟩
  rotate_left
  · have hb : Sp.vecOk a x (-1000) 1000 = false := by rw [Sp.vecOk, hm]; rfl
    simp only [matV_eq, List.getD_cons_zero, List.getD_cons_succ, go_sem, Nat.reduceEqDiff, Nat.reduceAdd, Nat.reduceLT, Nat.reduceLeDiff, reduceIte, reduceCtorEq]
    exact leaf2 (.tup [.sl false false (mI []), I 2]) ⟨⟨mI_bnd, rfl, rfl⟩, rfl, trivial⟩ ⟨rfl, by rw [timesA, hb]; rfl⟩
  obtain ⟨hm1, hm2, hm3⟩ := Sp.mat_spec hm
  have h0 : a.getD 0 [] ∈ a := by rw [List.getD_eq_getElem?_getD, List.getElem?_eq_getElem (by omega)]; exact List.getElem_mem _
  have hn := hm3 _ h0
  obtain ⟨n, hn'⟩ : ∃ n, n = (a.getD 0 []).length := ⟨_, rfl⟩
  rw [← hn'] at hn ⊢
  have hvs : ∀ v ∈ a.map Sp.pad, v.length = 4 := fun v hv => by
    obtain ⟨r, hr, rfl⟩ := List.mem_map.1 hv
    exact Sp.pad_len (hm3 r hr).2.2
  simp only [matV_eq, cut_two, List.getD_cons_zero, List.getD_cons_succ, go_sem, Nat.reduceEqDiff, Nat.reduceAdd, Nat.reduceLT, Nat.reduceLeDiff, reduceIte, reduceCtorEq]
  refine CallK.pure (liftV (s63 nn' t' (.sl false false (mV (a.map Sp.pad))) rfl n x (-1000) 1000 hn.2.1 hn.2.2 hx) (by simp [bndL, AVal.bnd, mI_bnd, mV_bnd]) (by split <;> simp [bndL, vec, AVal.bnd, mI_bnd]) _) ?_
  have hvk : Sp.vecOk a x (-1000) 1000 = (decide (x.length = n) && Sp.numbers x (-1000) 1000) := by rw [Sp.vecOk, hm, ← hn']; rfl
  rw [← hvk]
  cases hk : Sp.vecOk a x (-1000) 1000 with
  | false =>
    simp only [Bool.false_eq_true, if_false]
    simp only [vec_eq, List.getD_cons_zero, List.getD_cons_succ, go_sem, Nat.reduceEqDiff, Nat.reduceAdd, Nat.reduceLT, Nat.reduceLeDiff, reduceIte, reduceCtorEq]
    refine ⟨rfl, ?_⟩
    exact leaf2 (.tup [.sl false false (mI []), I 2]) ⟨⟨mI_bnd, rfl, rfl⟩, rfl, trivial⟩ ⟨rfl, by rw [timesA, hk]; rfl⟩
  | true =>
    rw [hk] at hvk
    have hxn : x.length = n := by
      have := hvk.symm
      simp only [Bool.and_eq_true, decide_eq_true_eq] at this
      exact this.1
    have hp4 := Sp.pad_len (show x.length ≤ 4 by omega)
    have hml : (mI (Sp.pad x)).length = 4 := by rw [mI_length, hp4]
    simp only [if_true]
    simp only [cells_vec, hml, cut_vec, hp4, cut_two, List.getD_cons_zero, List.getD_cons_succ, go_sem, Nat.reduceEqDiff, Nat.reduceAdd, Nat.reduceLT, Nat.reduceLeDiff, reduceIte, reduceCtorEq]
    refine ⟨allI_cell _, ?_⟩
    refine CallK.pure (liftV (s64 (a.map Sp.pad) n (Sp.pad x) hvs hp4 (by simp; omega)) (by simp [bndL, vec, matV, AVal.bnd, mI_bnd, mV_bnd]) (by simp [AVal.bnd, mI_bnd]) _) ?_
    have e : ((a.map Sp.pad).map fun r => Sp.dot r (Sp.pad x)) = timesV a x := by
      rw [List.map_map, timesV]
      exact List.map_congr_left fun r hr => Sp.dot_pad (by rw [(hm3 r hr).1, hxn, hn'])
    rw [e]
    simp only [go_sem, Nat.reduceEqDiff, Nat.reduceAdd, Nat.reduceLT, Nat.reduceLeDiff, reduceIte, reduceCtorEq]
    exact leaf2 (.tup [.sl false false (mI (timesV a x)), I 0]) ⟨⟨mI_bnd, fun h => (by cases h), fun h => (by cases h), rfl⟩, rfl, trivial⟩ ⟨rfl, by rw [timesA, if_pos hk]⟩
theorem aw25 : Sp.vecOk [[1, 2]] [3, 4] (-1000) 1000 = true := by decide +kernel
theorem awv25 : timesV [[1, 2]] [3, 4] = [11] := by decide +kernel
theorem s25 : Abs.Spec Try.prog 25 [] [] fun v H' => H' = [] ∧ v = B true := by
  refine Abs.Spec.walk mixed fn25 nn25 t25 q25 nt25 (by simp) ?_
  simp only [w25, go_sem, Nat.reduceEqDiff, Nat.reduceAdd, Nat.reduceLT, Nat.reduceLeDiff, reduceIte, reduceCtorEq]
  have hA : timesA [[1, 2]] [3, 4] = .tup [.sl false false (mI [11]), I 0] := by rw [timesA, if_pos aw25, awv25]
  have h1 := (s17 false false false false [[1, 2]] [3, 4] (by decide) (by decide) (by decide)).mono (R' := fun v' H' => v' = timesA [[1, 2]] [3, 4] ∧ H' = []) fun v H' h => ⟨h.2, h.1⟩
  rw [hA] at h1
  have h2 := Spec.give (args := [.own 0 0 1 1 1, .own 1 0 2 2 1]) (H := [.cells (mS [[1, 2]]), .cells (mI [3, 4])]) (ρ := []) h1 rfl (Wk.nil ⟨vle_mS (cs := mS [[1, 2]]) rfl (by simp) rfl rfl, vle_mI (cs := mI [3, 4]) rfl (by simp) rfl rfl, trivial⟩) (by simp [AVal.bnd, bndL, mI_bnd])
  have h3 := Spec.give (args := [.own 1 0 1 1 1, .own 2 0 2 2 1]) (H := [.cells (mI [1, 2]), .cells [.own 0 0 2 2 1], .cells (mI [3, 4])]) (ρ := [some 1, some 2]) (R := fun H' => H' = [.dead, .dead]) h2 rfl
    (Wk.mk0 rfl (by simp [imgs, Blk.alive]) ⟨.inr ⟨vle_mI rfl (by simp [imgs, Blk.alive]) rfl rfl, trivial⟩, .inl ⟨rfl, mI_bnd⟩, trivial⟩ ⟨by simp [vle, Fr.get, entryFr], by simp [vle, Fr.get, entryFr], trivial⟩) (by simp [AVal.bnd, bndL, mI_bnd])
  refine CallK.by (CallV.of_spec h3) fun v H' ⟨e1, e2⟩ => ?_
  subst e1 e2
  simp only [List.getD_cons_zero, List.getD_cons_succ, Blk.gone, go_sem, Nat.reduceEqDiff, Nat.reduceAdd, Nat.reduceLT, Nat.reduceLeDiff, reduceIte, reduceCtorEq]
  refine CallK.pure (CallV.of_spec (Spec.lend (args' := [.sl false false (mI [11]), .sl false false (mI [11])]) (s22 false false false false [11] [11] (by decide)) rfl ⟨⟨mI_bnd, fun h => (by cases h), fun h => (by cases h), rfl⟩, vle_mI (cs := mI [11]) rfl (by simp) rfl rfl, trivial⟩)) ?_
  simp only [go_sem, Nat.reduceEqDiff, Nat.reduceAdd, Nat.reduceLT, Nat.reduceLeDiff, reduceIte, reduceCtorEq]
  exact leaf (B true) rfl ⟨rfl, rfl⟩
theorem tab6_len {w : List (List Int)} (hw : ∀ l ∈ w, l.length < 9223372036854775808) (hl : w.length < 9223372036854775808) : (∀ l ∈ Sp.table6 w, l.length < 9223372036854775808) ∧ (Sp.table6 w).length < 9223372036854775808 := by
  refine ⟨fun l hm => ?_, by simp [Sp.table6]; omega⟩
  unfold Sp.table6 at hm
  obtain ⟨a, _, rfl⟩ := List.mem_map.1 hm
  simp; omega
theorem mS_getD {xs : List (List Int)} {i : Nat} (hi : i < xs.length) : (mS xs).getD i any = .sl false false (mI (xs.getD i [])) := by
  simp [mS, List.getD_eq_getElem?_getD, hi]; rfl
end Go.Proofs.Ytipfjfmdjmaflaa
