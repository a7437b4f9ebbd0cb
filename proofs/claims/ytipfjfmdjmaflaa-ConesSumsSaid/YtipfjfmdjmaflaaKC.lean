/- Contracts: numbers, vectors. -/
import Derived.Test.YtipfjfmdjmaflaaKB
namespace Go.Proofs.Ytipfjfmdjmaflaa
open Go.Abs AVal
set_option linter.unusedSimpArgs false
attribute [local go_sem] W_skip W_keep KQ_canon canon Fr.norm W_seq W_block W_scope W_exit W_ret W_ops W_draw KQ_nil KQ_norm_seq KQ_exit_seq KQ_ret_seq KQ_norm_block KQ_ret_block KQ_exit_block KQ_exit_loop KQ_ret_loop O_nil O_cons S_call S_mv SE_mv SD_mv S_pick SE_pick SD_pick S_bin SE_bin SD_bin S_eqb SE_eqb SD_eqb S_eqv SE_eqv SD_eqv S_eqnil SE_eqnil SD_eqnil S_un SE_un SD_un S_conv SE_conv SD_conv S_mkfn SE_mkfn SD_mkfn S_load SE_load SD_load S_nilck SE_nilck SD_nilck S_slS SE_slS SD_slS S_slP SE_slP SD_slP S_fldA SE_fldA SD_fldA S_fld SE_fld SD_fld S_ixS SE_ixS SD_ixS S_ixP SE_ixP SD_ixP S_ixV SE_ixV SD_ixV S_ixStr SE_ixStr SD_ixStr S_ext SE_ext SD_ext S_len SE_len SD_len S_lenStr SE_lenStr SD_lenStr S_lenc SE_lenc SD_lenc S_mn SE_mn SD_mn S_mx SE_mx SD_mx S_build SE_build SD_build S_alloc SD_alloc S_box SD_box S_bslice SD_bslice S_mksl SD_mksl S_store SD_store S_append SD_append S_copy SD_copy S_clr SD_clr aq_some aa_some al_some aqd_some aad_some ald_some ape_some D_done D_both D_early D_step SE_call SD_call IOpd.ev Fr.get Fr.put Fr.putd entryFr pickA binA binI isSh shI eqbA eqvA ints ints_mI Option.map_some eqnilA unA convA loadA nilckA intA slSA slPA fldAA fldVA ixSA ixPA ixVA ixStrA extA lenA lenStrA mnA mxA AVal.fits fillA fillOk buildA opa srcA appA stoA copA clrA rdFree zeros List.length_nil List.length_cons List.length_map List.map_cons List.map_nil Option.map_some Option.map_none if_true if_false ite_true ite_false true_and and_true and_self implies_true forall_const true_implies Bool.false_eq_true Bool.not_true Bool.not_false decide_eq_true_eq decide_eq_false_iff_not eq_self List.getElem?_cons_zero List.getElem?_cons_succ List.getElem?_nil List.set_cons_zero List.set_cons_succ List.nil_append List.cons_append List.append_nil List.replicate_zero List.replicate_succ Nat.zero_add false_implies rng_lt rng_end rng_get cells_I cells_B cells_sl cut_one Int.toNat_natCast Int.natCast_nonneg List.headD_cons Int.lt_irrefl not_false_eq_true decide_false decide_true mI_length mI_cells mI_sz mI_isCell mI_mid mI_append mI_take mI_drop cells_val cells_own cells_agg isCell_I isCell_B isCell_nil isCell_sl isCell_own isCell_ptr isCell_fn isCell_rp isCell_yld cellsOk_I cellsOk_B cellsOk_nil cellsOk_sl cellsOk_own cellsOk_ptr cellsOk_fn cellsOk_rp cellsOk_yld cellsOk_agg cells_nil cells_ptr cells_fn cells_rp List.all_cons List.all_nil Bool.and_true Nat.mul_one Nat.zero_mul Nat.one_mul List.take_zero List.take_nil List.drop_nil List.drop_zero List.not_mem_nil Nat.le_refl Nat.zero_le mS_length mS_cells mS_sz mS_isCell mS_mid mS_append mS_take mS_drop cells_sI isCell_sI cellsOk_sI sI_eq succ_le_self' List.take_succ_cons List.drop_succ_cons List.take_length beq_self_eq_true List.mem_cons or_false forall_eq mI_put mI_rep O_guard' D_earlyG' D_stepG' W_cond' G_tt G_tf G_ft G_ff GE_tt GE_tf GE_ft GE_ff GS_tt GS_tf GS_ft GS_ff G_u GE_u GS_u IC_t IC_f xft xff xtt xtf z00 z20 z22 z02 zz tn0

/-- Numbers. -/
theorem s24 (nn t : Bool) (xs : List Int) (lo hi : Int) (hl : xs.length < 9223372036854775808) : Abs.Spec Try.prog 24 [.sl nn t (mI xs), I lo, I hi] [] fun v H' => H' = [] ∧ v = B (Sp.numbers xs lo hi) := by
  refine Abs.Spec.walk mixed fn24 nn24 t24 q24 nt24 (by simp) ?_
  simp only [w24, go_sem, Nat.reduceEqDiff, Nat.reduceAdd, Nat.reduceLT, Nat.reduceLeDiff, reduceIte, reduceCtorEq]
  refine W_loop (fun p : { p : List Int × List Int // p.1 ++ p.2 = xs ∧ Sp.numbers xs lo hi = Sp.numbers p.2 lo hi } => ([(1, I lo), (2, I hi), (9, sl nn t (mI xs)), (10, I xs.length), (11, I p.1.1.length)], [])) (fun p => p.1.2.length) ⟨([], xs), rfl, rfl⟩ [] (Wk.nil (by simp [fle, vle, Fr.get, mI_bnd])) ?_
  rintro ⟨⟨pre, suf⟩, hp, hinv⟩
  dsimp only at hp hinv
  subst hp
  cases suf with
  | nil =>
    simp only [w24L0, w24T1, go_sem, Nat.reduceEqDiff, Nat.reduceAdd, Nat.reduceLT, Nat.reduceLeDiff, reduceIte, reduceCtorEq]
    rw [List.append_nil] at hinv
    exact leaf (B _) rfl ⟨rfl, by rw [hinv]; rfl⟩
  | cons x suf =>
    have hn : Sp.numbers (x :: suf) lo hi = ((decide (lo ≤ x) && decide (x ≤ hi)) && Sp.numbers suf lo hi) := rfl
    rw [hn] at hinv
    simp only [w24L0, go_sem, Nat.reduceEqDiff, Nat.reduceAdd, Nat.reduceLT, Nat.reduceLeDiff, reduceIte, reduceCtorEq]
    refine G.splitP (fun h1 => ?_) fun h1 => ?_
    · simp only [go_sem, Nat.reduceEqDiff, Nat.reduceAdd, Nat.reduceLT, Nat.reduceLeDiff, reduceIte, reduceCtorEq]
      exact leaf (B _) rfl ⟨rfl, by rw [hinv, decide_eq_false (show ¬ lo ≤ x by omega)]; rfl⟩
    simp only [go_sem, Nat.reduceEqDiff, Nat.reduceAdd, Nat.reduceLT, Nat.reduceLeDiff, reduceIte, reduceCtorEq]
    refine IC.splitP (fun h2 => ?_) fun h2 => ?_
    · simp only [go_sem, Nat.reduceEqDiff, Nat.reduceAdd, Nat.reduceLT, Nat.reduceLeDiff, reduceIte, reduceCtorEq]
      exact leaf (B _) rfl ⟨rfl, by rw [hinv, decide_eq_false (show ¬ x ≤ hi by omega), Bool.and_false]; rfl⟩
    simp only [go_sem, Nat.reduceEqDiff, Nat.reduceAdd, Nat.reduceLT, Nat.reduceLeDiff, reduceIte, reduceCtorEq]
    refine round0 rfl ⟨(pre ++ [x], suf), by simp, by rw [hinv, decide_eq_true (show lo ≤ x by omega), decide_eq_true (show x ≤ hi by omega)]; rfl⟩ (by simp) rfl ?_
    simp [fle, vle, Fr.get, rng_idx' hl, mI_bnd]

theorem s72 (nn t : Bool) (x : Int) (xs : List Int) (hl : (x :: xs).length < 9223372036854775808) : Abs.Spec Try.prog 72 [.sl nn t (mI (x :: xs))] [] fun v H' => H' = [] ∧ v = I (Sp.minL (x :: xs)) := by
  refine Abs.Spec.walk mixed fn72 nn72 t72 q72 nt72 (by simp) ?_
  have h0 : decide (((xs.length + 1 : Nat) : Int) < 1) = false := decide_eq_false (by omega)
  have h1 : (0 < xs.length + 1) = True := by simp
  simp only [w72, h0, mI_get, h1, List.getD_cons_zero, go_sem, Nat.reduceEqDiff, Nat.reduceAdd, Nat.reduceLT, Nat.reduceLeDiff, reduceIte, reduceCtorEq]
  refine ⟨by omega, ?_⟩
  refine W_loop (fun p : { p : List Int × List Int // p.1 ++ p.2 = x :: xs ∧ p.1 ≠ [] } => ([(0, sl nn t (mI (x :: xs))), (3, I (Sp.minL p.1.1)), (4, I p.1.1.length)], [])) (fun p => p.1.2.length) ⟨([x], xs), rfl, by simp⟩ [] (Wk.nil (by simp [fle, vle, Fr.get, mI_bnd, Sp.minL])) ?_
  rintro ⟨⟨pre, suf⟩, hp, hne⟩
  dsimp only at hp hne
  rw [← hp] at hl
  simp only [← hp]
  cases suf with
  | nil =>
    simp only [w72L0, w72T1, go_sem, Nat.reduceEqDiff, Nat.reduceAdd, Nat.reduceLT, Nat.reduceLeDiff, reduceIte, reduceCtorEq]
    exact leaf (I _) rfl ⟨rfl, rfl⟩
  | cons y suf =>
    simp only [w72L0, go_sem, Nat.reduceEqDiff, Nat.reduceAdd, Nat.reduceLT, Nat.reduceLeDiff, reduceIte, reduceCtorEq]
    refine round0 rfl ⟨(pre ++ [y], suf), by simp [← hp], by simp⟩ (by simp) rfl ?_
    simp [fle, vle, Fr.get, rng_idx' hl, mI_bnd, ← hp, Sp.minL_snoc hne]

theorem s101 (nn t : Bool) (x : Int) (xs : List Int) (hl : (x :: xs).length < 9223372036854775808) : Abs.Spec Try.prog 101 [.sl nn t (mI (x :: xs))] [] fun v H' => H' = [] ∧ v = I (Sp.maxL (x :: xs)) := by
  refine Abs.Spec.walk mixed fn101 nn101 t101 q101 nt101 (by simp) ?_
  have h0 : decide (((xs.length + 1 : Nat) : Int) < 1) = false := decide_eq_false (by omega)
  have h1 : (0 < xs.length + 1) = True := by simp
  simp only [w101, h0, mI_get, h1, List.getD_cons_zero, go_sem, Nat.reduceEqDiff, Nat.reduceAdd, Nat.reduceLT, Nat.reduceLeDiff, reduceIte, reduceCtorEq]
  refine ⟨by omega, ?_⟩
  refine W_loop (fun p : { p : List Int × List Int // p.1 ++ p.2 = x :: xs ∧ p.1 ≠ [] } => ([(0, sl nn t (mI (x :: xs))), (3, I (Sp.maxL p.1.1)), (4, I p.1.1.length)], [])) (fun p => p.1.2.length) ⟨([x], xs), rfl, by simp⟩ [] (Wk.nil (by simp [fle, vle, Fr.get, mI_bnd, Sp.maxL])) ?_
  rintro ⟨⟨pre, suf⟩, hp, hne⟩
  dsimp only at hp hne
  rw [← hp] at hl
  simp only [← hp]
  cases suf with
  | nil =>
    simp only [w101L0, w101T1, go_sem, Nat.reduceEqDiff, Nat.reduceAdd, Nat.reduceLT, Nat.reduceLeDiff, reduceIte, reduceCtorEq]
    exact leaf (I _) rfl ⟨rfl, rfl⟩
  | cons y suf =>
    simp only [w101L0, go_sem, Nat.reduceEqDiff, Nat.reduceAdd, Nat.reduceLT, Nat.reduceLeDiff, reduceIte, reduceCtorEq]
    refine round0 rfl ⟨(pre ++ [y], suf), by simp [← hp], by simp⟩ (by simp) rfl ?_
    simp [fle, vle, Fr.get, rng_idx' hl, mI_bnd, ← hp, Sp.maxL_snoc hne]

theorem s102 (x : Int) : Abs.Spec Try.prog 102 [I x] [] fun v H' => H' = [] ∧ v = I (Sp.absW x) := by
  refine Abs.Spec.walk mixed fn102 nn102 t102 q102 nt102 (by simp) ?_
  simp only [w102, go_sem, Nat.reduceEqDiff, Nat.reduceAdd, Nat.reduceLT, Nat.reduceLeDiff, reduceIte, reduceCtorEq]
  exact leaf (I _) rfl ⟨rfl, rfl⟩

theorem s74 (nn t : Bool) (xs : List Int) (hl : xs.length ≤ 4) : Abs.Spec Try.prog 74 [.sl nn t (mI xs)] [] fun v H' => H' = [] ∧ v = vec (Sp.pad xs) := by
  refine Abs.Spec.walk mixed fn74 nn74 t74 q74 nt74 (by simp) ?_
  have h4 := Sp.pad_len hl
  have hcl : (mI (Sp.pad xs)).length = 4 := by rw [mI_length, h4]
  have hpe := pad_eq hl
  have e4 : 4 - 0 = 4 := rfl
  have hac := allI_cell (Sp.pad xs)
  change _ = mI (Sp.pad xs) at hpe
  simp only [w74, e4, hpe, hcl, cut_vec, h4, cells_vec, go_sem, Nat.reduceEqDiff, Nat.reduceAdd, Nat.reduceLT, Nat.reduceLeDiff, reduceIte, reduceCtorEq]
  refine ⟨by simp, hac, ?_⟩
  exact leafC (cut true 4 (mI (Sp.pad xs))) (vec (Sp.pad xs)) rfl ⟨by rw [hcl]; omega, fun h => by cases h⟩ (by rw [cut_vec h4]; exact vle_vec _) ⟨rfl, rfl⟩

theorem s82 (x y : List Int) (hx : x.length = 4) (hy : y.length = 4) : Abs.Spec Try.prog 82 [vec x, vec y] [] fun v H' => H' = [] ∧ v = I (Sp.dot x y) := by
  refine Abs.Spec.walk mixed fn82 nn82 t82 q82 nt82 (by simp) ?_
  simp only [w82T1, w82L0, w82, vec_eq, go_sem, Nat.reduceEqDiff, Nat.reduceAdd, Nat.reduceLT, Nat.reduceLeDiff, reduceIte, reduceCtorEq]
  refine ⟨allI_cell x, allI_cell y, ?_⟩
  refine W_loop (fun p : { p : Nat × Int // p.1 ≤ 4 ∧ Sp.dotG p.2 (x.drop p.1) (y.drop p.1) = Sp.dot x y } => ([(2, ptr 0 0), (3, ptr 1 0), (5, I p.1.2), (7, I p.1.1)], [.cells (mI x), .cells (mI y)])) (fun p => 4 - p.1.1) ⟨(0, 0), by omega, rfl⟩ [some 0, some 1] (Wk.mk0 rfl (by simp [imgs, Blk.alive]) (by simp [hle, csle, mI_bnd]) (by simp [fle, vle, Fr.get])) ?_
  rintro ⟨⟨i, s⟩, hi4, hinv⟩
  dsimp only at hi4 hinv
  by_cases hi : i < 4
  · have hi' : decide ((i : Int) < 4) = true := decide_eq_true (by omega)
    have hix : i < x.length := by omega
    have hiy : i < y.length := by omega
    have hw : IntKind.i64.wrap ((i : Int) + 1) = i + 1 := wrap64 (by omega) (by omega)
    simp only [w82L0, hi', mI_hd, hix, hiy, go_sem, Nat.reduceEqDiff, Nat.reduceAdd, Nat.reduceLT, Nat.reduceLeDiff, reduceIte, reduceCtorEq]
    refine ⟨by omega, by omega, by omega, by omega, ?_⟩
    refine round1 rfl ⟨(i + 1, IntKind.i64.wrap (s + IntKind.i64.wrap (x.getD i 0 * y.getD i 0))), by omega, ?_⟩ [some 0, some 1] (by dsimp only; omega) (Wk.mk0 rfl (by simp [imgs, Blk.alive]) (by simp [hle, csle, mI_bnd]) (by simp [fle, vle, Fr.get, hw]))
    rw [← hinv, List.drop_eq_getElem_cons hix, List.drop_eq_getElem_cons hiy]
    simp only [Sp.dotG, List.getD_eq_getElem?_getD, List.getElem?_eq_getElem hix, List.getElem?_eq_getElem hiy, Option.getD_some]
  · have hi' : decide ((i : Int) < 4) = false := decide_eq_false (by omega)
    simp only [w82L0, hi', w82T1, go_sem, Nat.reduceEqDiff, Nat.reduceAdd, Nat.reduceLT, Nat.reduceLeDiff, reduceIte, reduceCtorEq]
    rw [List.drop_of_length_le (by omega), List.drop_of_length_le (by omega)] at hinv
    exact leaf (I _) rfl ⟨rfl, by rw [← hinv]; rfl⟩
end Go.Proofs.Ytipfjfmdjmaflaa
