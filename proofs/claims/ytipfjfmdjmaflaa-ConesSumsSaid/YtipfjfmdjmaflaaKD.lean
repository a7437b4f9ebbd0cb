/- Contracts: matrices. -/
import Derived.Test.YtipfjfmdjmaflaaKC
namespace Go.Proofs.Ytipfjfmdjmaflaa
open Go.Abs AVal
set_option linter.unusedSimpArgs false
attribute [local go_sem] W_skip W_keep KQ_canon canon Fr.norm W_seq W_block W_scope W_exit W_ret W_ops W_draw KQ_nil KQ_norm_seq KQ_exit_seq KQ_ret_seq KQ_norm_block KQ_ret_block KQ_exit_block KQ_exit_loop KQ_ret_loop O_nil O_cons S_call S_mv SE_mv SD_mv S_pick SE_pick SD_pick S_bin SE_bin SD_bin S_eqb SE_eqb SD_eqb S_eqv SE_eqv SD_eqv S_eqnil SE_eqnil SD_eqnil S_un SE_un SD_un S_conv SE_conv SD_conv S_mkfn SE_mkfn SD_mkfn S_load SE_load SD_load S_nilck SE_nilck SD_nilck S_slS SE_slS SD_slS S_slP SE_slP SD_slP S_fldA SE_fldA SD_fldA S_fld SE_fld SD_fld S_ixS SE_ixS SD_ixS S_ixP SE_ixP SD_ixP S_ixV SE_ixV SD_ixV S_ixStr SE_ixStr SD_ixStr S_ext SE_ext SD_ext S_len SE_len SD_len S_lenStr SE_lenStr SD_lenStr S_lenc SE_lenc SD_lenc S_mn SE_mn SD_mn S_mx SE_mx SD_mx S_build SE_build SD_build S_alloc SD_alloc S_box SD_box S_bslice SD_bslice S_mksl SD_mksl S_store SD_store S_append SD_append S_copy SD_copy S_clr SD_clr aq_some aa_some al_some aqd_some aad_some ald_some ape_some D_done D_both D_early D_step SE_call SD_call IOpd.ev Fr.get Fr.put Fr.putd entryFr pickA binA binI isSh shI eqbA eqvA ints ints_mI Option.map_some eqnilA unA convA loadA nilckA intA slSA slPA fldAA fldVA ixSA ixPA ixVA ixStrA extA lenA lenStrA mnA mxA AVal.fits fillA fillOk buildA opa srcA appA stoA copA clrA rdFree zeros List.length_nil List.length_cons List.length_map List.map_cons List.map_nil Option.map_some Option.map_none if_true if_false ite_true ite_false true_and and_true and_self implies_true forall_const true_implies Bool.false_eq_true Bool.not_true Bool.not_false decide_eq_true_eq decide_eq_false_iff_not eq_self List.getElem?_cons_zero List.getElem?_cons_succ List.getElem?_nil List.set_cons_zero List.set_cons_succ List.nil_append List.cons_append List.append_nil List.replicate_zero List.replicate_succ Nat.zero_add false_implies rng_lt rng_end rng_get cells_I cells_B cells_sl cut_one Int.toNat_natCast Int.natCast_nonneg List.headD_cons Int.lt_irrefl not_false_eq_true decide_false decide_true mI_length mI_cells mI_sz mI_isCell mI_mid mI_append mI_take mI_drop cells_val cells_own cells_agg isCell_I isCell_B isCell_nil isCell_sl isCell_own isCell_ptr isCell_fn isCell_rp isCell_yld cellsOk_I cellsOk_B cellsOk_nil cellsOk_sl cellsOk_own cellsOk_ptr cellsOk_fn cellsOk_rp cellsOk_yld cellsOk_agg cells_nil cells_ptr cells_fn cells_rp List.all_cons List.all_nil Bool.and_true Nat.mul_one Nat.zero_mul Nat.one_mul List.take_zero List.take_nil List.drop_nil List.drop_zero List.not_mem_nil Nat.le_refl Nat.zero_le mS_length mS_cells mS_sz mS_isCell mS_mid mS_append mS_take mS_drop cells_sI isCell_sI cellsOk_sI sI_eq succ_le_self' List.take_succ_cons List.drop_succ_cons List.take_length beq_self_eq_true List.mem_cons or_false forall_eq mI_put mI_rep O_guard' D_earlyG' D_stepG' W_cond' G_tt G_tf G_ft G_ff GE_tt GE_tf GE_ft GE_ff GS_tt GS_tf GS_ft GS_ff G_u GE_u GS_u IC_t IC_f xft xff xtt xtf z00 z20 z22 z02 zz tn0

/-- A matrix. -/
def matV (vs : List (List Int)) (n : Int) : AVal := .agg [.sl false false (mV vs), I n]
theorem matV_eq (vs : List (List Int)) (n : Int) : matV vs n = .agg [.sl false false (mV vs), I n] := rfl

theorem s40 (nn t : Bool) (a : List (List Int)) (ha : ∀ l ∈ a, l.length < 9223372036854775808) (hl : a.length < 9223372036854775808) : Abs.Spec Try.prog 40 [.sl nn t (mS a)] [] fun v H' => H' = [] ∧ v = B (Sp.mat a) := by
  refine Abs.Spec.walk mixed fn40 nn40 t40 q40 nt40 (by simp) ?_
  simp only [w40, go_sem, Nat.reduceEqDiff, Nat.reduceAdd, Nat.reduceLT, Nat.reduceLeDiff, reduceIte, reduceCtorEq]
  refine G.splitP (fun h1 => ?_) fun h1 => ?_
  · simp only [go_sem, Nat.reduceEqDiff, Nat.reduceAdd, Nat.reduceLT, Nat.reduceLeDiff, reduceIte, reduceCtorEq]
    exact leaf (B _) rfl ⟨rfl, by rw [Sp.mat, decide_eq_false (show ¬ 1 ≤ a.length by omega)]; rfl⟩
  simp only [go_sem, Nat.reduceEqDiff, Nat.reduceAdd, Nat.reduceLT, Nat.reduceLeDiff, reduceIte, reduceCtorEq]
  refine IC.splitP (fun h2 => ?_) fun h2 => ?_
  · simp only [go_sem, Nat.reduceEqDiff, Nat.reduceAdd, Nat.reduceLT, Nat.reduceLeDiff, reduceIte, reduceCtorEq]
    exact leaf (B _) rfl ⟨rfl, by rw [Sp.mat, decide_eq_false (show ¬ a.length ≤ 2 by omega), Bool.false_and, Bool.and_false]⟩
  simp only [go_sem, Nat.reduceEqDiff, Nat.reduceAdd, Nat.reduceLT, Nat.reduceLeDiff, reduceIte, reduceCtorEq]
  obtain ⟨n, hn⟩ : ∃ n, n = (a.getD 0 []).length := ⟨_, rfl⟩
  obtain ⟨q, hq⟩ : ∃ q : List Int → Bool, q = fun r => decide (r.length = n) && (decide (1 ≤ r.length) && (decide (r.length ≤ 4) && Sp.numbers r (-2) 2)) := ⟨_, rfl⟩
  have hmat : Sp.mat a = a.all q := by
    rw [Sp.mat, decide_eq_true (show 1 ≤ a.length by omega), decide_eq_true (show a.length ≤ 2 by omega), hq, hn]; rfl
  have h0 : 0 < a.length := by omega
  have h0' : (0 : Int) < a.length := by omega
  refine W_loop (fun p : { p : List (List Int) × List (List Int) // p.1 ++ p.2 = a ∧ a.all q = p.2.all q } => ([(0, sl nn t (mS a)), (13, sl nn t (mS a)), (14, I a.length), (15, I p.1.1.length)], [])) (fun p => p.1.2.length) ⟨([], a), rfl, rfl⟩ [] (Wk.nil (by simp [fle, vle, Fr.get, mS_bnd])) ?_
  rintro ⟨⟨pre, suf⟩, hp, hinv⟩
  dsimp only at hp hinv
  rw [← hmat] at hinv
  cases suf with
  | nil =>
    have hpl : pre.length = a.length := by rw [← hp]; simp
    have hz : decide ((pre.length : Int) < a.length) = false := decide_eq_false (by omega)
    simp only [w40L0, hz, w40T1, go_sem, Nat.reduceEqDiff, Nat.reduceAdd, Nat.reduceLT, Nat.reduceLeDiff, reduceIte, reduceCtorEq]
    exact leaf (B _) rfl ⟨rfl, by rw [hinv]; rfl⟩
  | cons r suf =>
    have hpl : pre.length < a.length := by rw [← hp]; simp
    have hz : decide ((pre.length : Int) < a.length) = true := decide_eq_true (by omega)
    have hget : a.getD pre.length [] = r := by rw [← hp]; simp [List.getD_eq_getElem?_getD]
    have hra : r ∈ a := by rw [← hp]; simp
    have hrl := ha r hra
    have hqr : (r :: suf).all q = (q r && suf.all q) := rfl
    rw [hqr] at hinv
    have bad : q r = false → Sp.mat a = false := fun h => by rw [hinv, h]; rfl
    have hwk : IntKind.i64.wrap ((pre.length : Int) + 1) = pre.length + 1 := wrap64 (by omega) (by omega)
    have hn' := hn.symm
    simp only [w40L0, hz, mS_get, hpl, h0, hget, hn', go_sem, Nat.reduceEqDiff, Nat.reduceAdd, Nat.reduceLT, Nat.reduceLeDiff, reduceIte, reduceCtorEq]
    refine ⟨by omega, by omega, ?_⟩
    refine G.split (fun g1 => ?_) fun g1 => ?_
    · simp only [go_sem, Nat.reduceEqDiff, Nat.reduceAdd, Nat.reduceLT, Nat.reduceLeDiff, reduceIte, reduceCtorEq]
      exact leaf (B _) rfl ⟨rfl, by rw [bad]; rw [hq]; simp; simp at g1; omega⟩
    simp only [go_sem, Nat.reduceEqDiff, Nat.reduceAdd, Nat.reduceLT, Nat.reduceLeDiff, reduceIte, reduceCtorEq]
    refine G.splitP (fun g2 => ?_) fun g2 => ?_
    · simp only [go_sem, Nat.reduceEqDiff, Nat.reduceAdd, Nat.reduceLT, Nat.reduceLeDiff, reduceIte, reduceCtorEq]
      exact leaf (B _) rfl ⟨rfl, by rw [bad]; rw [hq]; simp; omega⟩
    simp only [go_sem, Nat.reduceEqDiff, Nat.reduceAdd, Nat.reduceLT, Nat.reduceLeDiff, reduceIte, reduceCtorEq]
    refine G.splitP (fun g3 => ?_) fun g3 => ?_
    · simp only [go_sem, Nat.reduceEqDiff, Nat.reduceAdd, Nat.reduceLT, Nat.reduceLeDiff, reduceIte, reduceCtorEq]
      exact leaf (B _) rfl ⟨rfl, by rw [bad]; rw [hq]; simp; omega⟩
    simp only [go_sem, Nat.reduceEqDiff, Nat.reduceAdd, Nat.reduceLT, Nat.reduceLeDiff, reduceIte, reduceCtorEq]
    refine CallK.by (CallV.of_spec (s24 false false r (-2) 2 hrl)) fun v H' ⟨e1, e2⟩ => ?_
    subst e1 e2
    simp only [go_sem, Nat.reduceEqDiff, Nat.reduceAdd, Nat.reduceLT, Nat.reduceLeDiff, reduceIte, reduceCtorEq]
    refine IC.split (fun g4 => ?_) fun g4 => ?_
    · simp only [go_sem, Nat.reduceEqDiff, Nat.reduceAdd, Nat.reduceLT, Nat.reduceLeDiff, reduceIte, reduceCtorEq]
      have g4 : Sp.numbers r (-2) 2 = false := by simpa using g4
      exact leaf (B _) rfl ⟨rfl, by rw [bad]; rw [hq]; simp [g4]⟩
    have g4 : Sp.numbers r (-2) 2 = true := by simpa using g4
    have hqt : q r = true := by
      rw [hq]
      simp only [g4, Bool.and_true, Bool.and_eq_true, decide_eq_true_eq]
      have g1 : r.length = n := by simp at g1; omega
      omega
    simp only [go_sem, Nat.reduceEqDiff, Nat.reduceAdd, Nat.reduceLT, Nat.reduceLeDiff, reduceIte, reduceCtorEq]
    refine round0 rfl ⟨(pre ++ [r], suf), by simp [hp], by rw [← hmat, hinv, hqt]; rfl⟩ (by simp) rfl ?_
    simp [fle, vle, Fr.get, mS_bnd, hwk]
end Go.Proofs.Ytipfjfmdjmaflaa
