/- Contracts: where a number stands. -/
import Derived.Test.YtkmmngphcodjjaaBG
import Derived.Test.YtkmmngphcodjjaaCE
import Derived.Test.YtkmmngphcodjjaaAG
import Derived.Test.YtkmmngphcodjjaaPZ
namespace Go.Proofs.Ytkmmngphcodjjaa
open Go.Abs AVal
set_option linter.unusedSimpArgs false
attribute [local go_sem] W_skip W_keep KQ_canon canon Fr.norm W_seq W_block W_cond W_exit W_ret W_ops W_draw KQ_nil KQ_norm_seq KQ_exit_seq KQ_ret_seq KQ_norm_block KQ_ret_block KQ_exit_block KQ_exit_loop KQ_ret_loop O_nil O_cons O_guard' S_call S_mv SE_mv SD_mv S_pick SE_pick SD_pick S_bin SE_bin SD_bin S_eqb SE_eqb SD_eqb S_eqv SE_eqv SD_eqv S_eqnil SE_eqnil SD_eqnil S_un SE_un SD_un S_conv SE_conv SD_conv S_mkfn SE_mkfn SD_mkfn S_load SE_load SD_load S_nilck SE_nilck SD_nilck S_slS SE_slS SD_slS S_slP SE_slP SD_slP S_fldA SE_fldA SD_fldA S_fld SE_fld SD_fld S_ixS SE_ixS SD_ixS S_ixP SE_ixP SD_ixP S_ixV SE_ixV SD_ixV S_ixStr SE_ixStr SD_ixStr S_ext SE_ext SD_ext S_len SE_len SD_len S_lenStr SE_lenStr SD_lenStr S_lenc SE_lenc SD_lenc S_mn SE_mn SD_mn S_mx SE_mx SD_mx S_build SE_build SD_build S_alloc SD_alloc S_box SD_box S_bslice SD_bslice S_mksl SD_mksl S_store SD_store S_append SD_append S_copy SD_copy S_clr SD_clr aq_some aa_some al_some aqd_some aad_some ald_some ape_some D_done D_both D_early D_earlyG' D_step D_stepG' SE_call SD_call G_bool GE_bool GS_bool icond_bool IOpd.ev Fr.get Fr.put Fr.putd entryFr pickA binA binI isSh shI eqbA eqvA ints ints_mI Option.map_some eqnilA unA convA loadA nilckA intA slSA slPA fldAA fldVA ixSA ixPA ixVA ixStrA extA lenA lenStrA mnA mxA AVal.fits fillA fillOk buildA opa srcA appA stoA copA clrA rdFree zeros List.length_nil List.length_cons List.length_map List.map_cons List.map_nil Option.map_some Option.map_none if_true if_false ite_true ite_false true_and and_true and_self implies_true forall_const true_implies Bool.false_eq_true Bool.not_true Bool.not_false decide_eq_true_eq decide_eq_false_iff_not eq_self List.getElem?_cons_zero List.getElem?_cons_succ List.getElem?_nil List.set_cons_zero List.set_cons_succ List.nil_append List.cons_append List.append_nil List.replicate_zero List.replicate_succ Nat.zero_add false_implies rng_lt rng_end rng_get cells_I cells_B cells_sl cut_one Int.toNat_natCast Int.natCast_nonneg List.headD_cons Int.lt_irrefl not_false_eq_true decide_false decide_true mI_length mI_cells mI_sz mI_isCell mI_mid mI_append mI_take mI_drop cells_val cells_own cells_agg isCell_I isCell_B isCell_nil isCell_sl isCell_own isCell_ptr isCell_fn isCell_rp isCell_yld cellsOk_I cellsOk_B cellsOk_nil cellsOk_sl cellsOk_own cellsOk_ptr cellsOk_fn cellsOk_rp cellsOk_yld cellsOk_agg cells_nil cells_ptr cells_fn cells_rp List.all_cons List.all_nil Bool.and_true Nat.mul_one Nat.zero_mul Nat.one_mul List.take_zero List.take_nil List.drop_nil List.drop_zero List.not_mem_nil Nat.le_refl Nat.zero_le mS_length mS_cells mS_sz mS_isCell mS_mid mS_append mS_take mS_drop cells_sI isCell_sI cellsOk_sI sI_eq succ_le_self' List.take_succ_cons List.drop_succ_cons List.take_length beq_self_eq_true List.mem_cons or_false forall_eq mI_put mI_rep

/-- Index, of integers. -/
theorem s58 (nn t : Bool) (xs : List Int) (x : Int) (hl : xs.length < 9223372036854775808) :
    Abs.Spec Try.prog 58 [.sl nn t (mI xs), I x] [] fun v H' => H' = [] ∧ v = I (Sp.idx (fun y => y == x) xs) := by
  refine Abs.Spec.walk mixed fn58 nn58 t58 q58 nt58 (by simp) ?_
  simp only [w58, go_sem, Nat.reduceEqDiff, Nat.reduceAdd, Nat.reduceLT, Nat.reduceLeDiff, reduceIte, reduceCtorEq]
  refine W_loop (fun q : { q : List Int × List Int // q.1 ++ q.2 = xs ∧ ∀ y ∈ q.1, (y == x) = false } => ([(0, sl nn t (mI xs)), (1, I x), (7, I xs.length), (8, I q.1.1.length)], [])) (fun q => q.1.2.length) ⟨([], xs), rfl, by simp⟩ [] (Wk.nil (by simp [fle, vle, Fr.get, mI_bnd])) ?_
  rintro ⟨⟨pre, suf⟩, hp, hinv⟩
  dsimp only at hp hinv
  subst hp
  cases suf with
  | nil =>
    simp only [w58L0, w58T1, go_sem, Nat.reduceEqDiff, Nat.reduceAdd, Nat.reduceLT, Nat.reduceLeDiff, reduceIte, reduceCtorEq]
    exact leaf (I _) rfl ⟨rfl, by rw [Sp.idx_none hinv]⟩
  | cons y suf =>
    simp only [w58L0, w58T1, go_sem, Nat.reduceEqDiff, Nat.reduceAdd, Nat.reduceLT, Nat.reduceLeDiff, reduceIte, reduceCtorEq]
    have hsym : (x == y) = (y == x) := by rw [Bool.eq_iff_iff]; simp only [beq_iff_eq]; exact eq_comm
    rw [hsym]
    refine ⟨fun h => ?_, fun h => ?_⟩
    · exact leaf (I _) rfl ⟨rfl, by rw [Sp.idx_mid _ pre _ hinv]; simp [Sp.idx, h]⟩
    · refine round0 rfl ⟨(pre ++ [y], suf), by simp, fun z hz => by rcases List.mem_append.1 hz with hz | hz; exact hinv z hz; simp at hz; subst hz; exact h⟩ (by simp) rfl ?_
      simp [fle, vle, Fr.get, rng_idx' hl, mI_bnd]

theorem s25 (nn t : Bool) (xs : List Int) (x : Int) (hl : xs.length < 9223372036854775808) :
    Abs.Spec Try.prog 25 [.sl nn t (mI xs), I x] [] fun v H' => H' = [] ∧ v = B (decide (x ∈ xs)) := by
  refine Abs.Spec.walk mixed fn25 nn25 t25 q25 nt25 (by simp) ?_
  simp only [w25, go_sem, Nat.reduceEqDiff, Nat.reduceAdd, Nat.reduceLT, Nat.reduceLeDiff, reduceIte, reduceCtorEq]
  refine CallK.by (CallV.of_spec (s58 nn t xs x hl)) fun v H' ⟨h1, h2⟩ => ?_
  subst h1 h2
  simp only [go_sem, Nat.reduceEqDiff, Nat.reduceAdd, Nat.reduceLT, Nat.reduceLeDiff, reduceIte, reduceCtorEq]
  refine leaf (B _) rfl ⟨rfl, ?_⟩
  congr 1
  rw [decide_eq_decide]
  constructor
  · intro h
    refine Classical.byContradiction fun hn => ?_
    rw [Sp.idx_none (pre := xs) fun y hy => ?_] at h
    · omega
    · rw [beq_eq_false_iff_ne]; rintro rfl; exact hn hy
  · intro h; exact Sp.idx_pos ⟨x, h, by simp⟩

/-- At, of a card that is there. -/
theorem s24 (nn t : Bool) (w : List (List Int)) (i : Nat) (c : Int) (hi : i < w.length) (hc : c ∈ w.getD i []) (hl : (w.getD i []).length < 9223372036854775808) :
    Abs.Spec Try.prog 24 [.sl nn t (mS w), I i, I c] [] fun v H' => H' = [] ∧ v = I (Sp.pos w i c) := by
  refine Abs.Spec.walk mixed fn24 nn24 t24 q24 nt24 (by simp) ?_
  simp only [w24, go_sem, Nat.reduceEqDiff, Nat.reduceAdd, Nat.reduceLT, Nat.reduceLeDiff, reduceIte, reduceCtorEq]
  refine W_loop (fun q : { q : List Int × List Int // q.1 ++ q.2 = w.getD i [] ∧ ∀ y ∈ q.1, (y == c) = false } => ([(0, sl nn t (mS w)), (1, I i), (2, I c), (7, I q.1.1.length)], [])) (fun q => q.1.2.length) ⟨([], w.getD i []), rfl, by simp⟩ [] (Wk.nil (by simp [fle, vle, Fr.get, mS_bnd])) ?_
  rintro ⟨⟨pre, suf⟩, hp, hinv⟩
  dsimp only at hp hinv
  cases suf with
  | nil =>
    rw [List.append_nil] at hp
    rw [← hp] at hc
    have := hinv c hc
    simp at this
  | cons y suf =>
    have hpl : pre.length < 9223372036854775807 := by rw [← hp] at hl; simp at hl; omega
    have hwk : IntKind.i64.wrap ((pre.length : Int) + 1) = pre.length + 1 := wrap64 (by omega) (by omega)
    simp only [w24L0, w24T1, mS_get, hi, go_sem, Nat.reduceEqDiff, Nat.reduceAdd, Nat.reduceLT, Nat.reduceLeDiff, reduceIte, reduceCtorEq]
    simp only [← hp]
    simp only [go_sem, Nat.reduceEqDiff, Nat.reduceAdd, Nat.reduceLT, Nat.reduceLeDiff, reduceIte, reduceCtorEq]
    refine ⟨by omega, fun h => ?_, fun h => ?_⟩
    · refine round0 rfl ⟨(pre ++ [y], suf), by rw [← hp]; simp, fun z hz => by rcases List.mem_append.1 hz with hz | hz; exact hinv z hz; simp at hz; subst hz; simpa using h⟩ (by simp) rfl ?_
      simp [fle, vle, Fr.get, mS_bnd, hwk]
    · have h' : (y == c) = true := by simpa using h
      simp only [w24T1, go_sem, Nat.reduceEqDiff, Nat.reduceAdd, Nat.reduceLT, Nat.reduceLeDiff, reduceIte, reduceCtorEq]
      exact leaf (I _) rfl ⟨rfl, by rw [Sp.pos, ← hp, Sp.idx_mid _ pre _ hinv]; simp [Sp.idx, h']⟩
end Go.Proofs.Ytkmmngphcodjjaa
