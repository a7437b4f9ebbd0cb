/- Contracts: vectors of the reference, products, fitting. -/
import Derived.Test.YtipfjfmdjmaflaaKD
namespace Go.Proofs.Ytipfjfmdjmaflaa
open Go.Abs AVal
set_option linter.unusedSimpArgs false
attribute [local go_sem] W_skip W_keep KQ_canon canon Fr.norm W_seq W_block W_scope W_exit W_ret W_ops W_draw KQ_nil KQ_norm_seq KQ_exit_seq KQ_ret_seq KQ_norm_block KQ_ret_block KQ_exit_block KQ_exit_loop KQ_ret_loop O_nil O_cons S_call S_mv SE_mv SD_mv S_pick SE_pick SD_pick S_bin SE_bin SD_bin S_eqb SE_eqb SD_eqb S_eqv SE_eqv SD_eqv S_eqnil SE_eqnil SD_eqnil S_un SE_un SD_un S_conv SE_conv SD_conv S_mkfn SE_mkfn SD_mkfn S_load SE_load SD_load S_nilck SE_nilck SD_nilck S_slS SE_slS SD_slS S_slP SE_slP SD_slP S_fldA SE_fldA SD_fldA S_fld SE_fld SD_fld S_ixS SE_ixS SD_ixS S_ixP SE_ixP SD_ixP S_ixV SE_ixV SD_ixV S_ixStr SE_ixStr SD_ixStr S_ext SE_ext SD_ext S_len SE_len SD_len S_lenStr SE_lenStr SD_lenStr S_lenc SE_lenc SD_lenc S_mn SE_mn SD_mn S_mx SE_mx SD_mx S_build SE_build SD_build S_alloc SD_alloc S_box SD_box S_bslice SD_bslice S_mksl SD_mksl S_store SD_store S_append SD_append S_copy SD_copy S_clr SD_clr aq_some aa_some al_some aqd_some aad_some ald_some ape_some D_done D_both D_early D_step SE_call SD_call IOpd.ev Fr.get Fr.put Fr.putd entryFr pickA binA binI isSh shI eqbA eqvA ints ints_mI Option.map_some eqnilA unA convA loadA nilckA intA slSA slPA fldAA fldVA ixSA ixPA ixVA ixStrA extA lenA lenStrA mnA mxA AVal.fits fillA fillOk buildA opa srcA appA stoA copA clrA rdFree zeros List.length_nil List.length_cons List.length_map List.map_cons List.map_nil Option.map_some Option.map_none if_true if_false ite_true ite_false true_and and_true and_self implies_true forall_const true_implies Bool.false_eq_true Bool.not_true Bool.not_false decide_eq_true_eq decide_eq_false_iff_not eq_self List.getElem?_cons_zero List.getElem?_cons_succ List.getElem?_nil List.set_cons_zero List.set_cons_succ List.nil_append List.cons_append List.append_nil List.replicate_zero List.replicate_succ Nat.zero_add false_implies rng_lt rng_end rng_get cells_I cells_B cells_sl cut_one Int.toNat_natCast Int.natCast_nonneg List.headD_cons Int.lt_irrefl not_false_eq_true decide_false decide_true mI_length mI_cells mI_sz mI_isCell mI_mid mI_append mI_take mI_drop cells_val cells_own cells_agg isCell_I isCell_B isCell_nil isCell_sl isCell_own isCell_ptr isCell_fn isCell_rp isCell_yld cellsOk_I cellsOk_B cellsOk_nil cellsOk_sl cellsOk_own cellsOk_ptr cellsOk_fn cellsOk_rp cellsOk_yld cellsOk_agg cells_nil cells_ptr cells_fn cells_rp List.all_cons List.all_nil Bool.and_true Nat.mul_one Nat.zero_mul Nat.one_mul List.take_zero List.take_nil List.drop_nil List.drop_zero List.not_mem_nil Nat.le_refl Nat.zero_le mS_length mS_cells mS_sz mS_isCell mS_mid mS_append mS_take mS_drop cells_sI isCell_sI cellsOk_sI sI_eq succ_le_self' List.take_succ_cons List.drop_succ_cons List.take_length beq_self_eq_true List.mem_cons or_false forall_eq mI_put mI_rep O_guard' D_earlyG' D_stepG' W_cond' G_tt G_tf G_ft G_ff GE_tt GE_tf GE_ft GE_ff GS_tt GS_tf GS_ft GS_ff G_u GE_u GS_u IC_t IC_f xft xff xtt xtf z00 z20 z22 z02 zz tn0

theorem s21 (nn t nn' t' : Bool) (a : List (List Int)) (x : List Int) (lo hi : Int) (ha : ∀ l ∈ a, l.length < 9223372036854775808) (hl : a.length < 9223372036854775808) (hx : x.length < 9223372036854775808) :
    Abs.Spec Try.prog 21 [.sl nn t (mS a), .sl nn' t' (mI x), I lo, I hi] [] fun v H' => H' = [] ∧ v = B (Sp.vecOk a x lo hi) := by
  refine Abs.Spec.walk mixed fn21 nn21 t21 q21 nt21 (by simp) ?_
  simp only [w21, go_sem, Nat.reduceEqDiff, Nat.reduceAdd, Nat.reduceLT, Nat.reduceLeDiff, reduceIte, reduceCtorEq]
  refine CallK.by (CallV.of_spec (s40 nn t a ha hl)) fun v H' ⟨h1, h2⟩ => ?_
  subst h1 h2
  simp only [go_sem, Nat.reduceEqDiff, Nat.reduceAdd, Nat.reduceLT, Nat.reduceLeDiff, reduceIte, reduceCtorEq]
  refine G.split (fun hm => ?_) fun hm => ?_
  rotate_left
  · simp only [go_sem, Nat.reduceEqDiff, Nat.reduceAdd, Nat.reduceLT, Nat.reduceLeDiff, reduceIte, reduceCtorEq]
    exact leaf (B _) rfl ⟨rfl, by rw [Sp.vecOk, hm]; rfl⟩
  have h0 : 0 < a.length := by
    unfold Sp.mat at hm
    simp only [Bool.and_eq_true, decide_eq_true_eq] at hm
    omega
  have h0' : (0 : Int) < a.length := by omega
  simp only [mS_get, h0, go_sem, Nat.reduceEqDiff, Nat.reduceAdd, Nat.reduceLT, Nat.reduceLeDiff, reduceIte, reduceCtorEq]
  refine ⟨by omega, ?_⟩
  refine G.split (fun he => ?_) fun he => ?_
  · simp only [go_sem, Nat.reduceEqDiff, Nat.reduceAdd, Nat.reduceLT, Nat.reduceLeDiff, reduceIte, reduceCtorEq]
    refine CallK.by (CallV.of_spec (s24 nn' t' x lo hi hx)) fun v H' ⟨h1, h2⟩ => ?_
    subst h1 h2
    simp only [go_sem, Nat.reduceEqDiff, Nat.reduceAdd, Nat.reduceLT, Nat.reduceLeDiff, reduceIte, reduceCtorEq]
    have he : x.length = (a.getD 0 []).length := by have := beq_iff_eq.1 he; omega
    exact leaf (B _) rfl ⟨rfl, by rw [Sp.vecOk, hm, decide_eq_true he]; rfl⟩
  · simp only [go_sem, Nat.reduceEqDiff, Nat.reduceAdd, Nat.reduceLT, Nat.reduceLeDiff, reduceIte, reduceCtorEq]
    have he : ¬ x.length = (a.getD 0 []).length := by have := beq_eq_false_iff_ne.1 he; omega
    exact leaf (B _) rfl ⟨rfl, by rw [Sp.vecOk, decide_eq_false he, Bool.false_and, Bool.and_false]⟩

theorem s23 (nn t nn' t' : Bool) (a : List (List Int)) (x : List Int) (ha : ∀ r ∈ a, r.length = x.length) (hl : a.length ≤ 1000) (hx : x.length ≤ 1000) :
    Abs.Spec Try.prog 23 [.sl nn t (mS a), .sl nn' t' (mI x)] [] fun v H' => H' = [] ∧ v = .sl false false (mI (a.map fun r => Sp.dotG 0 r x)) := by
  refine Abs.Spec.walk mixed fn23 nn23 t23 q23 nt23 (by simp) ?_
  simp only [w23, go_sem, Nat.reduceEqDiff, Nat.reduceAdd, Nat.reduceLT, Nat.reduceLeDiff, reduceIte, reduceCtorEq]
  refine W_loop (fun q : { q : List (List Int) × List (List Int) // q.1 ++ q.2 = a } => ([(1, sl nn' t' (mI x)), (5, own 0 0 q.1.1.length q.1.1.length 1), (11, sl nn t (mS a)), (12, I a.length), (13, I q.1.1.length)], [.cells (mI (q.1.1.map fun r => Sp.dotG 0 r x))])) (fun q => q.1.2.length) ⟨([], a), rfl⟩ [none] (Wk.mk0 rfl (by simp [imgs, Blk.alive]) (by simp [hle, mI]) (by simp [fle, vle, Fr.get, mS_bnd, mI_bnd])) ?_
  rintro ⟨⟨pre, suf⟩, hp⟩
  dsimp only at hp
  subst hp
  cases suf with
  | nil =>
    simp only [w23L0, w23T4, go_sem, Nat.reduceEqDiff, Nat.reduceAdd, Nat.reduceLT, Nat.reduceLeDiff, reduceIte, reduceCtorEq]
    exact leaf (.sl false false (mI (pre.map fun r => Sp.dotG 0 r x))) (vle_mI rfl (by simp) (by simp) (List.take_of_length_le (by simp [mI_length]))) ⟨rfl, rfl⟩
  | cons r suf =>
    have hr : r.length = x.length := ha r (by simp)
    simp only [w23L0, go_sem, Nat.reduceEqDiff, Nat.reduceAdd, Nat.reduceLT, Nat.reduceLeDiff, reduceIte, reduceCtorEq]
    refine W_loop (fun p : { p : Nat × Int // p.1 ≤ x.length ∧ Sp.dotG p.2 (r.drop p.1) (x.drop p.1) = Sp.dotG 0 r x } =>
      ([(1, sl nn' t' (mI x)), (5, own 0 0 pre.length pre.length 1), (7, sl false false (mI r)), (8, I p.1.2), (11, sl nn t (mS (pre ++ r :: suf))), (12, I (pre ++ r :: suf).length), (13, I pre.length), (17, sl nn' t' (mI x)), (18, I x.length), (19, I p.1.1)],
       [.cells (mI (pre.map fun r => Sp.dotG 0 r x))])) (fun p => x.length - p.1.1) ⟨(0, 0), by omega, rfl⟩ [some 0] (Wk.mk0 rfl (by simp [imgs, Blk.alive]) (by simp [hle, csle, mI_bnd]) (by simp [fle, vle, Fr.get, mS_bnd, mI_bnd])) ?_
    rintro ⟨⟨i, s⟩, hin, hinv⟩
    dsimp only at hin hinv
    by_cases hi : i < x.length
    · have hi' : decide ((i : Int) < x.length) = true := decide_eq_true (by omega)
      have hi2 : (i : Int) < x.length := by omega
      have hir : i < r.length := by omega
      have hw : IntKind.i64.wrap ((i : Int) + 1) = i + 1 := wrap64 (by omega) (by omega)
      simp only [w23L1, hi', mI_get, mI_hd, hi, hir, go_sem, Nat.reduceEqDiff, Nat.reduceAdd, Nat.reduceLT, Nat.reduceLeDiff, reduceIte, reduceCtorEq]
      repeat (refine ⟨by omega, ?_⟩)
      refine round1 rfl ⟨(i + 1, IntKind.i64.wrap (s + IntKind.i64.wrap (r.getD i 0 * x.getD i 0))), by omega, by rw [← hinv, Sp.dotG_step hir hi]⟩ [some 0] (by dsimp only; omega) (Wk.mk0 rfl (by simp [imgs, Blk.alive]) (by simp [hle, csle, mI_bnd]) (by simp [fle, vle, Fr.get, hw, mS_bnd, mI_bnd]))
    · have hi' : decide ((i : Int) < x.length) = false := decide_eq_false (by omega)
      rw [List.drop_of_length_le (by omega), List.drop_of_length_le (by omega)] at hinv
      have hs : s = Sp.dotG 0 r x := hinv
      have hll : pre.length + (suf.length + 1) ≤ 1000 := by simpa using hl
      have hwk : IntKind.i64.wrap ((pre.length : Int) + 1) = pre.length + 1 := wrap64 (by omega) (by omega)
      have e : mI (List.take pre.length (List.map (fun r => Sp.dotG 0 r x) pre)) ++ [I s] = mI ((pre ++ [r]).map fun r => Sp.dotG 0 r x) := by
        rw [List.take_of_length_le (by simp), mI_snoc, hs]; simp
      simp only [w23L1, hi', w23T2, w23T3, go_sem, Nat.reduceEqDiff, Nat.reduceAdd, Nat.reduceLT, Nat.reduceLeDiff, reduceIte, reduceCtorEq]
      refine ⟨by omega, ?_⟩
      refine round1 rfl ⟨(pre ++ [r], suf), by simp⟩ [some 2] (by simp) (Wk.mk0 rfl (by simp [imgs, Blk.alive]) (by dsimp only; rw [← e]; exact ⟨.inl ⟨rfl, by rw [e]; exact mI_bnd⟩, trivial⟩) (by simp [fle, vle, Fr.get, hwk, mS_bnd, mI_bnd]))

theorem s26 (nn t nn' t' : Bool) (x y : List Int) (hxy : y.length = x.length) (hx : x.length ≤ 1000) :
    Abs.Spec Try.prog 26 [.sl nn t (mI x), .sl nn' t' (mI y)] [] fun v H' => H' = [] ∧ v = B (Sp.fitR x y) := by
  refine Abs.Spec.walk mixed fn26 nn26 t26 q26 nt26 (by simp) ?_
  simp only [w26, go_sem, Nat.reduceEqDiff, Nat.reduceAdd, Nat.reduceLT, Nat.reduceLeDiff, reduceIte, reduceCtorEq]
  refine W_loop (fun p : { i : Nat // i ≤ x.length ∧ Sp.fitR (x.drop i) (y.drop i) = Sp.fitR x y } => ([(1, sl nn' t' (mI y)), (7, sl nn t (mI x)), (8, I x.length), (9, I p.1)], [])) (fun p => x.length - p.1) ⟨0, by omega, rfl⟩ [] (Wk.nil (by simp [fle, vle, Fr.get, mI_bnd])) ?_
  rintro ⟨i, hin, hinv⟩
  dsimp only at hin hinv ⊢
  by_cases hi : i < x.length
  · have hi' : decide ((i : Int) < x.length) = true := decide_eq_true (by omega)
    have hi2 : (i : Int) < x.length := by omega
    have hiy : i < y.length := by omega
    have hw : IntKind.i64.wrap ((i : Int) + 1) = i + 1 := wrap64 (by omega) (by omega)
    rw [Sp.fitR_step hi hiy] at hinv
    obtain ⟨u, hu⟩ : ∃ u, u = x.getD i 0 := ⟨_, rfl⟩
    obtain ⟨z, hz⟩ : ∃ z, z = y.getD i 0 := ⟨_, rfl⟩
    have hu' := hu.symm
    have hz' := hz.symm
    rw [hu', hz'] at hinv
    simp only [w26L0, hi', mI_get, mI_hd, hi, hiy, hu', go_sem, Nat.reduceEqDiff, Nat.reduceAdd, Nat.reduceLT, Nat.reduceLeDiff, reduceIte, reduceCtorEq]
    refine ⟨by omega, ?_⟩
    refine G.splitP (fun h1 => ?_) fun h1 => ?_
    · have z1 : decide (u < 0) = false := decide_eq_false (by omega)
      rw [decide_eq_true h1, z1] at hinv
      simp only [mI_get, mI_hd, hiy, hz', go_sem, Nat.reduceEqDiff, Nat.reduceAdd, Nat.reduceLT, Nat.reduceLeDiff, reduceIte, reduceCtorEq]
      refine ⟨by omega, ?_⟩
      refine G.splitP (fun h2 => ?_) fun h2 => ?_
      · rw [decide_eq_true h2] at hinv
        simp only [go_sem, Nat.reduceEqDiff, Nat.reduceAdd, Nat.reduceLT, Nat.reduceLeDiff, reduceIte, reduceCtorEq]
        exact leaf (B _) rfl ⟨rfl, by rw [← hinv]; rfl⟩
      · rw [decide_eq_false h2] at hinv
        simp only [z1, go_sem, Nat.reduceEqDiff, Nat.reduceAdd, Nat.reduceLT, Nat.reduceLeDiff, reduceIte, reduceCtorEq]
        refine round0 rfl ⟨i + 1, by omega, hinv⟩ (by dsimp only; omega) rfl ?_
        simp [fle, vle, Fr.get, mI_bnd, hw]
    · rw [decide_eq_false h1] at hinv
      simp only [go_sem, Nat.reduceEqDiff, Nat.reduceAdd, Nat.reduceLT, Nat.reduceLeDiff, reduceIte, reduceCtorEq]
      refine G.splitP (fun h2 => ?_) fun h2 => ?_
      · rw [decide_eq_true h2] at hinv
        simp only [mI_get, mI_hd, hiy, hz', go_sem, Nat.reduceEqDiff, Nat.reduceAdd, Nat.reduceLT, Nat.reduceLeDiff, reduceIte, reduceCtorEq]
        refine ⟨by omega, ?_⟩
        refine IC.splitP (fun h3 => ?_) fun h3 => ?_
        · rw [decide_eq_true h3] at hinv
          simp only [go_sem, Nat.reduceEqDiff, Nat.reduceAdd, Nat.reduceLT, Nat.reduceLeDiff, reduceIte, reduceCtorEq]
          exact leaf (B _) rfl ⟨rfl, by rw [← hinv]; rfl⟩
        · rw [decide_eq_false h3] at hinv
          simp only [go_sem, Nat.reduceEqDiff, Nat.reduceAdd, Nat.reduceLT, Nat.reduceLeDiff, reduceIte, reduceCtorEq]
          refine round0 rfl ⟨i + 1, by omega, hinv⟩ (by dsimp only; omega) rfl ?_
          simp [fle, vle, Fr.get, mI_bnd, hw]
      · rw [decide_eq_false h2] at hinv
        simp only [go_sem, Nat.reduceEqDiff, Nat.reduceAdd, Nat.reduceLT, Nat.reduceLeDiff, reduceIte, reduceCtorEq]
        refine round0 rfl ⟨i + 1, by omega, hinv⟩ (by dsimp only; omega) rfl ?_
        simp [fle, vle, Fr.get, mI_bnd, hw]
  · have hi' : decide ((i : Int) < x.length) = false := decide_eq_false (by omega)
    rw [List.drop_of_length_le (by omega), List.drop_of_length_le (by omega)] at hinv
    simp only [w26L0, hi', w26T1, go_sem, Nat.reduceEqDiff, Nat.reduceAdd, Nat.reduceLT, Nat.reduceLeDiff, reduceIte, reduceCtorEq]
    exact leaf (B _) rfl ⟨rfl, by rw [← hinv]; rfl⟩
end Go.Proofs.Ytipfjfmdjmaflaa
