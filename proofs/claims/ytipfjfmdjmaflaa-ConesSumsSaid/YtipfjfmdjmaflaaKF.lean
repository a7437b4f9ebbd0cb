/- Contracts: the program's vectors and matrices. -/
import Derived.Test.YtipfjfmdjmaflaaKE
namespace Go.Proofs.Ytipfjfmdjmaflaa
open Go.Abs AVal
set_option linter.unusedSimpArgs false
attribute [local go_sem] W_skip W_keep KQ_canon canon Fr.norm W_seq W_block W_scope W_exit W_ret W_ops W_draw KQ_nil KQ_norm_seq KQ_exit_seq KQ_ret_seq KQ_norm_block KQ_ret_block KQ_exit_block KQ_exit_loop KQ_ret_loop O_nil O_cons S_call S_mv SE_mv SD_mv S_pick SE_pick SD_pick S_bin SE_bin SD_bin S_eqb SE_eqb SD_eqb S_eqv SE_eqv SD_eqv S_eqnil SE_eqnil SD_eqnil S_un SE_un SD_un S_conv SE_conv SD_conv S_mkfn SE_mkfn SD_mkfn S_load SE_load SD_load S_nilck SE_nilck SD_nilck S_slS SE_slS SD_slS S_slP SE_slP SD_slP S_fldA SE_fldA SD_fldA S_fld SE_fld SD_fld S_ixS SE_ixS SD_ixS S_ixP SE_ixP SD_ixP S_ixV SE_ixV SD_ixV S_ixStr SE_ixStr SD_ixStr S_ext SE_ext SD_ext S_len SE_len SD_len S_lenStr SE_lenStr SD_lenStr S_lenc SE_lenc SD_lenc S_mn SE_mn SD_mn S_mx SE_mx SD_mx S_build SE_build SD_build S_alloc SD_alloc S_box SD_box S_bslice SD_bslice S_mksl SD_mksl S_store SD_store S_append SD_append S_copy SD_copy S_clr SD_clr aq_some aa_some al_some aqd_some aad_some ald_some ape_some D_done D_both D_early D_step SE_call SD_call IOpd.ev Fr.get Fr.put Fr.putd entryFr pickA binA binI isSh shI eqbA eqvA ints ints_mI Option.map_some eqnilA unA convA loadA nilckA intA slSA slPA fldAA fldVA ixSA ixPA ixVA ixStrA extA lenA lenStrA mnA mxA AVal.fits fillA fillOk buildA opa srcA appA stoA copA clrA rdFree zeros List.length_nil List.length_cons List.length_map List.map_cons List.map_nil Option.map_some Option.map_none if_true if_false ite_true ite_false true_and and_true and_self implies_true forall_const true_implies Bool.false_eq_true Bool.not_true Bool.not_false decide_eq_true_eq decide_eq_false_iff_not eq_self List.getElem?_cons_zero List.getElem?_cons_succ List.getElem?_nil List.set_cons_zero List.set_cons_succ List.nil_append List.cons_append List.append_nil List.replicate_zero List.replicate_succ Nat.zero_add false_implies rng_lt rng_end rng_get cells_I cells_B cells_sl cut_one Int.toNat_natCast Int.natCast_nonneg List.headD_cons Int.lt_irrefl not_false_eq_true decide_false decide_true mI_length mI_cells mI_sz mI_isCell mI_mid mI_append mI_take mI_drop cells_val cells_own cells_agg isCell_I isCell_B isCell_nil isCell_sl isCell_own isCell_ptr isCell_fn isCell_rp isCell_yld cellsOk_I cellsOk_B cellsOk_nil cellsOk_sl cellsOk_own cellsOk_ptr cellsOk_fn cellsOk_rp cellsOk_yld cellsOk_agg cells_nil cells_ptr cells_fn cells_rp List.all_cons List.all_nil Bool.and_true Nat.mul_one Nat.zero_mul Nat.one_mul List.take_zero List.take_nil List.drop_nil List.drop_zero List.not_mem_nil Nat.le_refl Nat.zero_le mS_length mS_cells mS_sz mS_isCell mS_mid mS_append mS_take mS_drop cells_sI isCell_sI cellsOk_sI sI_eq succ_le_self' List.take_succ_cons List.drop_succ_cons List.take_length beq_self_eq_true List.mem_cons or_false forall_eq mI_put mI_rep O_guard' D_earlyG' D_stepG' W_cond' G_tt G_tf G_ft G_ff GE_tt GE_tf GE_ft GE_ff GS_tt GS_tf GS_ft GS_ff G_u GE_u GS_u IC_t IC_f xft xff xtt xtf z00 z20 z22 z02 zz tn0

theorem s65 (x y : List Int) (hx : x.length = 4) (hy : y.length = 4) : Abs.Spec Try.prog 65 [vec x, vec y] [] fun v H' => H' = [] ∧ v = B (Sp.fitG x y) := by
  refine Abs.Spec.walk mixed fn65 nn65 t65 q65 nt65 (by simp) ?_
  simp only [w65, vec_eq, go_sem, Nat.reduceEqDiff, Nat.reduceAdd, Nat.reduceLT, Nat.reduceLeDiff, reduceIte, reduceCtorEq]
  refine ⟨allI_cell x, allI_cell y, ?_⟩
  refine W_loop (fun p : { i : Nat // i ≤ 4 ∧ Sp.fitG (x.drop i) (y.drop i) = Sp.fitG x y } => ([(2, ptr 0 0), (3, ptr 1 0), (6, I p.1)], [.cells (mI x), .cells (mI y)])) (fun p => 4 - p.1) ⟨0, by omega, rfl⟩ [some 0, some 1] (Wk.mk0 rfl (by simp [imgs, Blk.alive]) (by simp [hle, csle, mI_bnd]) (by simp [fle, vle, Fr.get])) ?_
  rintro ⟨i, hin, hinv⟩
  dsimp only at hin hinv ⊢
  by_cases hi : i < 4
  · have hi' : decide ((i : Int) < 4) = true := decide_eq_true (by omega)
    have hix : i < x.length := by omega
    have hiy : i < y.length := by omega
    have hw : IntKind.i64.wrap ((i : Int) + 1) = i + 1 := wrap64 (by omega) (by omega)
    rw [Sp.fitG_step hix hiy] at hinv
    obtain ⟨u, hu⟩ : ∃ u, u = x.getD i 0 := ⟨_, rfl⟩
    obtain ⟨z, hz⟩ : ∃ z, z = y.getD i 0 := ⟨_, rfl⟩
    have hu' := hu.symm
    have hz' := hz.symm
    rw [hu', hz'] at hinv
    simp only [w65L0, hi', mI_hd, hix, hiy, hu', hz', go_sem, Nat.reduceEqDiff, Nat.reduceAdd, Nat.reduceLT, Nat.reduceLeDiff, reduceIte, reduceCtorEq]
    refine ⟨by omega, by omega, ?_⟩
    have bx : (true ^^ decide (u > 0) == decide (z > 0)) = (decide (u > 0) != decide (z > 0)) := Bool.true_xor _
    refine GE.split (fun g1 => ?_) fun g1 => ?_
    · rw [g1, Bool.true_and] at hinv
      simp only [mI_hd, hix, hiy, hu', hz', bx, go_sem, Nat.reduceEqDiff, Nat.reduceAdd, Nat.reduceLT, Nat.reduceLeDiff, reduceIte, reduceCtorEq]
      repeat (refine ⟨by omega, ?_⟩)
      refine GE.split (fun g2 => ?_) fun g2 => ?_
      · rw [g2, Bool.true_or] at hinv
        simp only [go_sem, Nat.reduceEqDiff, Nat.reduceAdd, Nat.reduceLT, Nat.reduceLeDiff, reduceIte, reduceCtorEq]
        exact leaf (B _) rfl ⟨rfl, by rw [← hinv]; rfl⟩
      · rw [g2, Bool.false_or] at hinv
        simp only [mI_hd, hix, hiy, hu', hz', go_sem, Nat.reduceEqDiff, Nat.reduceAdd, Nat.reduceLT, Nat.reduceLeDiff, reduceIte, reduceCtorEq]
        repeat (refine ⟨by omega, ?_⟩)
        refine CallKD.pure (liftV (s102 u) rfl rfl) ?_
        simp only [mI_hd, hix, hiy, hu', hz', go_sem, Nat.reduceEqDiff, Nat.reduceAdd, Nat.reduceLT, Nat.reduceLeDiff, reduceIte, reduceCtorEq]
        repeat (refine ⟨by omega, ?_⟩)
        refine CallKD.pure (liftV (s102 z) rfl rfl) ?_
        simp only [go_sem, Nat.reduceEqDiff, Nat.reduceAdd, Nat.reduceLT, Nat.reduceLeDiff, reduceIte, reduceCtorEq]
        refine IC.splitP (fun g3 => ?_) fun g3 => ?_
        · rw [decide_eq_true g3] at hinv
          simp only [go_sem, Nat.reduceEqDiff, Nat.reduceAdd, Nat.reduceLT, Nat.reduceLeDiff, reduceIte, reduceCtorEq]
          exact leaf (B _) rfl ⟨rfl, by rw [← hinv]; rfl⟩
        · rw [decide_eq_false g3] at hinv
          simp only [go_sem, Nat.reduceEqDiff, Nat.reduceAdd, Nat.reduceLT, Nat.reduceLeDiff, reduceIte, reduceCtorEq]
          refine round1 rfl ⟨i + 1, by omega, hinv⟩ [some 0, some 1] (by dsimp only; omega) (Wk.mk0 rfl (by simp [imgs, Blk.alive]) (by simp [hle, csle, mI_bnd]) (by simp [fle, vle, Fr.get, hw]))
    · rw [g1, Bool.false_and] at hinv
      simp only [go_sem, Nat.reduceEqDiff, Nat.reduceAdd, Nat.reduceLT, Nat.reduceLeDiff, reduceIte, reduceCtorEq]
      refine round1 rfl ⟨i + 1, by omega, hinv⟩ [some 0, some 1] (by dsimp only; omega) (Wk.mk0 rfl (by simp [imgs, Blk.alive]) (by simp [hle, csle, mI_bnd]) (by simp [fle, vle, Fr.get, hw]))
  · have hi' : decide ((i : Int) < 4) = false := decide_eq_false (by omega)
    rw [List.drop_of_length_le (by omega), List.drop_of_length_le (by omega)] at hinv
    simp only [w65L0, hi', w65T1, go_sem, Nat.reduceEqDiff, Nat.reduceAdd, Nat.reduceLT, Nat.reduceLeDiff, reduceIte, reduceCtorEq]
    exact leaf (B _) rfl ⟨rfl, by rw [← hinv]; rfl⟩

/-- A vector of a matrix. -/
theorem s63 (nn t : Bool) (c : AVal) (hc : c.isCell = true) (n : Nat) (xs : List Int) (lo hi : Int) (h1 : 1 ≤ n) (h4 : n ≤ 4) (hl : xs.length < 9223372036854775808) : Abs.Spec Try.prog 63 [.agg [c, I n], .sl nn t (mI xs), I lo, I hi] [] fun v H' => H' = [] ∧ v = if decide (xs.length = n) && Sp.numbers xs lo hi then .tup [vec (Sp.pad xs), B true] else .tup [vec [0, 0, 0, 0], B false] := by
  refine Abs.Spec.walk mixed fn63 nn63 t63 q63 nt63 (by simp) ?_
  obtain ⟨R, hR⟩ : ∃ R : Bool → AVal, R = fun b => if b then .tup [vec (Sp.pad xs), B true] else .tup [vec [0, 0, 0, 0], B false] := ⟨_, rfl⟩
  have bad : ∀ {e : Ex} {fr : Fr} {H : AHeap}, (e = .norm ∨ e = .ret) → (decide (xs.length = n) && Sp.numbers xs lo hi) = false → fr.get 8 = ptr 1 0 → fr.get 9 = B false → H[1]? = some (.cells (mI [0, 0, 0, 0])) → retA 0 r63 (fun v H' => H' = [] ∧ v = if decide (xs.length = n) && Sp.numbers xs lo hi then .tup [vec (Sp.pad xs), B true] else .tup [vec [0, 0, 0, 0], B false]) e fr H [] := fun {e fr H} he hb h8 h9 hH => by
    refine leafCT (vec [0, 0, 0, 0]) (.tup [vec [0, 0, 0, 0], B false]) (p := 0 + 4 ≤ 4 ∧ (true = false → 4 = 1)) (by rw [h8]; simp only [loadA, hH]; rfl) ⟨by omega, fun h => by cases h⟩ ⟨vle_vec _, by rw [h9]; rfl, trivial⟩ ⟨rfl, by rw [hb]; rfl⟩ he
  simp only [w63, hc, go_sem, Nat.reduceEqDiff, Nat.reduceAdd, Nat.reduceLT, Nat.reduceLeDiff, reduceIte, reduceCtorEq]
  refine G.split (fun g1 => ?_) fun g1 => ?_
  · have hne : ¬ xs.length = n := fun h => by rw [h] at g1; simp at g1
    simp only [go_sem, Nat.reduceEqDiff, Nat.reduceAdd, Nat.reduceLT, Nat.reduceLeDiff, reduceIte, reduceCtorEq]
    refine bad (.inr rfl) (by rw [decide_eq_false hne]; rfl) rfl rfl rfl
  have hlen : xs.length = n := by have := bne_eq_false_iff_eq.1 g1; omega
  obtain ⟨x0, xs', rfl⟩ : ∃ x0 xs', xs = x0 :: xs' := by
    cases xs with
    | nil => simp at hlen; omega
    | cons a b => exact ⟨a, b, rfl⟩
  have hnum := Sp.numbers_iff (l := x0 :: xs') (by simp) (lo := lo) (hi := hi)
  simp only [go_sem, Nat.reduceEqDiff, Nat.reduceAdd, Nat.reduceLT, Nat.reduceLeDiff, reduceIte, reduceCtorEq]
  refine CallK.pure (liftV (s72 nn t x0 xs' hl) (by simp [bndL, AVal.bnd, mI_bnd]) rfl _) ?_
  simp only [go_sem, Nat.reduceEqDiff, Nat.reduceAdd, Nat.reduceLT, Nat.reduceLeDiff, reduceIte, reduceCtorEq]
  refine G.splitP (fun g2 => ?_) fun g2 => ?_
  · simp only [go_sem, Nat.reduceEqDiff, Nat.reduceAdd, Nat.reduceLT, Nat.reduceLeDiff, reduceIte, reduceCtorEq]
    refine bad (.inr rfl) ?_ rfl rfl rfl
    cases hb : Sp.numbers (x0 :: xs') lo hi with
    | false => exact Bool.and_false _
    | true => have := hnum.1 hb; omega
  simp only [go_sem, Nat.reduceEqDiff, Nat.reduceAdd, Nat.reduceLT, Nat.reduceLeDiff, reduceIte, reduceCtorEq]
  refine CallK.pure (liftV (s101 nn t x0 xs' hl) (by simp [bndL, AVal.bnd, mI_bnd]) rfl _) ?_
  simp only [go_sem, Nat.reduceEqDiff, Nat.reduceAdd, Nat.reduceLT, Nat.reduceLeDiff, reduceIte, reduceCtorEq]
  refine IC.splitP (fun g3 => ?_) fun g3 => ?_
  · simp only [go_sem, Nat.reduceEqDiff, Nat.reduceAdd, Nat.reduceLT, Nat.reduceLeDiff, reduceIte, reduceCtorEq]
    refine bad (.inr rfl) ?_ rfl rfl rfl
    cases hb : Sp.numbers (x0 :: xs') lo hi with
    | false => exact Bool.and_false _
    | true => have := hnum.1 hb; omega
  have hok : (decide ((x0 :: xs').length = n) && Sp.numbers (x0 :: xs') lo hi) = true := by
    rw [decide_eq_true hlen, hnum.2 ⟨by omega, by omega⟩]; rfl
  have h44 : (x0 :: xs').length ≤ 4 := by omega
  have hp4 := Sp.pad_len h44
  have hpl : (mI (Sp.pad (x0 :: xs'))).length = 4 := by rw [mI_length, hp4]
  have hac := allI_cell (Sp.pad (x0 :: xs'))
  simp only [go_sem, Nat.reduceEqDiff, Nat.reduceAdd, Nat.reduceLT, Nat.reduceLeDiff, reduceIte, reduceCtorEq]
  refine CallK.pure (liftV (s74 nn t (x0 :: xs') h44) (by simp [bndL, AVal.bnd, mI_bnd]) (by simp [vec, AVal.bnd, mI_bnd]) _) ?_
  simp only [vec_eq, hpl, hac, go_sem, Nat.reduceEqDiff, Nat.reduceAdd, Nat.reduceLT, Nat.reduceLeDiff, reduceIte, reduceCtorEq]
  exact leafCT (cut true 4 (mI (Sp.pad (x0 :: xs')))) (.tup [vec (Sp.pad (x0 :: xs')), B true]) rfl ⟨by rw [hpl]; omega, fun h => by cases h⟩ ⟨by rw [cut_vec hp4]; exact vle_vec _, rfl, trivial⟩ ⟨rfl, (if_pos hok).symm⟩

theorem s64 (vs : List (List Int)) (n : Int) (x : List Int) (hv : ∀ v ∈ vs, v.length = 4) (hx : x.length = 4) (hl : vs.length ≤ 1000) : Abs.Spec Try.prog 64 [matV vs n, vec x] [] fun v H' => H' = [] ∧ v = .sl false false (mI (vs.map fun r => Sp.dot r x)) := by
  refine Abs.Spec.walk mixed fn64 nn64 t64 q64 nt64 (by simp) ?_
  simp only [w64, matV_eq, vec_eq, mV_length, go_sem, Nat.reduceEqDiff, Nat.reduceAdd, Nat.reduceLT, Nat.reduceLeDiff, reduceIte, reduceCtorEq]
  refine ⟨allI_cell x, ?_⟩
  refine W_loop (fun q : { q : List (List Int) × List (List Int) // q.1 ++ q.2 = vs } => ([(3, ptr 0 0), (5, own 1 0 q.1.1.length q.1.1.length 1), (9, sl false false (mV vs)), (10, I vs.length), (11, I q.1.1.length)], [.cells (mI x), .cells (mI (q.1.1.map fun r => Sp.dot r x))])) (fun q => q.1.2.length) ⟨([], vs), rfl⟩ [some 1, none] (Wk.mk0 rfl (by simp [imgs, Blk.alive]) (by simp [hle, csle, mI_bnd, mI]) (by simp [fle, vle, Fr.get, mV_bnd])) ?_
  rintro ⟨⟨pre, suf⟩, hp⟩
  dsimp only at hp
  subst hp
  cases suf with
  | nil =>
    simp only [w64L0, w64T1, go_sem, Nat.reduceEqDiff, Nat.reduceAdd, Nat.reduceLT, Nat.reduceLeDiff, reduceIte, reduceCtorEq]
    exact leaf (.sl false false (mI (pre.map fun r => Sp.dot r x))) (vle_mI rfl (by simp) (by simp) (List.take_of_length_le (by simp [mI_length]))) ⟨rfl, rfl⟩
  | cons r suf =>
    have hr4 : r.length = 4 := hv r (by simp)
    have hrl : (mI r).length = 4 := by rw [mI_length, hr4]
    have hxl : (mI x).length = 4 := by rw [mI_length, hx]
    have hwk : IntKind.i64.wrap ((pre.length : Int) + 1) = pre.length + 1 := wrap64 (by simp at hl; omega) (by simp at hl; omega)
    have e : mI (List.take pre.length (List.map (fun r => Sp.dot r x) pre)) ++ [I (Sp.dot r x)] = mI ((pre ++ [r]).map fun r => Sp.dot r x) := by
      rw [List.take_of_length_le (by simp), mI_snoc]; simp
    simp only [w64L0, mV_mid, mV_length, cells_vec, cut_vec, hr4, hrl, hx, hxl, allI_cell, go_sem, Nat.reduceEqDiff, Nat.reduceAdd, Nat.reduceLT, Nat.reduceLeDiff, reduceIte, reduceCtorEq]
    refine ⟨allI_cell r, ?_⟩
    refine CallK.pure (liftV (s82 r x hr4 hx) (by simp [bndL, vec, AVal.bnd, mI_bnd]) rfl _) ?_
    simp only [go_sem, Nat.reduceEqDiff, Nat.reduceAdd, Nat.reduceLT, Nat.reduceLeDiff, reduceIte, reduceCtorEq]
    refine ⟨by simp at hl; omega, ?_⟩
    refine round1 rfl ⟨(pre ++ [r], suf), by simp⟩ [some 0, some 4] (by simp) (Wk.mk0 rfl (by simp [imgs, Blk.alive]) (by dsimp only; rw [← e]; exact ⟨.inl ⟨rfl, mI_bnd⟩, .inl ⟨rfl, by rw [e]; exact mI_bnd⟩, trivial⟩) (by simp [fle, vle, Fr.get, hwk, mV_bnd]))
end Go.Proofs.Ytipfjfmdjmaflaa
