/- Contracts: whether columns can balance, and whether a vector is a move. -/
import Derived.Test.YtipfjfmdjmaflaaLB
namespace Go.Proofs.Ytipfjfmdjmaflaa
open Go.Abs AVal
set_option linter.unusedSimpArgs false
attribute [local go_sem] W_skip W_keep KQ_canon canon Fr.norm W_seq W_block W_scope W_exit W_ret W_ops W_draw KQ_nil KQ_norm_seq KQ_exit_seq KQ_ret_seq KQ_norm_block KQ_ret_block KQ_exit_block KQ_exit_loop KQ_ret_loop O_nil O_cons S_call S_mv SE_mv SD_mv S_pick SE_pick SD_pick S_bin SE_bin SD_bin S_eqb SE_eqb SD_eqb S_eqv SE_eqv SD_eqv S_eqnil SE_eqnil SD_eqnil S_un SE_un SD_un S_conv SE_conv SD_conv S_mkfn SE_mkfn SD_mkfn S_load SE_load SD_load S_nilck SE_nilck SD_nilck S_slS SE_slS SD_slS S_slP SE_slP SD_slP S_fldA SE_fldA SD_fldA S_fld SE_fld SD_fld S_ixS SE_ixS SD_ixS S_ixP SE_ixP SD_ixP S_ixV SE_ixV SD_ixV S_ixStr SE_ixStr SD_ixStr S_ext SE_ext SD_ext S_len SE_len SD_len S_lenStr SE_lenStr SD_lenStr S_lenc SE_lenc SD_lenc S_mn SE_mn SD_mn S_mx SE_mx SD_mx S_build SE_build SD_build S_alloc SD_alloc S_box SD_box S_bslice SD_bslice S_mksl SD_mksl S_store SD_store S_append SD_append S_copy SD_copy S_clr SD_clr aq_some aa_some al_some aqd_some aad_some ald_some ape_some D_done D_both D_early D_step SE_call SD_call IOpd.ev Fr.get Fr.put Fr.putd entryFr pickA binA binI isSh shI eqbA eqvA ints ints_mI Option.map_some eqnilA unA convA loadA nilckA intA slSA slPA fldAA fldVA ixSA ixPA ixVA ixStrA extA lenA lenStrA mnA mxA AVal.fits fillA fillOk buildA opa srcA appA stoA copA clrA rdFree zeros List.length_nil List.length_cons List.length_map List.map_cons List.map_nil Option.map_some Option.map_none if_true if_false ite_true ite_false true_and and_true and_self implies_true forall_const true_implies Bool.false_eq_true Bool.not_true Bool.not_false decide_eq_true_eq decide_eq_false_iff_not eq_self List.getElem?_cons_zero List.getElem?_cons_succ List.getElem?_nil List.set_cons_zero List.set_cons_succ List.nil_append List.cons_append List.append_nil List.replicate_zero List.replicate_succ Nat.zero_add false_implies rng_lt rng_end rng_get cells_I cells_B cells_sl cut_one Int.toNat_natCast Int.natCast_nonneg List.headD_cons Int.lt_irrefl not_false_eq_true decide_false decide_true mI_length mI_cells mI_sz mI_isCell mI_mid mI_append mI_take mI_drop cells_val cells_own cells_agg isCell_I isCell_B isCell_nil isCell_sl isCell_own isCell_ptr isCell_fn isCell_rp isCell_yld cellsOk_I cellsOk_B cellsOk_nil cellsOk_sl cellsOk_own cellsOk_ptr cellsOk_fn cellsOk_rp cellsOk_yld cellsOk_agg cells_nil cells_ptr cells_fn cells_rp List.all_cons List.all_nil Bool.and_true Nat.mul_one Nat.zero_mul Nat.one_mul List.take_zero List.take_nil List.drop_nil List.drop_zero List.not_mem_nil Nat.le_refl Nat.zero_le mS_length mS_cells mS_sz mS_isCell mS_mid mS_append mS_take mS_drop cells_sI isCell_sI cellsOk_sI sI_eq succ_le_self' List.take_succ_cons List.drop_succ_cons List.take_length beq_self_eq_true List.mem_cons or_false forall_eq mI_put mI_rep O_guard' D_earlyG' D_stepG' W_cond' G_tt G_tf G_ft G_ff GE_tt GE_tf GE_ft GE_ff GS_tt GS_tf GS_ft GS_ff G_u GE_u GS_u IC_t IC_f xft xff xtt xtf z00 z20 z22 z02 zz tn0

theorem mI_ne {x : List Int} (h : x.length = 4) : mI x ≠ [] := fun e => by have := congrArg List.length e; rw [mI_length, h] at this; cases this
theorem vec_bnd (x : List Int) : (vec x).bnd 0 = true := by simp [vec, AVal.bnd, mI_bnd]
theorem s104 (r x : List Int) (A M : Int) (hA : 0 ≤ A) (hM : 0 ≤ M) (hAM : A * M ≤ 1152921504606846976) (hr : r.length = 4) (hx : x.length = 4) (br : Sp.inB A r) (bx : Sp.inB M x) : Abs.Spec Try.prog 104 [vec r, .rp (mI x)] [] fun v H' => H' = [] ∧ v = B (Sp.dp r x != 0) := by
  refine Abs.Spec.walk mixed fn104 nn104 t104 q104 nt104 (by simp) ?_
  have hrl : (mI r).length = 4 := by rw [mI_length, hr]
  have hxl : (mI x).length = 4 := by rw [mI_length, hx]
  have hrc : cut true 4 (mI r) = vec r := cut_vec hr
  have hxc : cut true 4 (mI x) = vec x := cut_vec hx
  simp only [w104, hrl, hxl, hrc, hxc, vec_eq, go_sem, Nat.reduceEqDiff, Nat.reduceAdd, Nat.reduceLT, Nat.reduceLeDiff, reduceIte, reduceCtorEq]
  refine ⟨allI_cell r, ?_⟩
  refine CallK.pure (liftV (s82 r x hr hx) (by simp [bndL, vec_bnd]) rfl _) ?_
  simp only [go_sem, Nat.reduceEqDiff, Nat.reduceAdd, Nat.reduceLT, Nat.reduceLeDiff, reduceIte, reduceCtorEq]
  exact leaf (B _) rfl ⟨rfl, by rw [Sp.dot_dp hA hM hAM br bx hr]⟩
theorem s103 (nn t : Bool) (xs : List (List Int)) (h4 : ∀ x ∈ xs, x.length = 4) (fv : AVal) (p : List Int → Bool) (hf : ∀ x ∈ xs, CallV Try.prog fv [vec x] [] fun v H' => v = B (p x) ∧ H' = []) (hv : ∀ H, vle H [] [] 3 fv fv) (hl : xs.length < 9223372036854775808) :
    Abs.Spec Try.prog 103 [.sl nn t (mV xs), fv] [] fun v H' => H' = [] ∧ v = B (xs.any p) := by
  refine Abs.Spec.walk mixed fn103 nn103 t103 q103 nt103 (by simp) ?_
  simp only [w103, go_sem, Nat.reduceEqDiff, Nat.reduceAdd, Nat.reduceLT, Nat.reduceLeDiff, reduceIte, reduceCtorEq]
  refine CallK.by (CallV.of_spec (s96 nn t xs h4 fv p hf hv hl)) fun v H' ⟨h1, h2⟩ => ?_
  subst h1 h2
  simp only [go_sem, Nat.reduceEqDiff, Nat.reduceAdd, Nat.reduceLT, Nat.reduceLeDiff, reduceIte, reduceCtorEq]
  have e : decide (Sp.idx p xs ≥ 0) = xs.any p := by
    by_cases h : 0 ≤ Sp.idx p xs
    · obtain ⟨i, x, -, h2, h3, -⟩ := idx_at h
      rw [decide_eq_true h, List.any_eq_true.2 ⟨x, List.mem_of_getElem? h2, h3⟩]
    · rw [decide_eq_false (by omega)]
      symm
      rw [List.any_eq_false]
      intro x hx hp
      have := Sp.idx_pos (p := p) ⟨x, hx, hp⟩
      omega
  exact leaf (B _) rfl ⟨rfl, by rw [e]⟩
theorem s67 (vs : List (List Int)) (n : Int) (hr : Sp.Rows4 vs) (x : List Int) (M : Int) (hM : 0 ≤ M) (hAM : M ≤ 1000000000) (hx : x.length = 4) (bx : Sp.inB M x) : Abs.Spec Try.prog 67 [matV vs n, vec x] [] fun v H' => H' = [] ∧ v = B (Sp.moveB vs x) := by
  refine Abs.Spec.walk mixed fn67 nn67 t67 q67 nt67 (by simp) ?_
  have hxl : (mI x).length = 4 := by rw [mI_length, hx]
  simp only [w67, hxl, matV_eq, vec_eq, go_sem, Nat.reduceEqDiff, Nat.reduceAdd, Nat.reduceLT, Nat.reduceLeDiff, reduceIte, reduceCtorEq]
  refine ⟨allI_cell x, ?_⟩
  refine CallK.pure (CallV.of_spec (first := []) (cap := []) (Spec.lend (args' := [.sl false false (mV vs), .fn (.func 104) [] [.rp (mI x)]]) (s103 false false vs hr.len _ (fun r => Sp.dp r x != 0) (fun r hrm => (CallV.of_spec (first := []) (s104 r x 2 M (by decide) hM (by omega) (hr.len r hrm) hx (hr.bnd r hrm) bx)).mono fun v H' ⟨a, b⟩ => ⟨b, a⟩) (fun H => by simp [vle, vle.vleL, mI_bnd]) (by have := hr.two; omega)) rfl ⟨by simp [vle, mV_bnd], by simp [vle, vle.vleL, mI_bnd, mI_ne hx], trivial⟩)) ?_
  simp only [go_sem, Nat.reduceEqDiff, Nat.reduceAdd, Nat.reduceLT, Nat.reduceLeDiff, reduceIte, reduceCtorEq]
  exact leaf (B _) rfl ⟨rfl, by rw [Sp.moveB]; simp [List.any_eq_not_all_not, bne]⟩
theorem s133 (vs : List (List Int)) (n : Nat) (hn : n ≤ 4) (hr : Sp.Rows4 vs) (x : List Int) (M : Nat) (hM : M ≤ 1000) (hx : x.length = 4) (bx : Sp.inB M x) (i : Nat) (hi : i ≤ 4) (most : Nat) (hmost : most ≤ 1000) : Abs.Spec Try.prog 133 [matV vs n, vec x, I i, I most] [] fun v H' => H' = [] ∧ v = B (Sp.can vs n i most x) := by
  refine Abs.Spec.walk mixed fn133 nn133 t133 q133 nt133 (by simp) ?_
  have hxl : (mI x).length = 4 := by rw [mI_length, hx]
  simp only [w133, hxl, matV_eq, vec_eq, mV_length, go_sem, Nat.reduceEqDiff, Nat.reduceAdd, Nat.reduceLT, Nat.reduceLeDiff, reduceIte, reduceCtorEq]
  refine ⟨allI_cell x, ?_⟩
  refine W_loop (fun q : { q : List (List Int) × List (List Int) // q.1 ++ q.2 = vs ∧ Sp.can vs n i most x = q.2.all (Sp.canR n i most x) } => ([(2, I i), (3, I most), (4, ptr 0 0), (5, ptr 1 0), (15, sl false false (mV vs)), (16, I vs.length), (17, I q.1.1.length)], [.cells [sl false false (mV vs), I n], .cells (mI x)])) (fun q => q.1.2.length) ⟨([], vs), rfl, rfl⟩ [some 0, some 1] (Wk.mk0 rfl (by simp [imgs, Blk.alive]) (by simp [hle, csle, mI_bnd, bndL, AVal.bnd, mV_bnd]) (by simp [fle, vle, Fr.get, mV_bnd])) ?_
  rintro ⟨⟨pre, suf⟩, hp, hinv⟩
  dsimp only at hp hinv
  cases suf with
  | nil =>
    have hz : decide ((pre.length : Int) < vs.length) = false := decide_eq_false (by rw [← hp]; simp)
    simp only [w133L0, hz, w133T4, go_sem, Nat.reduceEqDiff, Nat.reduceAdd, Nat.reduceLT, Nat.reduceLeDiff, reduceIte, reduceCtorEq]
    exact leaf (B _) rfl ⟨rfl, by rw [hinv]; rfl⟩
  | cons r suf =>
    have hz : decide ((pre.length : Int) < vs.length) = true := decide_eq_true (by rw [← hp]; simp; omega)
    have hpl : pre.length < vs.length := by rw [← hp]; simp
    have hget : vs.getD pre.length [] = r := by rw [← hp]; simp [List.getD_eq_getElem?_getD]
    have hrm : r ∈ vs := by rw [← hp]; simp
    have hr4 := hr.len r hrm
    have br := hr.bnd r hrm
    have hrl : (mI r).length = 4 := by rw [mI_length, hr4]
    have hrc : cut true 4 (mI r) = vec r := cut_vec hr4
    have hwk : IntKind.i64.wrap ((pre.length : Int) + 1) = ((pre.length + 1 : Nat) : Int) := by have := hr.two; rw [wrap64 (by omega) (by omega)]; rfl
    have hmg : (mV vs).getD pre.length .any = vec r := by rw [mV_get hpl, hget]
    have hinv' : Sp.can vs n i most x = (Sp.canR n i most x r && suf.all (Sp.canR n i most x)) := hinv
    simp only [w133L0, hz, mV_length, hpl, hmg, cells_vec, hrl, hrc, go_sem, Nat.reduceEqDiff, Nat.reduceAdd, Nat.reduceLT, Nat.reduceLeDiff, reduceIte, reduceCtorEq]
    refine ⟨by omega, allI_cell r, ?_⟩
    refine W_loop (fun q : { j : Nat // j ≤ n } => ([(2, I i), (3, I most), (4, ptr 0 0), (5, ptr 1 0), (10, ptr 2 0), (11, I (Sp.dp (r.take (min i q.1)) (x.take (min i q.1)))), (12, I (Sp.room most ((r.take q.1).drop i))), (15, sl false false (mV vs)), (16, I vs.length), (17, I pre.length), (22, I n), (23, I q.1)],
      [.cells [sl false false (mV vs), I n], .cells (mI x), .cells (mI r)])) (fun q => n - q.1) ⟨0, by omega⟩ [some 0, some 1, some 2] (Wk.mk0 rfl (by simp [imgs, Blk.alive]) (by simp [hle, csle, mI_bnd, bndL, AVal.bnd, mV_bnd]) (by simp [fle, vle, Fr.get, mV_bnd, Sp.dp, Sp.room])) ?_
    rintro ⟨j, hjn⟩
    dsimp only
    by_cases hj : j < n
    · have hj' : decide ((j : Int) < n) = true := decide_eq_true (by omega)
      have hwj : IntKind.i64.wrap ((j : Int) + 1) = ((j + 1 : Nat) : Int) := by rw [wrap64 (by omega) (by omega)]; rfl
      have hjr : j < r.length := by omega
      have hjx : j < x.length := by omega
      have b1 := Sp.inB_getD br j
      have b2 := Sp.inB_getD bx j (by omega)
      have b3 := Sp.mul_bound b1.1 b1.2 b2.1 b2.2
      have b4 := Sp.dp_bound (by decide) (by omega) (Sp.inB_take br (min i j)) (Sp.inB_take bx (min i j))
      have b5 := Sp.room_bound (most := most) (by omega) (by decide) (show Sp.inB 2 ((r.take j).drop i) from fun a ha => br a (List.mem_of_mem_take (List.mem_of_mem_drop ha)))
      have l1 : (r.take (min i j)).length ≤ 4 := by rw [List.length_take]; omega
      have l2 : ((r.take j).drop i).length ≤ 4 := by rw [List.length_drop, List.length_take]; omega
      have h1 : (2 : Int) * (M : Int) * ((r.take (min i j)).length : Nat) ≤ 2 * M * 4 := Int.mul_le_mul_of_nonneg_left (by omega) (by omega)
      have h2 : (2 : Int) * (most : Int) * (((r.take j).drop i).length : Nat) ≤ 2 * most * 4 := Int.mul_le_mul_of_nonneg_left (by omega) (by omega)
      by_cases hji : j < i
      · have hji' : decide ((j : Int) < i) = true := decide_eq_true (by omega)
        have e1 : Sp.dp (r.take (min i (j + 1))) (x.take (min i (j + 1))) = Sp.dp (r.take (min i j)) (x.take (min i j)) + r.getD j 0 * x.getD j 0 := by
          rw [show min i (j + 1) = j + 1 by omega, show min i j = j by omega, Sp.take_snoc hjr, Sp.take_snoc hjx, Sp.dp_snoc _ _ (by simp; omega)]
        have e2 : (r.take (j + 1)).drop i = (r.take j).drop i := by
          rw [List.drop_of_length_le (by rw [List.length_take]; omega), List.drop_of_length_le (by rw [List.length_take]; omega)]
        have e3 : IntKind.i64.wrap (Sp.dp (r.take (min i j)) (x.take (min i j)) + IntKind.i64.wrap (r.getD j 0 * x.getD j 0)) = Sp.dp (r.take (min i (j + 1))) (x.take (min i (j + 1))) := by
          rw [wrap64 (x := r.getD j 0 * x.getD j 0) (by omega) (by omega), wrap64 (by omega) (by omega), e1]
        simp only [w133L1, hj', hji', mI_hd, hjr, hjx, e3, hwj, go_sem, Nat.reduceEqDiff, Nat.reduceAdd, Nat.reduceLT, Nat.reduceLeDiff, reduceIte, reduceCtorEq]
        repeat (refine ⟨by omega, ?_⟩)
        refine round1 rfl ⟨j + 1, by omega⟩ [some 0, some 1, some 2] (by dsimp only; omega) (Wk.mk0 rfl (by simp [imgs, Blk.alive]) (by simp [hle, csle, mI_bnd, bndL, AVal.bnd, mV_bnd]) (by simp [fle, vle, Fr.get, mV_bnd, e2]))
      · have hji' : decide ((j : Int) < i) = false := decide_eq_false (by omega)
        have e1 : min i (j + 1) = min i j := by omega
        have b6 : Sp.ab (r.getD j 0) ≤ 2 := Sp.ab_le.2 b1
        have b7 := Sp.ab_nonneg (r.getD j 0)
        have b8 := Sp.mul_bound (A := 2) (M := most) (a := Sp.ab (r.getD j 0)) (b := most) (by omega) b6 (by omega) (by omega)
        have e2 : Sp.room most ((r.take (j + 1)).drop i) = Sp.room most ((r.take j).drop i) + Sp.ab (r.getD j 0) * most := by
          rw [Sp.take_snoc hjr, List.drop_append_of_le_length (by rw [List.length_take]; omega), Sp.room_snoc]
        have e3 : IntKind.i64.wrap (Sp.room most ((r.take j).drop i) + IntKind.i64.wrap (Sp.ab (r.getD j 0) * most)) = Sp.room most ((r.take (j + 1)).drop i) := by
          rw [wrap64 (x := Sp.ab (r.getD j 0) * most) (by omega) (by omega), wrap64 (by omega) (by omega), e2]
        have e4 : Sp.absW (r.getD j 0) = Sp.ab (r.getD j 0) := Sp.absW_ab (by omega) (by omega)
        simp only [w133L1, hj', hji', mI_hd, hjr, hjx, go_sem, Nat.reduceEqDiff, Nat.reduceAdd, Nat.reduceLT, Nat.reduceLeDiff, reduceIte, reduceCtorEq]
        repeat (refine ⟨by omega, ?_⟩)
        refine CallK.pure (liftV (s102 _) rfl rfl _) ?_
        simp only [e4, e3, hwj, go_sem, Nat.reduceEqDiff, Nat.reduceAdd, Nat.reduceLT, Nat.reduceLeDiff, reduceIte, reduceCtorEq]
        refine round1 rfl ⟨j + 1, by omega⟩ [some 0, some 1, some 2] (by dsimp only; omega) (Wk.mk0 rfl (by simp [imgs, Blk.alive]) (by simp [hle, csle, mI_bnd, bndL, AVal.bnd, mV_bnd]) (by simp [fle, vle, Fr.get, mV_bnd, e1]))
    · have hj' : decide ((j : Int) < n) = false := decide_eq_false (by omega)
      obtain rfl : j = n := by omega
      have b4 := Sp.dp_bound (by decide) (by omega) (Sp.inB_take br (min i j)) (Sp.inB_take bx (min i j))
      have l1 : (r.take (min i j)).length ≤ 4 := by rw [List.length_take]; omega
      have h1 : (2 : Int) * (M : Int) * ((r.take (min i j)).length : Nat) ≤ 2 * M * 4 := Int.mul_le_mul_of_nonneg_left (by omega) (by omega)
      have e4 : Sp.absW (Sp.dp (r.take (min i j)) (x.take (min i j))) = Sp.ab (Sp.dp (r.take (min i j)) (x.take (min i j))) := Sp.absW_ab (by omega) (by omega)
      simp only [w133L1, hj', w133T2, go_sem, Nat.reduceEqDiff, Nat.reduceAdd, Nat.reduceLT, Nat.reduceLeDiff, reduceIte, reduceCtorEq]
      refine CallK.pure (liftV (s102 _) rfl rfl _) ?_
      simp only [e4, go_sem, Nat.reduceEqDiff, Nat.reduceAdd, Nat.reduceLT, Nat.reduceLeDiff, reduceIte, reduceCtorEq]
      refine IC.splitP (fun hg => ?_) fun hg => ?_
      · have hc : Sp.canR j i most x r = false := decide_eq_false (by omega)
        simp only [go_sem, Nat.reduceEqDiff, Nat.reduceAdd, Nat.reduceLT, Nat.reduceLeDiff, reduceIte, reduceCtorEq]
        exact leaf (B _) rfl ⟨rfl, by rw [hinv', hc]; rfl⟩
      · have hc : Sp.canR j i most x r = true := decide_eq_true (by omega)
        simp only [w133T3, hwk, go_sem, Nat.reduceEqDiff, Nat.reduceAdd, Nat.reduceLT, Nat.reduceLeDiff, reduceIte, reduceCtorEq]
        refine round1 rfl ⟨(pre ++ [r], suf), by simp [hp], by rw [hinv', hc]; rfl⟩ [some 0, some 1] (by simp) (Wk.mk0 rfl (by simp [imgs, Blk.alive]) (by simp [hle, csle, mI_bnd, bndL, AVal.bnd, mV_bnd]) (by simp [fle, vle, Fr.get, mV_bnd]))
end Go.Proofs.Ytipfjfmdjmaflaa
