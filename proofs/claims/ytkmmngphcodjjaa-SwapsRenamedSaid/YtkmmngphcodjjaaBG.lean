/- Contracts: Trade, Rounds, and the statement's function. -/
import Derived.Test.YtkmmngphcodjjaaBF
import Derived.Test.YtkmmngphcodjjaaCE
namespace Go.Proofs.Ytkmmngphcodjjaa
open Go.Abs AVal
set_option linter.unusedSimpArgs false
attribute [local go_sem] W_skip W_keep KQ_canon canon Fr.norm W_seq W_block W_cond W_exit W_ret W_ops W_draw KQ_nil KQ_norm_seq KQ_exit_seq KQ_ret_seq KQ_norm_block KQ_ret_block KQ_exit_block KQ_exit_loop KQ_ret_loop O_nil O_cons O_guard' S_call S_mv SE_mv SD_mv S_pick SE_pick SD_pick S_bin SE_bin SD_bin S_eqb SE_eqb SD_eqb S_eqv SE_eqv SD_eqv S_eqnil SE_eqnil SD_eqnil S_un SE_un SD_un S_conv SE_conv SD_conv S_mkfn SE_mkfn SD_mkfn S_load SE_load SD_load S_nilck SE_nilck SD_nilck S_slS SE_slS SD_slS S_slP SE_slP SD_slP S_fldA SE_fldA SD_fldA S_fld SE_fld SD_fld S_ixS SE_ixS SD_ixS S_ixP SE_ixP SD_ixP S_ixV SE_ixV SD_ixV S_ixStr SE_ixStr SD_ixStr S_ext SE_ext SD_ext S_len SE_len SD_len S_lenStr SE_lenStr SD_lenStr S_lenc SE_lenc SD_lenc S_mn SE_mn SD_mn S_mx SE_mx SD_mx S_build SE_build SD_build S_alloc SD_alloc S_box SD_box S_bslice SD_bslice S_mksl SD_mksl S_store SD_store S_append SD_append S_copy SD_copy S_clr SD_clr aq_some aa_some al_some aqd_some aad_some ald_some ape_some D_done D_both D_early D_earlyG' D_step D_stepG' SE_call SD_call G_bool GE_bool GS_bool icond_bool IOpd.ev Fr.get Fr.put Fr.putd entryFr pickA binA binI isSh shI eqbA eqvA ints ints_mI Option.map_some eqnilA unA convA loadA nilckA intA slSA slPA fldAA fldVA ixSA ixPA ixVA ixStrA extA lenA lenStrA mnA mxA AVal.fits fillA fillOk buildA opa srcA appA stoA copA clrA rdFree zeros List.length_nil List.length_cons List.length_map List.map_cons List.map_nil Option.map_some Option.map_none if_true if_false ite_true ite_false true_and and_true and_self implies_true forall_const true_implies Bool.false_eq_true Bool.not_true Bool.not_false decide_eq_true_eq decide_eq_false_iff_not eq_self List.getElem?_cons_zero List.getElem?_cons_succ List.getElem?_nil List.set_cons_zero List.set_cons_succ List.nil_append List.cons_append List.append_nil List.replicate_zero List.replicate_succ Nat.zero_add false_implies rng_lt rng_end rng_get cells_I cells_B cells_sl cut_one Int.toNat_natCast Int.natCast_nonneg List.headD_cons Int.lt_irrefl not_false_eq_true decide_false decide_true mI_length mI_cells mI_sz mI_isCell mI_mid mI_append mI_take mI_drop cells_val cells_own cells_agg isCell_I isCell_B isCell_nil isCell_sl isCell_own isCell_ptr isCell_fn isCell_rp isCell_yld cellsOk_I cellsOk_B cellsOk_nil cellsOk_sl cellsOk_own cellsOk_ptr cellsOk_fn cellsOk_rp cellsOk_yld cellsOk_agg cells_nil cells_ptr cells_fn cells_rp List.all_cons List.all_nil Bool.and_true Nat.mul_one Nat.zero_mul Nat.one_mul List.take_zero List.take_nil List.drop_nil List.drop_zero List.not_mem_nil Nat.le_refl Nat.zero_le mS_length mS_cells mS_sz mS_isCell mS_mid mS_append mS_take mS_drop cells_sI isCell_sI cellsOk_sI sI_eq succ_le_self' List.take_succ_cons List.drop_succ_cons List.take_length beq_self_eq_true List.mem_cons or_false forall_eq mI_put mI_rep

/-- Trade, Rounds: what the program answers. -/
def tradeA (w : List (List Int)) : AVal := if Sp.valid w then .tup [.sl false false (mI (Sp.fin w).1), I 0] else .tup [.sl false false (mI []), I 2]
def roundsA (w : List (List Int)) : AVal := if Sp.valid w then .tup [.sl false false (mI (Sp.fin w).2), I 0] else .tup [.sl false false (mI []), I 2]

theorem fin_small {w : List (List Int)} (g : Sp.Good w) : (Sp.fin w).1.length < 9223372036854775808 ∧ (Sp.fin w).2.length < 9223372036854775808 := by
  have h := Sp.st_len w w.length
  have := g.n6
  exact ⟨by show (Sp.st w w.length).1.length < _; omega, by show (Sp.st w w.length).2.length < _; omega⟩

theorem s15 (nn t : Bool) (w : List (List Int)) (hw : ∀ l ∈ w, l.length < 9223372036854775808) (hl : w.length < 9223372036854775808) : Abs.Spec Try.prog 15 [.sl nn t (mS w)] [] fun v H' => H' = [] ∧ v = tradeA w := by
  refine Abs.Spec.walk mixed fn15 nn15 t15 q15 nt15 (by simp) ?_
  simp only [w15, go_sem, Nat.reduceEqDiff, Nat.reduceAdd, Nat.reduceLT, Nat.reduceLeDiff, reduceIte, reduceCtorEq]
  refine CallK.by (CallV.of_spec (s55 nn t w hw hl)) fun v H' ⟨h1, h2⟩ => ?_
  subst h1 h2
  simp only [go_sem, Nat.reduceEqDiff, Nat.reduceAdd, Nat.reduceLT, Nat.reduceLeDiff, reduceIte, reduceCtorEq]
  refine ⟨fun h => ?_, fun h => ?_⟩
  · refine leaf2 _ ?_ ⟨rfl, rfl⟩
    have h' : Sp.valid w = false := by simpa using h
    rw [tradeA, h']
    exact ⟨⟨mI_bnd, rfl, rfl⟩, rfl, trivial⟩
  · have h' : Sp.valid w = true := by simpa using h
    have g := Sp.valid_good h'
    refine CallK.by (CallV.of_spec (s56 nn t w g)) fun v H' ⟨h1, h2⟩ => ?_
    subst h1 h2
    simp only [List.getD_cons_zero, List.getD_cons_succ, go_sem, Nat.reduceEqDiff, Nat.reduceAdd, Nat.reduceLT, Nat.reduceLeDiff, reduceIte, reduceCtorEq]
    refine leaf2 _ ?_ ⟨rfl, rfl⟩
    rw [tradeA, if_pos h']
    exact ⟨by simp [vle, Fr.get, mI_bnd], rfl, trivial⟩

theorem s17 (nn t : Bool) (w : List (List Int)) (hw : ∀ l ∈ w, l.length < 9223372036854775808) (hl : w.length < 9223372036854775808) : Abs.Spec Try.prog 17 [.sl nn t (mS w)] [] fun v H' => H' = [] ∧ v = roundsA w := by
  refine Abs.Spec.walk mixed fn17 nn17 t17 q17 nt17 (by simp) ?_
  simp only [w17, go_sem, Nat.reduceEqDiff, Nat.reduceAdd, Nat.reduceLT, Nat.reduceLeDiff, reduceIte, reduceCtorEq]
  refine CallK.by (CallV.of_spec (s55 nn t w hw hl)) fun v H' ⟨h1, h2⟩ => ?_
  subst h1 h2
  simp only [go_sem, Nat.reduceEqDiff, Nat.reduceAdd, Nat.reduceLT, Nat.reduceLeDiff, reduceIte, reduceCtorEq]
  refine ⟨fun h => ?_, fun h => ?_⟩
  · refine leaf2 _ ?_ ⟨rfl, rfl⟩
    have h' : Sp.valid w = false := by simpa using h
    rw [roundsA, h']
    exact ⟨⟨mI_bnd, rfl, rfl⟩, rfl, trivial⟩
  · have h' : Sp.valid w = true := by simpa using h
    have g := Sp.valid_good h'
    refine CallK.by (CallV.of_spec (s56 nn t w g)) fun v H' ⟨h1, h2⟩ => ?_
    subst h1 h2
    simp only [List.getD_cons_zero, List.getD_cons_succ, go_sem, Nat.reduceEqDiff, Nat.reduceAdd, Nat.reduceLT, Nat.reduceLeDiff, reduceIte, reduceCtorEq]
    refine leaf2 _ ?_ ⟨rfl, rfl⟩
    rw [roundsA, if_pos h']
    exact ⟨by simp [vle, Fr.get, mI_bnd], rfl, trivial⟩

theorem s21 (nn t : Bool) (w : List (List Int)) (g : Sp.Good w) : Abs.Spec Try.prog 21 [.sl nn t (mS w)] [] fun v H' => H' = [] ∧ v = .sl false false (mI (Sp.fin w).1) := by
  refine Abs.Spec.walk mixed fn21 nn21 t21 q21 nt21 (by simp) ?_
  simp only [w21, go_sem, Nat.reduceEqDiff, Nat.reduceAdd, Nat.reduceLT, Nat.reduceLeDiff, reduceIte, reduceCtorEq]
  refine CallK.by (CallV.of_spec (s57 nn t w g)) fun v H' ⟨h1, h2⟩ => ?_
  subst h1 h2
  simp only [List.getD_cons_zero, List.getD_cons_succ, go_sem, Nat.reduceEqDiff, Nat.reduceAdd, Nat.reduceLT, Nat.reduceLeDiff, reduceIte, reduceCtorEq]
  exact leaf (.sl false false (mI (Sp.fin w).1)) (by simp [vle, Fr.get, mI_bnd]) ⟨rfl, rfl⟩

theorem s22 (nn t : Bool) (w : List (List Int)) (g : Sp.Good w) : Abs.Spec Try.prog 22 [.sl nn t (mS w)] [] fun v H' => H' = [] ∧ v = .sl false false (mI (Sp.fin w).2) := by
  refine Abs.Spec.walk mixed fn22 nn22 t22 q22 nt22 (by simp) ?_
  simp only [w22, go_sem, Nat.reduceEqDiff, Nat.reduceAdd, Nat.reduceLT, Nat.reduceLeDiff, reduceIte, reduceCtorEq]
  refine CallK.by (CallV.of_spec (s57 nn t w g)) fun v H' ⟨h1, h2⟩ => ?_
  subst h1 h2
  simp only [List.getD_cons_zero, List.getD_cons_succ, go_sem, Nat.reduceEqDiff, Nat.reduceAdd, Nat.reduceLT, Nat.reduceLeDiff, reduceIte, reduceCtorEq]
  exact leaf (.sl false false (mI (Sp.fin w).2)) (by simp [vle, Fr.get, mI_bnd]) ⟨rfl, rfl⟩

def w2 : List (List Int) := [[1, 0], [0, 1]]
theorem w2_valid : Sp.valid w2 = true := by decide +kernel
theorem w2_fin : (Sp.fin w2).1 = [1, 0] := by decide +kernel

theorem s19 : Abs.Spec Try.prog 19 [] [] fun v H' => H' = [] ∧ v = B true := by
  refine Abs.Spec.walk mixed fn19 nn19 t19 q19 nt19 (by simp) ?_
  simp only [w19, go_sem, Nat.reduceEqDiff, Nat.reduceAdd, Nat.reduceLT, Nat.reduceLeDiff, reduceIte, reduceCtorEq]
  have hA : tradeA w2 = .tup [.sl false false (mI [1, 0]), I 0] := by rw [tradeA, if_pos w2_valid, w2_fin]
  have h1 := (s15 false false w2 (by decide) (by decide)).mono (R' := fun v' H' => v' = tradeA w2 ∧ H' = []) fun v H' h => ⟨h.2, h.1⟩
  rw [hA] at h1
  have h2 := Spec.give (args := [.own 0 0 2 2 1]) (H := [.cells (mS w2)]) (ρ := []) h1 rfl (Wk.nil ⟨vle_mS (cs := mS w2) rfl (by simp) rfl rfl, trivial⟩) (by simp [AVal.bnd, bndL, mI_bnd])
  have h3 := Spec.give (args := [.own 2 0 2 2 1]) (H := [.cells (mI [1, 0]), .cells (mI [0, 1]), .cells [.own 0 0 2 2 1, .own 1 0 2 2 1]]) (ρ := [some 2]) (R := fun H' => H' = [.dead]) h2 rfl
    (Wk.mk0 rfl (by simp [imgs, Blk.alive]) ⟨.inr ⟨vle_mI rfl (by simp [imgs, Blk.alive]) rfl rfl, vle_mI rfl (by simp [imgs, Blk.alive]) rfl rfl, trivial⟩, trivial⟩ ⟨by simp [vle, Fr.get, entryFr], trivial⟩) (by simp [AVal.bnd, bndL, mI_bnd])
  refine CallK.by (CallV.of_spec h3) fun v H' ⟨e1, e2⟩ => ?_
  subst e1 e2
  simp only [List.getD_cons_zero, List.getD_cons_succ, Blk.gone, go_sem, Nat.reduceEqDiff, Nat.reduceAdd, Nat.reduceLT, Nat.reduceLeDiff, reduceIte, reduceCtorEq]
  refine CallK.pure (CallV.of_spec (Spec.lend (args' := [.sl false false (mI [1, 0]), .sl false false (mI [1, 0])]) (s20 false false false false [1, 0] [1, 0] (by decide)) rfl ⟨⟨mI_bnd, fun h => (by cases h), fun h => (by cases h), rfl⟩, vle_mI (cs := mI [1, 0]) rfl (by simp) rfl rfl, trivial⟩)) ?_
  simp only [go_sem, Nat.reduceEqDiff, Nat.reduceAdd, Nat.reduceLT, Nat.reduceLeDiff, reduceIte, reduceCtorEq]
  exact leaf (B true) rfl ⟨rfl, rfl⟩

set_option maxHeartbeats 2000000 in
/-- The statement's function. -/
theorem s3 (nn t : Bool) (w : List (List Int)) (hw : ∀ l ∈ w, l.length < 9223372036854775808) (hl : w.length < 9223372036854775808) : Abs.Spec Try.prog 3 [.sl nn t (mS w)] [] fun v H' => H' = [] ∧ v = B true := by
  have hw' : ∀ l ∈ Sp.table w, l.length < 9223372036854775808 := fun l hm => by
    unfold Sp.table at hm
    obtain ⟨a, _, rfl⟩ := List.mem_map.1 hm
    simp; omega
  have hl' : (Sp.table w).length < 9223372036854775808 := by simp [Sp.table]; omega
  refine Abs.Spec.walk mixed fn3 nn3 t3 q3 nt3 (by simp) ?_
  simp only [w3, go_sem, Nat.reduceEqDiff, Nat.reduceAdd, Nat.reduceLT, Nat.reduceLeDiff, reduceIte, reduceCtorEq]
  refine CallK.by (CallV.of_spec (s16 nn t w hw hl)) fun v H' ⟨h1, h2⟩ => ?_
  subst h1 h2
  simp only [go_sem, Nat.reduceEqDiff, Nat.reduceAdd, Nat.reduceLT, Nat.reduceLeDiff, reduceIte, reduceCtorEq]
  refine CallK.by (CallV.of_spec (s15 false false _ hw' hl')) fun v H' ⟨h1, h2⟩ => ?_
  subst h1 h2
  by_cases hv : Sp.valid w = true
  · have hvt : Sp.valid (Sp.table w) = true := by rw [Sp.table_valid]; exact hv
    have et := Sp.take_valid w hv
    have g := Sp.valid_good hv
    have hfs := fin_small g
    have eA : tradeA (Sp.table w) = .tup [.sl false false (mI (Sp.fin w).1), I 0] := by rw [tradeA, if_pos hvt, et]
    have eR : roundsA (Sp.table w) = .tup [.sl false false (mI (Sp.fin w).2), I 0] := by rw [roundsA, if_pos hvt, et]
    rw [eA]
    simp only [List.getD_cons_zero, List.getD_cons_succ, go_sem, Nat.reduceEqDiff, Nat.reduceAdd, Nat.reduceLT, Nat.reduceLeDiff, reduceIte, reduceCtorEq]
    refine CallK.by (CallV.of_spec (s16 nn t w hw hl)) fun v H' ⟨h1, h2⟩ => ?_
    subst h1 h2
    simp only [go_sem, Nat.reduceEqDiff, Nat.reduceAdd, Nat.reduceLT, Nat.reduceLeDiff, reduceIte, reduceCtorEq]
    refine CallK.by (CallV.of_spec (s17 false false _ hw' hl')) fun v H' ⟨h1, h2⟩ => ?_
    subst h1 h2
    rw [eR]
    simp only [List.getD_cons_zero, List.getD_cons_succ, go_sem, Nat.reduceEqDiff, Nat.reduceAdd, Nat.reduceLT, Nat.reduceLeDiff, reduceIte, reduceCtorEq]
    refine CallK.by (CallV.of_spec (s18 nn t w hw hl)) fun v H' ⟨h1, h2⟩ => ?_
    subst h1 h2
    rw [Sp.wishes_valid, hv]
    simp only [go_sem, Nat.reduceEqDiff, Nat.reduceAdd, Nat.reduceLT, Nat.reduceLeDiff, reduceIte, reduceCtorEq]
    refine CallK.by (CallV.of_spec (s21 nn t w g)) fun v H' ⟨h1, h2⟩ => ?_
    subst h1 h2
    simp only [go_sem, Nat.reduceEqDiff, Nat.reduceAdd, Nat.reduceLT, Nat.reduceLeDiff, reduceIte, reduceCtorEq]
    refine CallK.by (CallV.of_spec (s20 false false false false _ _ hfs.1)) fun v H' ⟨h1, h2⟩ => ?_
    subst h1 h2
    rw [beq_self_eq_true]
    simp only [go_sem, Nat.reduceEqDiff, Nat.reduceAdd, Nat.reduceLT, Nat.reduceLeDiff, reduceIte, reduceCtorEq]
    refine CallK.by (CallV.of_spec (s22 nn t w g)) fun v H' ⟨h1, h2⟩ => ?_
    subst h1 h2
    simp only [go_sem, Nat.reduceEqDiff, Nat.reduceAdd, Nat.reduceLT, Nat.reduceLeDiff, reduceIte, reduceCtorEq]
    refine CallK.by (CallV.of_spec (s20 false false false false _ _ hfs.2)) fun v H' ⟨h1, h2⟩ => ?_
    subst h1 h2
    rw [beq_self_eq_true]
    simp only [go_sem, Nat.reduceEqDiff, Nat.reduceAdd, Nat.reduceLT, Nat.reduceLeDiff, reduceIte, reduceCtorEq]
    refine CallK.by (CallV.of_spec s19) fun v H' ⟨h1, h2⟩ => ?_
    subst h1 h2
    simp only [go_sem, Nat.reduceEqDiff, Nat.reduceAdd, Nat.reduceLT, Nat.reduceLeDiff, reduceIte, reduceCtorEq]
    exact leaf (B true) rfl ⟨rfl, rfl⟩
  · have hv : Sp.valid w = false := by simpa using hv
    have hvt : Sp.valid (Sp.table w) = false := by rw [Sp.table_valid]; exact hv
    have eA : tradeA (Sp.table w) = .tup [.sl false false (mI []), I 2] := by rw [tradeA, hvt]; rfl
    have eR : roundsA (Sp.table w) = .tup [.sl false false (mI []), I 2] := by rw [roundsA, hvt]; rfl
    rw [eA]
    simp only [List.getD_cons_zero, List.getD_cons_succ, go_sem, Nat.reduceEqDiff, Nat.reduceAdd, Nat.reduceLT, Nat.reduceLeDiff, reduceIte, reduceCtorEq]
    refine CallK.by (CallV.of_spec (s16 nn t w hw hl)) fun v H' ⟨h1, h2⟩ => ?_
    subst h1 h2
    simp only [go_sem, Nat.reduceEqDiff, Nat.reduceAdd, Nat.reduceLT, Nat.reduceLeDiff, reduceIte, reduceCtorEq]
    refine CallK.by (CallV.of_spec (s17 false false _ hw' hl')) fun v H' ⟨h1, h2⟩ => ?_
    subst h1 h2
    rw [eR]
    simp only [List.getD_cons_zero, List.getD_cons_succ, go_sem, Nat.reduceEqDiff, Nat.reduceAdd, Nat.reduceLT, Nat.reduceLeDiff, reduceIte, reduceCtorEq]
    refine CallK.by (CallV.of_spec (s18 nn t w hw hl)) fun v H' ⟨h1, h2⟩ => ?_
    subst h1 h2
    rw [Sp.wishes_valid, hv]
    simp only [go_sem, Nat.reduceEqDiff, Nat.reduceAdd, Nat.reduceLT, Nat.reduceLeDiff, reduceIte, reduceCtorEq]
    have e0 : (IntKind.i64.wrap (((0 : Nat) : Int) + ((0 : Nat) : Int)) == 0) = true := by decide
    refine ⟨fun _ => ?_, fun h => by rw [e0] at h; cases h⟩
    refine CallK.by (CallV.of_spec s19) fun v H' ⟨h1, h2⟩ => ?_
    subst h1 h2
    simp only [go_sem, Nat.reduceEqDiff, Nat.reduceAdd, Nat.reduceLT, Nat.reduceLeDiff, reduceIte, reduceCtorEq]
    exact leaf (B true) rfl ⟨rfl, rfl⟩
end Go.Proofs.Ytkmmngphcodjjaa
