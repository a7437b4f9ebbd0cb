/- Contracts of folds: piles upside down and from the other end; the statement FoldsTurns. -/
import Derived.Test.YthdjloegibenoaaFK
namespace Go.Proofs.Ythdjloegibenoaa
open Go.Abs AVal
set_option linter.unusedSimpArgs false
attribute [local go_sem] W_skip W_keep KQ_canon canon Fr.norm W_seq W_block W_exit W_ret W_ops W_draw KQ_nil KQ_norm_seq KQ_exit_seq KQ_ret_seq KQ_norm_block KQ_ret_block KQ_exit_block KQ_exit_loop KQ_ret_loop O_nil O_cons S_call S_mv SE_mv SD_mv S_pick SE_pick SD_pick S_bin SE_bin SD_bin S_eqb SE_eqb SD_eqb S_eqv SE_eqv SD_eqv S_eqnil SE_eqnil SD_eqnil S_un SE_un SD_un S_conv SE_conv SD_conv S_mkfn SE_mkfn SD_mkfn S_load SE_load SD_load S_nilck SE_nilck SD_nilck S_slS SE_slS SD_slS S_slP SE_slP SD_slP S_fldA SE_fldA SD_fldA S_fld SE_fld SD_fld S_ixS SE_ixS SD_ixS S_ixP SE_ixP SD_ixP S_ixV SE_ixV SD_ixV S_ixStr SE_ixStr SD_ixStr S_ext SE_ext SD_ext S_len SE_len SD_len S_lenStr SE_lenStr SD_lenStr S_lenc SE_lenc SD_lenc S_mn SE_mn SD_mn S_mx SE_mx SD_mx S_build SE_build SD_build S_alloc SD_alloc S_box SD_box S_bslice SD_bslice S_mksl SD_mksl S_store SD_store S_append SD_append S_copy SD_copy S_clr SD_clr aq_some aa_some al_some aqd_some aad_some ald_some ape_some D_done D_both D_early D_step SE_call SD_call IOpd.ev Fr.get Fr.put Fr.putd entryFr pickA binA binI isSh shI eqbA eqvA ints ints_mI Option.map_some eqnilA unA convA loadA nilckA intA slSA slPA fldAA fldVA ixSA ixPA ixVA ixStrA extA lenA lenStrA mnA mxA AVal.fits fillA fillOk buildA opa srcA appA stoA copA clrA rdFree zeros List.length_nil List.length_cons List.length_map List.map_cons List.map_nil Option.map_some Option.map_none if_true if_false ite_true ite_false true_and and_true and_self implies_true forall_const true_implies Bool.false_eq_true Bool.not_true Bool.not_false decide_eq_true_eq decide_eq_false_iff_not eq_self List.getElem?_cons_zero List.getElem?_cons_succ List.getElem?_nil List.set_cons_zero List.set_cons_succ List.nil_append List.cons_append List.append_nil List.replicate_zero List.replicate_succ Nat.zero_add false_implies rng_lt rng_end rng_get cells_I cells_B cells_sl cut_one Int.toNat_natCast Int.natCast_nonneg List.headD_cons Int.lt_irrefl not_false_eq_true decide_false decide_true mI_length mI_cells mI_sz mI_isCell mI_mid mI_append mI_take mI_drop cells_val cells_own cells_agg isCell_I isCell_B isCell_nil isCell_sl isCell_own isCell_ptr isCell_fn isCell_rp isCell_yld cellsOk_I cellsOk_B cellsOk_nil cellsOk_sl cellsOk_own cellsOk_ptr cellsOk_fn cellsOk_rp cellsOk_yld cellsOk_agg cells_nil cells_ptr cells_fn cells_rp List.all_cons List.all_nil Bool.and_true Nat.mul_one Nat.zero_mul Nat.one_mul List.take_zero List.take_nil List.drop_nil List.drop_zero List.not_mem_nil Nat.le_refl Nat.zero_le mS_length mS_cells mS_sz mS_isCell mS_mid mS_append mS_take mS_drop cells_sI isCell_sI cellsOk_sI sI_eq succ_le_self' List.take_succ_cons List.drop_succ_cons List.take_length beq_self_eq_true List.mem_cons or_false forall_eq mI_put mI_rep O_guard' D_earlyG' D_stepG' W_cond' G_tt G_tf G_ft G_ff GE_tt GE_tf GE_ft GE_ff GS_tt GS_tf GS_ft GS_ff G_u GE_u GS_u IC_t IC_f xft xff xtt xtf z00 z20 z22 z02 zz tn0

/-- Reversed so far. -/
def revAt (xs : List Int) (i k : Nat) : Int := if k < i ∨ xs.length - 1 - k < i then xs.getD (xs.length - 1 - k) 0 else xs.getD k 0
theorem rev_end {xs ys : List Int} {i : Nat} (hl : ys.length = xs.length) (hi : xs.length ≤ 2 * i + 1) (h : ∀ k, k < xs.length → ys.getD k 0 = revAt xs i k) : ys = xs.reverse := by
  refine List.ext_getElem (by simp [hl]) fun k h1 h2 => ?_
  have hk : k < xs.length := by omega
  have := h k hk
  rw [List.getD_eq_getElem?_getD, List.getElem?_eq_getElem h1] at this
  have hk2 : xs.length - 1 - k < xs.length := by omega
  rw [List.getElem_reverse]
  simp only [Option.getD_some] at this
  rw [this, revAt]
  split
  · rw [List.getD_eq_getElem?_getD, List.getElem?_eq_getElem hk2]; rfl
  · have : xs.length - 1 - k = k := by omega
    rw [List.getD_eq_getElem?_getD, List.getElem?_eq_getElem hk]
    simp only [Option.getD_some, this]
theorem rev_step {xs ys : List Int} {i : Nat} (hl : ys.length = xs.length) (hi : i < xs.length - 1 - i) (h : ∀ k, k < xs.length → ys.getD k 0 = revAt xs i k) :
    ∀ k, k < xs.length → ((ys.set i (ys.getD (xs.length - 1 - i) 0)).set (xs.length - 1 - i) (ys.getD i 0)).getD k 0 = revAt xs (i + 1) k := by
  intro k hk
  have a1 := h i (by omega)
  have a2 := h (xs.length - 1 - i) (by omega)
  have ak := h k hk
  rw [List.getD_eq_getElem?_getD, List.getElem?_set, List.getElem?_set]
  simp only [List.length_set]
  by_cases h1 : xs.length - 1 - i = k
  · rw [if_pos h1, if_pos (by omega), Option.getD_some, a1, revAt, revAt, if_neg (by omega), if_pos (by omega)]
    congr 1; omega
  · rw [if_neg h1]
    by_cases h2 : i = k
    · rw [if_pos h2, if_pos (by omega), Option.getD_some, a2, revAt, revAt, if_neg (by omega), if_pos (by omega)]
      congr 1; omega
    · rw [if_neg h2, ← List.getD_eq_getElem?_getD, ak, revAt, revAt]
      by_cases h3 : k < i ∨ xs.length - 1 - k < i
      · rw [if_pos h3, if_pos (by omega)]
      · rw [if_neg h3, if_neg (by omega)]

set_option maxHeartbeats 1000000 in
theorem s67 (xs : List Int) (h1 : 1 ≤ xs.length) (hl : xs.length ≤ 1000) : Abs.Spec Try.prog 67 [.own 0 0 xs.length xs.length 1] [.cells (mI xs)] fun v H' => v = .tup [] ∧ H' = [.cells (mI xs.reverse)] := by
  refine Abs.Spec.walk mixed fn67 nn67 t67 q67 nt67 (by simp) ?_
  have hw : IntKind.i64.wrap ((xs.length : Int) - 1) = ((xs.length - 1 : Nat) : Int) := by rw [wrap64 (by omega) (by omega)]; omega
  simp only [w67, hw, go_sem, Nat.reduceEqDiff, Nat.reduceAdd, Nat.reduceLT, Nat.reduceLeDiff, reduceIte, reduceCtorEq]
  refine W_loop (fun q : { q : Nat × List Int // 2 * q.1 ≤ xs.length ∧ q.2.length = xs.length ∧ ∀ k, k < xs.length → q.2.getD k 0 = revAt xs q.1 k } => ([(0, own 0 0 xs.length xs.length 1), (2, I q.1.1), (3, I ((xs.length - 1 : Nat) - (q.1.1 : Nat) : Int))], [.cells (mI q.1.2)])) (fun q => xs.length - q.1.1)
    ⟨(0, xs), by simp, rfl, fun k hk => by rw [revAt, if_neg (by omega)]⟩ (idρ 1) (WkB (B := 1) rfl (by simp [blkOk, mI_bnd]) (by simp [Fr.get, vid])) ?_
  rintro ⟨⟨i, ys⟩, hi, hyl, hinv⟩
  dsimp only at hi hyl hinv ⊢
  by_cases hlt : i < xs.length - 1 - i
  · have ej : ((xs.length - 1 : Nat) - (i : Nat) : Int) = ((xs.length - 1 - i : Nat) : Int) := by omega
    rw [ej]
    obtain ⟨j, hj⟩ : ∃ j, xs.length - 1 - i = j := ⟨_, rfl⟩
    have hstep := rev_step hyl hlt hinv
    rw [hj] at hstep hlt ⊢
    have hz : decide ((i : Int) < j) = true := decide_eq_true (by omega)
    have iy : i < ys.length := by omega
    have jy : j < ys.length := by omega
    have il : (i : Int) < xs.length := by omega
    have jl : (j : Int) < xs.length := by omega
    have hwi : IntKind.i64.wrap ((i : Int) + 1) = ((i + 1 : Nat) : Int) := by rw [wrap64 (by omega) (by omega)]; rfl
    have hwj : IntKind.i64.wrap ((j : Int) - 1) = ((xs.length - 1 : Nat) - (i + 1 : Nat) : Int) := by rw [wrap64 (by omega) (by omega)]; omega
    have jy2 : j < (ys.set i (ys.getD j 0)).length := by simpa using jy
    simp only [w67L0, hz, il, jl, mI_hd, iy, jy, mI_put, set_put, jy2, hwi, hwj, go_sem, Nat.reduceEqDiff, Nat.reduceAdd, Nat.reduceLT, Nat.reduceLeDiff, reduceIte, reduceCtorEq]
    refine ⟨by omega, by omega, by omega, by omega, ?_⟩
    exact roundB ⟨(i + 1, (ys.set i (ys.getD j 0)).set j (ys.getD i 0)), by omega, by simp [hyl], hstep⟩ (by dsimp only; omega) rfl rfl (by simp [blkOk, mI_bnd]) (by simp [Fr.get, vid])
  · have ej : decide ((i : Int) < ((xs.length - 1 : Nat) - (i : Nat) : Int)) = false := decide_eq_false (by omega)
    simp only [w67L0, ej, go_sem, Nat.reduceEqDiff, Nat.reduceAdd, Nat.reduceLT, Nat.reduceLeDiff, reduceIte, reduceCtorEq]
    rw [rev_end hyl (by omega) hinv]
    exact leafB0 (H0 := [.cells (mI xs.reverse)]) (H1 := []) rfl (by simp [blkOk, mI_bnd]) ⟨rfl, rfl⟩

theorem s38 (nn t : Bool) (D : List Int) (hD : D.length < 9223372036854775808) : Abs.Spec Try.prog 38 [.sl nn t (mI D)] [] fun v H' => H' = [] ∧ v = if Sp.isStrip D then .tup [.sl false false (mI D.reverse), I 0] else .tup [.sl false false (mI []), I 2] := by
  refine Abs.Spec.walk mixed fn38 nn38 t38 q38 nt38 (by simp) ?_
  simp only [w38, go_sem, Nat.reduceEqDiff, Nat.reduceAdd, Nat.reduceLT, Nat.reduceLeDiff, reduceIte, reduceCtorEq]
  refine CallK.pure (liftV (s48 nn t D hD) (by simp [bndL, AVal.bnd, mI_bnd]) rfl _) ?_
  simp only [go_sem, Nat.reduceEqDiff, Nat.reduceAdd, Nat.reduceLT, Nat.reduceLeDiff, reduceIte, reduceCtorEq]
  refine IC.split (fun h => ?_) fun h => ?_
  · have h : Sp.isStrip D = false := by simpa using h
    simp only [go_sem, Nat.reduceEqDiff, Nat.reduceAdd, Nat.reduceLT, Nat.reduceLeDiff, reduceIte, reduceCtorEq]
    exact leaf2 (.tup [.sl false false (mI []), I 2]) ⟨⟨mI_bnd, rfl, rfl⟩, rfl, trivial⟩ ⟨rfl, by rw [h]; rfl⟩
  · have h : Sp.isStrip D = true := by simpa using h
    obtain ⟨h1, h7, hp⟩ := Sp.strip_pile h
    simp only [go_sem, Nat.reduceEqDiff, Nat.reduceAdd, Nat.reduceLT, Nat.reduceLeDiff, reduceIte, reduceCtorEq]
    refine CallK.by (CallV.of_spec (s44o nn t D h1 (by omega))) fun v H' ⟨e1, e2⟩ => ?_
    subst e1 e2
    simp only [go_sem, Nat.reduceEqDiff, Nat.reduceAdd, Nat.reduceLT, Nat.reduceLeDiff, reduceIte, reduceCtorEq]
    refine CallK.by (CallV.of_spec (s67 D h1 (by omega))) fun v H' ⟨e1, e2⟩ => ?_
    subst e1 e2
    simp only [go_sem, Nat.reduceEqDiff, Nat.reduceAdd, Nat.reduceLT, Nat.reduceLeDiff, reduceIte, reduceCtorEq]
    refine leaf2 (.tup [.sl false false (mI D.reverse), I 0]) ⟨?_, rfl, trivial⟩ ⟨rfl, by rw [h]; rfl⟩
    exact vle_mI rfl (by simp) (by simp) (List.take_of_length_le (by simp [mI_length]))

/-- The strip from its other end. -/
def backP (D : List Int) : List Int := D.map fun x => (D.length : Int) - 1 - x
theorem backP_take {D : List Int} {i : Nat} (h : i < D.length) : (backP D).take (i + 1) = (backP D).take i ++ [(D.length : Int) - 1 - D.getD i 0] := by
  have hb : i < (backP D).length := by simp [backP, h]
  rw [List.take_add_one, List.getElem?_eq_getElem hb]
  simp [backP, List.getD_eq_getElem?_getD, h]
theorem backP_len (D : List Int) : (backP D).length = D.length := by simp [backP]

theorem s39 (nn t : Bool) (D : List Int) (hD : D.length < 9223372036854775808) : Abs.Spec Try.prog 39 [.sl nn t (mI D)] [] fun v H' => H' = [] ∧ v = if Sp.isStrip D then .tup [.sl false false (mI (backP D)), I 0] else .tup [.sl false false (mI []), I 2] := by
  refine Abs.Spec.walk mixed fn39 nn39 t39 q39 nt39 (by simp) ?_
  simp only [w39, go_sem, Nat.reduceEqDiff, Nat.reduceAdd, Nat.reduceLT, Nat.reduceLeDiff, reduceIte, reduceCtorEq]
  refine CallK.pure (liftV (s48 nn t D hD) (by simp [bndL, AVal.bnd, mI_bnd]) rfl _) ?_
  simp only [go_sem, Nat.reduceEqDiff, Nat.reduceAdd, Nat.reduceLT, Nat.reduceLeDiff, reduceIte, reduceCtorEq]
  refine IC.split (fun h => ?_) fun h => ?_
  · have h : Sp.isStrip D = false := by simpa using h
    simp only [go_sem, Nat.reduceEqDiff, Nat.reduceAdd, Nat.reduceLT, Nat.reduceLeDiff, reduceIte, reduceCtorEq]
    exact leaf2 (.tup [.sl false false (mI []), I 2]) ⟨⟨mI_bnd, rfl, rfl⟩, rfl, trivial⟩ ⟨rfl, by rw [h]; rfl⟩
  have h : Sp.isStrip D = true := by simpa using h
  obtain ⟨h1, h7, hp⟩ := Sp.strip_pile h
  have hr := hp.rng
  rw [h, if_pos rfl]
  simp only [go_sem, Nat.reduceEqDiff, Nat.reduceAdd, Nat.reduceLT, Nat.reduceLeDiff, reduceIte, reduceCtorEq]
  refine W_loop (fun q : { i : Nat // i ≤ D.length } => ([(0, .sl nn t (mI D)), (4, own 0 0 q.1 q.1 1), (10, .sl nn t (mI D)), (11, I D.length), (12, I q.1)], [.cells (mI ((backP D).take q.1))])) (fun q => D.length - q.1)
    ⟨0, by omega⟩ [none] (Wk.mk0 rfl (by simp [imgs, Blk.alive]) (by simp [hle, mI]) (by simp [fle, vle, Fr.get, mI_bnd])) ?_
  rintro ⟨i, hi⟩
  dsimp only
  have hbt : ((backP D).take i).length = i := by rw [List.length_take, backP_len]; omega
  by_cases hil : i < D.length
  · have hz : decide ((i : Int) < D.length) = true := decide_eq_true (by omega)
    have hil' : (i : Int) < D.length := by omega
    have hwk : IntKind.i64.wrap ((i : Int) + 1) = ((i + 1 : Nat) : Int) := by rw [wrap64 (by omega) (by omega)]; rfl
    obtain ⟨y, hy⟩ : ∃ y, D.getD i 0 = y := ⟨_, rfl⟩
    have hyr := hr y (by rw [← hy, List.getD_eq_getElem?_getD, List.getElem?_eq_getElem hil]; exact List.getElem_mem _)
    have hw1 : IntKind.i64.wrap ((D.length : Int) - 1) = (D.length : Int) - 1 := wrap64 (by omega) (by omega)
    have hw2 : IntKind.i64.wrap ((D.length : Int) - 1 - y) = (D.length : Int) - 1 - y := wrap64 (by omega) (by omega)
    have htk := backP_take hil
    rw [hy] at htk
    have hnl : ¬ i + 1 ≤ i := by omega
    have htake : (mI ((backP D).take i)).take i = mI ((backP D).take i) := List.take_of_length_le (by rw [mI_length, hbt]; exact Nat.le_refl _)
    simp only [w39L0, hz, hil', mI_get, hil, hy, mI_hd, hw1, hw2, hwk, hbt, hnl, htake, go_sem, Nat.reduceEqDiff, Nat.reduceAdd, Nat.reduceLT, Nat.reduceLeDiff, reduceIte, reduceCtorEq]
    refine ⟨by omega, ?_⟩
    refine round1 rfl ⟨i + 1, by omega⟩ [some 2] (by dsimp only; omega) ?_
    dsimp only
    rw [htk]
    exact Wk.one rfl (by rw [mI_snoc]) mI_bnd (by simp [fle, vle, Fr.get, mI_bnd])
  · have hz : decide ((i : Int) < D.length) = false := decide_eq_false (by omega)
    obtain rfl : i = D.length := by omega
    have hfull : (backP D).take D.length = backP D := List.take_of_length_le (by rw [backP_len]; exact Nat.le_refl _)
    simp only [w39L0, hz, w39T1, go_sem, Nat.reduceEqDiff, Nat.reduceAdd, Nat.reduceLT, Nat.reduceLeDiff, reduceIte, reduceCtorEq]
    rw [hfull]
    refine leaf2 (.tup [.sl false false (mI (backP D)), I 0]) ⟨?_, rfl, trivial⟩ ⟨rfl, rfl⟩
    exact vle_mI rfl (by simp) (by rw [backP_len]) (List.take_of_length_le (by rw [mI_length, backP_len]; exact Nat.le_refl _))

theorem s41 (nn t : Bool) (D : List Int) (hD : D.length ≤ 1000) (hr : ∀ x ∈ D, 0 ≤ x ∧ x < D.length) : Abs.Spec Try.prog 41 [.sl nn t (mI D)] [] fun v H' => H' = [] ∧ v = .sl false false (mI (backP D)) := by
  refine Abs.Spec.walk mixed fn41 nn41 t41 q41 nt41 (by simp) ?_
  simp only [w41, go_sem, Nat.reduceEqDiff, Nat.reduceAdd, Nat.reduceLT, Nat.reduceLeDiff, reduceIte, reduceCtorEq]
  refine W_loop (fun q : { i : Nat // i ≤ D.length } => ([(0, .sl nn t (mI D)), (3, own 0 0 q.1 q.1 1), (6, .sl nn t (mI D)), (7, I D.length), (8, I q.1)], [.cells (mI ((backP D).take q.1))])) (fun q => D.length - q.1)
    ⟨0, by omega⟩ [none] (Wk.mk0 rfl (by simp [imgs, Blk.alive]) (by simp [hle, mI]) (by simp [fle, vle, Fr.get, mI_bnd])) ?_
  rintro ⟨i, hi⟩
  dsimp only
  have hbt : ((backP D).take i).length = i := by rw [List.length_take, backP_len]; omega
  by_cases hil : i < D.length
  · have hz : decide ((i : Int) < D.length) = true := decide_eq_true (by omega)
    have hil' : (i : Int) < D.length := by omega
    have hwk : IntKind.i64.wrap ((i : Int) + 1) = ((i + 1 : Nat) : Int) := by rw [wrap64 (by omega) (by omega)]; rfl
    obtain ⟨y, hy⟩ : ∃ y, D.getD i 0 = y := ⟨_, rfl⟩
    have hyr := hr y (by rw [← hy, List.getD_eq_getElem?_getD, List.getElem?_eq_getElem hil]; exact List.getElem_mem _)
    have hw1 : IntKind.i64.wrap ((D.length : Int) - 1) = (D.length : Int) - 1 := wrap64 (by omega) (by omega)
    have hw2 : IntKind.i64.wrap ((D.length : Int) - 1 - y) = (D.length : Int) - 1 - y := wrap64 (by omega) (by omega)
    have htk := backP_take hil
    rw [hy] at htk
    have hnl : ¬ i + 1 ≤ i := by omega
    have htake : (mI ((backP D).take i)).take i = mI ((backP D).take i) := List.take_of_length_le (by rw [mI_length, hbt]; exact Nat.le_refl _)
    simp only [w41L0, hz, hil', mI_get, hil, hy, mI_hd, hw1, hw2, hwk, hbt, hnl, htake, go_sem, Nat.reduceEqDiff, Nat.reduceAdd, Nat.reduceLT, Nat.reduceLeDiff, reduceIte, reduceCtorEq]
    refine ⟨by omega, ?_⟩
    refine round1 rfl ⟨i + 1, by omega⟩ [some 2] (by dsimp only; omega) ?_
    dsimp only
    rw [htk]
    exact Wk.one rfl (by rw [mI_snoc]) mI_bnd (by simp [fle, vle, Fr.get, mI_bnd])
  · have hz : decide ((i : Int) < D.length) = false := decide_eq_false (by omega)
    obtain rfl : i = D.length := by omega
    have hfull : (backP D).take D.length = backP D := List.take_of_length_le (by rw [backP_len]; exact Nat.le_refl _)
    simp only [w41L0, hz, w41T1, go_sem, Nat.reduceEqDiff, Nat.reduceAdd, Nat.reduceLT, Nat.reduceLeDiff, reduceIte, reduceCtorEq]
    rw [hfull]
    refine leaf (.sl false false (mI (backP D))) ?_ ⟨rfl, rfl⟩
    exact vle_mI rfl (by simp) (by rw [backP_len]) (List.take_of_length_le (by rw [mI_length, backP_len]; exact Nat.le_refl _))

theorem s40 (nn t : Bool) (D : List Int) (hD : D.length ≤ 1000) : Abs.Spec Try.prog 40 [.sl nn t (mI D)] [] fun v H' => H' = [] ∧ v = .sl false false (mI D.reverse) := by
  refine Abs.Spec.walk mixed fn40 nn40 t40 q40 nt40 (by simp) ?_
  have hw : IntKind.i64.wrap ((D.length : Int) - 1) = (D.length : Int) - 1 := wrap64 (by omega) (by omega)
  simp only [w40, hw, go_sem, Nat.reduceEqDiff, Nat.reduceAdd, Nat.reduceLT, Nat.reduceLeDiff, reduceIte, reduceCtorEq]
  refine W_loop (fun q : { i : Nat // i ≤ D.length } => ([(0, .sl nn t (mI D)), (3, own 0 0 q.1 q.1 1), (4, I ((D.length : Int) - 1 - (q.1 : Nat)))], [.cells (mI (D.reverse.take q.1))])) (fun q => D.length - q.1)
    ⟨0, by omega⟩ [none] (Wk.mk0 rfl (by simp [imgs, Blk.alive]) (by simp [hle, mI]) (by simp [fle, vle, Fr.get, mI_bnd])) ?_
  rintro ⟨i, hi⟩
  dsimp only
  have hbt : (D.reverse.take i).length = i := by rw [List.length_take, List.length_reverse]; omega
  by_cases hil : i < D.length
  · have ej : (D.length : Int) - 1 - (i : Nat) = ((D.length - 1 - i : Nat) : Int) := by omega
    obtain ⟨j, hj⟩ : ∃ j, D.length - 1 - i = j := ⟨_, rfl⟩
    rw [ej, hj]
    have jl : j < D.length := by omega
    have jl' : (j : Int) < D.length := by omega
    have hz : decide ((j : Int) ≥ 0) = true := decide_eq_true (by omega)
    have hwj : IntKind.i64.wrap ((j : Int) - 1) = (D.length : Int) - 1 - ((i + 1 : Nat) : Int) := by rw [wrap64 (by omega) (by omega)]; omega
    obtain ⟨y, hy⟩ : ∃ y, D.getD j 0 = y := ⟨_, rfl⟩
    have hnl : ¬ i + 1 ≤ i := by omega
    have htake : (mI (D.reverse.take i)).take i = mI (D.reverse.take i) := List.take_of_length_le (by rw [mI_length, hbt]; exact Nat.le_refl _)
    have htk : D.reverse.take (i + 1) = D.reverse.take i ++ [y] := by
      have hri : i < D.reverse.length := by simpa using hil
      rw [List.take_add_one, List.getElem?_eq_getElem hri, List.getElem_reverse]
      rw [List.getD_eq_getElem?_getD, List.getElem?_eq_getElem jl] at hy
      simp only [Option.getD_some] at hy
      simp only [hj, hy]; rfl
    simp only [w40L0, hz, jl', mI_get, jl, hy, mI_hd, hwj, hbt, hnl, htake, go_sem, Nat.reduceEqDiff, Nat.reduceAdd, Nat.reduceLT, Nat.reduceLeDiff, reduceIte, reduceCtorEq]
    refine ⟨by omega, ?_⟩
    refine round1 rfl ⟨i + 1, by omega⟩ [some 2] (by dsimp only; omega) ?_
    dsimp only
    rw [htk]
    exact Wk.one rfl (by rw [mI_snoc]) mI_bnd (by simp [fle, vle, Fr.get, mI_bnd])
  · have hz : decide (((D.length : Int) - 1 - (i : Nat)) ≥ 0) = false := decide_eq_false (by omega)
    obtain rfl : i = D.length := by omega
    have hfull : D.reverse.take D.length = D.reverse := List.take_of_length_le (by simp)
    simp only [w40L0, hz, w40T1, go_sem, Nat.reduceEqDiff, Nat.reduceAdd, Nat.reduceLT, Nat.reduceLeDiff, reduceIte, reduceCtorEq]
    rw [hfull]
    refine leaf (.sl false false (mI D.reverse)) ?_ ⟨rfl, rfl⟩
    exact vle_mI rfl (by simp) (by simp) (List.take_of_length_le (by simp [mI_length]))

set_option maxHeartbeats 1000000 in
theorem s10 (D : List Int) (hl : D.length < 9223372036854775808) : Abs.Spec Try.prog 10 [.sl false false (mI D)] [] fun v H' => H' = [] ∧ v = B true := by
  have e18 : ∀ H, CallV Try.prog (.fn (.func 18) [] []) [] H fun v H' => v = B true ∧ H' = H := fun H => liftV s18 rfl rfl H
  have hl11 : (D.take 11).length < 9223372036854775808 := by simp; omega
  refine Abs.Spec.walk mixed fn10 nn10 t10 q10 nt10 (by simp) ?_
  simp only [w10, go_sem, Nat.reduceEqDiff, Nat.reduceAdd, Nat.reduceLT, Nat.reduceLeDiff, reduceIte, reduceCtorEq]
  refine CallK.by (CallV.of_spec (s16 false false D hl)) fun v H' ⟨h1, h2⟩ => ?_
  subst h1 h2
  simp only [go_sem, Nat.reduceEqDiff, Nat.reduceAdd, Nat.reduceLT, Nat.reduceLeDiff, reduceIte, reduceCtorEq]
  refine CallK.by (CallV.of_spec (s38 false false (D.take 11) hl11)) fun v H' ⟨h1, h2⟩ => ?_
  subst h1 h2
  rw [Sp.strip_take]
  cases hs : Sp.isStrip D with
  | false =>
    rw [if_neg (by simp)]
    simp only [List.getD_cons_zero, List.getD_cons_succ, go_sem, Nat.reduceEqDiff, Nat.reduceAdd, Nat.reduceLT, Nat.reduceLeDiff, reduceIte, reduceCtorEq]
    refine CallK.by (CallV.of_spec (s16 false false D hl)) fun v H' ⟨h1, h2⟩ => ?_
    subst h1 h2
    simp only [go_sem, Nat.reduceEqDiff, Nat.reduceAdd, Nat.reduceLT, Nat.reduceLeDiff, reduceIte, reduceCtorEq]
    refine CallK.by (CallV.of_spec (s39 false false (D.take 11) hl11)) fun v H' ⟨h1, h2⟩ => ?_
    subst h1 h2
    rw [Sp.strip_take, hs, if_neg (by simp)]
    simp only [List.getD_cons_zero, List.getD_cons_succ, go_sem, Nat.reduceEqDiff, Nat.reduceAdd, Nat.reduceLT, Nat.reduceLeDiff, reduceIte, reduceCtorEq]
    refine CallK.by (CallV.of_spec (s17 false false D hl)) fun v H' ⟨h1, h2⟩ => ?_
    subst h1 h2
    rw [hs]
    have z0 : (IntKind.i64.wrap (((0 : Nat) : Int) + ((0 : Nat) : Int)) == 0) = true := rfl
    simp only [mI_length, z0, go_sem, Nat.reduceEqDiff, Nat.reduceAdd, Nat.reduceLT, Nat.reduceLeDiff, reduceIte, reduceCtorEq]
    refine CallK.pure (e18 _) ?_
    simp only [go_sem, Nat.reduceEqDiff, Nat.reduceAdd, Nat.reduceLT, Nat.reduceLeDiff, reduceIte, reduceCtorEq]
    exact leaf (B true) rfl ⟨rfl, rfl⟩
  | true =>
    obtain ⟨h1, h7, hp⟩ := Sp.strip_pile hs
    rw [if_pos rfl, Sp.strip_take' hs]
    simp only [List.getD_cons_zero, List.getD_cons_succ, go_sem, Nat.reduceEqDiff, Nat.reduceAdd, Nat.reduceLT, Nat.reduceLeDiff, reduceIte, reduceCtorEq]
    refine CallK.by (CallV.of_spec (s16 false false D hl)) fun v H' ⟨h1, h2⟩ => ?_
    subst h1 h2
    rw [Sp.strip_take' hs]
    simp only [go_sem, Nat.reduceEqDiff, Nat.reduceAdd, Nat.reduceLT, Nat.reduceLeDiff, reduceIte, reduceCtorEq]
    refine CallK.by (CallV.of_spec (s39 false false D hl)) fun v H' ⟨h1, h2⟩ => ?_
    subst h1 h2
    rw [hs, if_pos rfl]
    simp only [List.getD_cons_zero, List.getD_cons_succ, go_sem, Nat.reduceEqDiff, Nat.reduceAdd, Nat.reduceLT, Nat.reduceLeDiff, reduceIte, reduceCtorEq]
    refine CallK.by (CallV.of_spec (s17 false false D hl)) fun v H' ⟨h1, h2⟩ => ?_
    subst h1 h2
    rw [hs]
    simp only [go_sem, Nat.reduceEqDiff, Nat.reduceAdd, Nat.reduceLT, Nat.reduceLeDiff, reduceIte, reduceCtorEq]
    refine CallK.by (CallV.of_spec (s40 false false D (by omega))) fun v H' ⟨h1, h2⟩ => ?_
    subst h1 h2
    simp only [go_sem, Nat.reduceEqDiff, Nat.reduceAdd, Nat.reduceLT, Nat.reduceLeDiff, reduceIte, reduceCtorEq]
    refine CallK.by (CallV.of_spec (s32 false false false false D.reverse D.reverse (by simp; omega))) fun v H' ⟨h1, h2⟩ => ?_
    subst h1 h2
    rw [beq_self_eq_true]
    simp only [go_sem, Nat.reduceEqDiff, Nat.reduceAdd, Nat.reduceLT, Nat.reduceLeDiff, reduceIte, reduceCtorEq]
    refine CallK.by (CallV.of_spec (s41 false false D (by omega) hp.rng)) fun v H' ⟨h1, h2⟩ => ?_
    subst h1 h2
    simp only [go_sem, Nat.reduceEqDiff, Nat.reduceAdd, Nat.reduceLT, Nat.reduceLeDiff, reduceIte, reduceCtorEq]
    refine CallK.by (CallV.of_spec (s32 false false false false (backP D) (backP D) (by rw [backP_len]; omega))) fun v H' ⟨h1, h2⟩ => ?_
    subst h1 h2
    rw [beq_self_eq_true]
    simp only [z00, go_sem, Nat.reduceEqDiff, Nat.reduceAdd, Nat.reduceLT, Nat.reduceLeDiff, reduceIte, reduceCtorEq]
    refine CallK.pure (e18 _) ?_
    simp only [go_sem, Nat.reduceEqDiff, Nat.reduceAdd, Nat.reduceLT, Nat.reduceLeDiff, reduceIte, reduceCtorEq]
    exact leaf (B true) rfl ⟨rfl, rfl⟩
end Go.Proofs.Ythdjloegibenoaa
