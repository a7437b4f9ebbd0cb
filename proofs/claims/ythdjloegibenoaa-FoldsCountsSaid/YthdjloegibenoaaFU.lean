/- Contracts of folds: maps. -/
import Derived.Test.YthdjloegibenoaaFT
import Derived.Test.YthdjloegibenoaaDE
namespace Go.Abs.Sp
open AVal
def row2 (n : Nat) (c : Cr) : Cr := ⟨n + c.a, n + c.b, c.s⟩
def colC (n c : Nat) : Cr := ⟨c, n + c, 2⟩
/-- The creases of a map, as the program makes them. -/
def planP (n : Nat) : List Cr := stripC n ++ (stripC n).map (row2 n) ++ (List.range n).map (colC n)
def twoC (n i : Nat) : List Cr := [⟨i, i + 1, i % 2⟩, ⟨n + i, n + i + 1, i % 2⟩]
/-- The creases of a map, as the reference makes them. -/
def planR (n : Nat) : List Cr := (List.range (n - 1)).flatMap (twoC n) ++ (List.range n).map (colC n)
theorem planR_ok : ∀ n, n ≤ 4 → ∀ c ∈ planR n, c.a < 2 * n ∧ c.b < 2 * n := by decide +kernel
theorem planP_ok : ∀ n, n ≤ 4 → ∀ c ∈ planP n, c.a < 2 * n ∧ c.b < 2 * n := by decide +kernel
theorem planP_len (n : Nat) : (planP n).length = (n - 1) + (n - 1) + n := by simp [planP, stripC_len]; omega
theorem twoC_len (n i : Nat) : ((List.range i).flatMap (twoC n)).length = 2 * i := by
  induction i with
  | zero => rfl
  | succ i ih => rw [List.range_succ, List.flatMap_append, List.length_append, ih]; simp [twoC]; omega
theorem planR_len (n : Nat) : (planR n).length = 2 * (n - 1) + n := by rw [planR, List.length_append, twoC_len]; simp
end Go.Abs.Sp
namespace Go.Proofs.Ythdjloegibenoaa
open Go.Abs AVal
set_option linter.unusedSimpArgs false
attribute [local go_sem] W_skip W_keep KQ_canon canon Fr.norm W_seq W_block W_exit W_ret W_ops W_draw KQ_nil KQ_norm_seq KQ_exit_seq KQ_ret_seq KQ_norm_block KQ_ret_block KQ_exit_block KQ_exit_loop KQ_ret_loop O_nil O_cons S_call S_mv SE_mv SD_mv S_pick SE_pick SD_pick S_bin SE_bin SD_bin S_eqb SE_eqb SD_eqb S_eqv SE_eqv SD_eqv S_eqnil SE_eqnil SD_eqnil S_un SE_un SD_un S_conv SE_conv SD_conv S_mkfn SE_mkfn SD_mkfn S_load SE_load SD_load S_nilck SE_nilck SD_nilck S_slS SE_slS SD_slS S_slP SE_slP SD_slP S_fldA SE_fldA SD_fldA S_fld SE_fld SD_fld S_ixS SE_ixS SD_ixS S_ixP SE_ixP SD_ixP S_ixV SE_ixV SD_ixV S_ixStr SE_ixStr SD_ixStr S_ext SE_ext SD_ext S_len SE_len SD_len S_lenStr SE_lenStr SD_lenStr S_lenc SE_lenc SD_lenc S_mn SE_mn SD_mn S_mx SE_mx SD_mx S_build SE_build SD_build S_alloc SD_alloc S_box SD_box S_bslice SD_bslice S_mksl SD_mksl S_store SD_store S_append SD_append S_copy SD_copy S_clr SD_clr aq_some aa_some al_some aqd_some aad_some ald_some ape_some D_done D_both D_early D_step SE_call SD_call IOpd.ev Fr.get Fr.put Fr.putd entryFr pickA binA binI isSh shI eqbA eqvA ints ints_mI Option.map_some eqnilA unA convA loadA nilckA intA slSA slPA fldAA fldVA ixSA ixPA ixVA ixStrA extA lenA lenStrA mnA mxA AVal.fits fillA fillOk buildA opa srcA appA stoA copA clrA rdFree zeros List.length_nil List.length_cons List.length_map List.map_cons List.map_nil Option.map_some Option.map_none if_true if_false ite_true ite_false true_and and_true and_self implies_true forall_const true_implies Bool.false_eq_true Bool.not_true Bool.not_false decide_eq_true_eq decide_eq_false_iff_not eq_self List.getElem?_cons_zero List.getElem?_cons_succ List.getElem?_nil List.set_cons_zero List.set_cons_succ List.nil_append List.cons_append List.append_nil List.replicate_zero List.replicate_succ Nat.zero_add false_implies rng_lt rng_end rng_get cells_I cells_B cells_sl cut_one Int.toNat_natCast Int.natCast_nonneg List.headD_cons Int.lt_irrefl not_false_eq_true decide_false decide_true mI_length mI_cells mI_sz mI_isCell mI_mid mI_append mI_take mI_drop cells_val cells_own cells_agg isCell_I isCell_B isCell_nil isCell_sl isCell_own isCell_ptr isCell_fn isCell_rp isCell_yld cellsOk_I cellsOk_B cellsOk_nil cellsOk_sl cellsOk_own cellsOk_ptr cellsOk_fn cellsOk_rp cellsOk_yld cellsOk_agg cells_nil cells_ptr cells_fn cells_rp List.all_cons List.all_nil Bool.and_true Nat.mul_one Nat.zero_mul Nat.one_mul List.take_zero List.take_nil List.drop_nil List.drop_zero List.not_mem_nil Nat.le_refl Nat.zero_le mS_length mS_cells mS_sz mS_isCell mS_mid mS_append mS_take mS_drop cells_sI isCell_sI cellsOk_sI sI_eq succ_le_self' List.take_succ_cons List.drop_succ_cons List.take_length beq_self_eq_true List.mem_cons or_false forall_eq mI_put mI_rep O_guard' D_earlyG' D_stepG' W_cond' G_tt G_tf G_ft G_ff GE_tt GE_tf GE_ft GE_ff GS_tt GS_tf GS_ft GS_ff G_u GE_u GS_u IC_t IC_f xft xff xtt xtf z00 z20 z22 z02 zz tn0

theorem vle_mC {H : AHeap} {ρ : List (Option Nat)} {img : List Nat} {d i n lb : Nat} {l : List Cr} (h : H[i]? = some (.cells (crs l))) (hi : i ∉ img) (hn : n = l.length := by rfl) : vle H ρ img (d + 1) (.own i 0 n lb 3) (.sl false false (mC l)) := by
  subst hn
  refine ⟨mC_bnd, rfl, rfl, rfl, by omega, hi, mC_length, by rw [mC_sz]; trivial, ?_⟩
  rw [h]
  simp only [crs_take, mC_cells]
theorem crs_tk {l : List Cr} {n : Nat} (h : l.length = n) : (crs l).take (n * 3) = crs l := by rw [← h]; exact crs_take
set_option maxHeartbeats 1000000 in
theorem s56o {n : Nat} (h4 : n ≤ 4) : Abs.Spec Try.prog 56 [I n] [] fun v H' => v = .own 0 0 (Sp.planP n).length (Sp.planP n).length 3 ∧ H' = [.cells (crs (Sp.planP n))] := by
  refine Abs.Spec.walk mixed fn56 nn56 t56 q56 nt56 (by simp) ?_
  simp only [w56, go_sem, Nat.reduceEqDiff, Nat.reduceAdd, Nat.reduceLT, Nat.reduceLeDiff, reduceIte, reduceCtorEq]
  refine CallK.by (CallV.of_spec (s50o n (by omega))) fun v H' ⟨h1, h2⟩ => ?_
  subst h1 h2
  simp only [go_sem, Nat.reduceEqDiff, Nat.reduceAdd, Nat.reduceLT, Nat.reduceLeDiff, reduceIte, reduceCtorEq]
  refine CallK.pure (liftV (s50 n (by omega)) (by simp [bndL, AVal.bnd]) (by simp [AVal.bnd, mC_bnd]) _) ?_
  obtain ⟨L, hL⟩ : ∃ L, Sp.stripC n = L := ⟨_, rfl⟩
  have hLl : L.length = n - 1 := by rw [← hL, Sp.stripC_len]
  have hLb : ∀ c ∈ L, c.a < n ∧ c.b < n := fun c hc => Sp.stripC_ok (hL ▸ hc)
  have hLs : ∀ c ∈ L, c.s < 2 := fun c hc => by
    rw [← hL] at hc
    obtain ⟨i, _, rfl⟩ := List.mem_map.1 hc
    dsimp only; omega
  have hP : Sp.planP n = L ++ L.map (Sp.row2 n) ++ (List.range n).map (Sp.colC n) := by rw [Sp.planP, hL]
  rw [hP]
  simp only [hL]
  simp only [mC_length, go_sem, Nat.reduceEqDiff, Nat.reduceAdd, Nat.reduceLT, Nat.reduceLeDiff, reduceIte, reduceCtorEq]
  refine W_loop (fun q : { i : Nat // i ≤ L.length } => ([(0, I n), (3, own 0 0 (L.length + q.1) (L.length + q.1) 3), (10, .sl false false (mC L)), (11, I L.length), (12, I q.1)], [.cells (crs (L ++ (L.take q.1).map (Sp.row2 n)))])) (fun q => L.length - q.1)
    ⟨0, by omega⟩ [some 0] (Wk.mk0 rfl (by simp [imgs, Blk.alive]) (by simp [hle, csle, crs_bnd]) (by simp [fle, vle, Fr.get, mC_bnd])) ?_
  rintro ⟨i, hi⟩
  dsimp only
  have hil : (L ++ (L.take i).map (Sp.row2 n)).length = L.length + i := by simp; omega
  by_cases hlt : i < L.length
  · have hz : decide ((i : Int) < L.length) = true := decide_eq_true (by omega)
    have hil' : (i : Int) < L.length := by omega
    have hwi : IntKind.i64.wrap ((i : Int) + 1) = ((i + 1 : Nat) : Int) := by rw [wrap64 (by omega) (by omega)]; rfl
    obtain ⟨c, hc⟩ : ∃ c, L[i] = c := ⟨_, rfl⟩
    have hcb := hLb c (by rw [← hc]; exact List.getElem_mem _)
    have hwa : IntKind.i64.wrap ((n : Int) + (c.a : Nat)) = ((n + c.a : Nat) : Int) := by rw [wrap64 (by omega) (by omega)]; rfl
    have hwb : IntKind.i64.wrap ((n : Int) + (c.b : Nat)) = ((n + c.b : Nat) : Int) := by rw [wrap64 (by omega) (by omega)]; rfl
    have htake := crs_tk hil
    have hclen : (crs (L ++ (L.take i).map (Sp.row2 n))).length = (L.length + i) * 3 := by rw [crs_len, hil]
    have hsn : crs (L ++ (L.take i).map (Sp.row2 n)) ++ [I ((n + c.a : Nat) : Int), I ((n + c.b : Nat) : Int), I (c.s : Int)] = crs (L ++ (L.take (i + 1)).map (Sp.row2 n)) := by
      rw [crs_snoc (c := ⟨n + c.a, n + c.b, c.s⟩), List.take_add_one, List.getElem?_eq_getElem hlt, hc, List.map_append, List.append_assoc]; rfl
    have hnl : ¬ L.length + i + 1 ≤ L.length + i := by omega
    simp only [w56L0, hz, hil', mC_get, hlt, hc, cells_crA, cut_three, hwi, hwa, hwb, htake, hclen, crs_isCell, mC_length, hnl, go_sem, Nat.reduceEqDiff, Nat.reduceAdd, Nat.reduceLT, Nat.reduceLeDiff, reduceIte, reduceCtorEq]
    refine ⟨⟨by rintro u (rfl | rfl | rfl) <;> rfl, by omega⟩, ?_⟩
    exact round1 rfl ⟨i + 1, by omega⟩ [some 3] (by dsimp only; omega) (Wk.one rfl hsn crs_bnd (by simp [fle, vle, Fr.get, mC_bnd]; omega))
  · have hz : decide ((i : Int) < L.length) = false := decide_eq_false (by omega)
    obtain rfl : i = L.length := by omega
    rw [List.take_length]
    simp only [w56L0, hz, w56T1, go_sem, Nat.reduceEqDiff, Nat.reduceAdd, Nat.reduceLT, Nat.reduceLeDiff, reduceIte, reduceCtorEq]
    obtain ⟨M, hM⟩ : ∃ M, L ++ L.map (Sp.row2 n) = M := ⟨_, rfl⟩
    have hMl : L.length + L.length = M.length := by rw [← hM]; simp
    rw [hM, hMl]
    refine W_loop (fun q : { i : Nat // i ≤ n } => ([(0, I n), (3, own 0 0 (M.length + q.1) (M.length + q.1) 3), (31, I n), (32, I q.1)], [.cells (crs (M ++ (List.range q.1).map (Sp.colC n)))])) (fun q => n - q.1)
      ⟨0, by omega⟩ [some 0] (Wk.mk0 rfl (by simp [imgs, Blk.alive]) (by simp [hle, csle, crs_bnd]) (by simp [fle, vle, Fr.get, mC_bnd])) ?_
    rintro ⟨i, hi⟩
    dsimp only
    have hil : (M ++ (List.range i).map (Sp.colC n)).length = M.length + i := by simp
    have hMn : M.length ≤ 6 := by omega
    by_cases hlt : i < n
    · have hz : decide ((i : Int) < n) = true := decide_eq_true (by omega)
      have hwi : IntKind.i64.wrap ((i : Int) + 1) = ((i + 1 : Nat) : Int) := by rw [wrap64 (by omega) (by omega)]; rfl
      have hwa : IntKind.i64.wrap ((n : Int) + (i : Nat)) = ((n + i : Nat) : Int) := by rw [wrap64 (by omega) (by omega)]; rfl
      have htake := crs_tk hil
      have hclen : (crs (M ++ (List.range i).map (Sp.colC n))).length = (M.length + i) * 3 := by rw [crs_len, hil]
      have hsn : crs (M ++ (List.range i).map (Sp.colC n)) ++ [I ((i : Nat) : Int), I ((n + i : Nat) : Int), I 2] = crs (M ++ (List.range (i + 1)).map (Sp.colC n)) := by
        rw [List.range_succ, List.map_append, ← List.append_assoc]
        exact crs_snoc (c := ⟨i, n + i, 2⟩)
      have hnl : ¬ M.length + i + 1 ≤ M.length + i := by omega
      simp only [w56L2, hz, hwi, hwa, htake, hclen, crs_isCell, hnl, go_sem, Nat.reduceEqDiff, Nat.reduceAdd, Nat.reduceLT, Nat.reduceLeDiff, reduceIte, reduceCtorEq]
      refine ⟨⟨by rintro u (rfl | rfl | rfl) <;> rfl, by omega⟩, ?_⟩
      exact round1 rfl ⟨i + 1, by omega⟩ [some 2] (by dsimp only; omega) (Wk.one rfl hsn crs_bnd (by simp [fle, vle, Fr.get, mC_bnd]; omega))
    · have hz : decide ((i : Int) < n) = false := decide_eq_false (by omega)
      obtain rfl : i = n := by omega
      simp only [w56L2, hz, w56T3, go_sem, Nat.reduceEqDiff, Nat.reduceAdd, Nat.reduceLT, Nat.reduceLeDiff, reduceIte, reduceCtorEq]
      rw [hil]
      exact leafO _ _ [some 0] (Wk.one rfl rfl crs_bnd (by simp [fle, vle, Fr.get])) ⟨rfl, rfl⟩
theorem s56 {n : Nat} (h4 : n ≤ 4) : Abs.Spec Try.prog 56 [I n] [] fun v H' => H' = [] ∧ v = .sl false false (mC (Sp.planP n)) :=
  Spec.frozen (s56o h4) (by omega) mC_bnd mC_length (by rw [mC_sz]; trivial) (by rw [crs_take, mC_cells])
theorem crs_two (n i : Nat) : crs (Sp.twoC n i) = [I (i : Nat), I ((i + 1 : Nat) : Int), I ((i % 2 : Nat) : Int), I ((n + i : Nat) : Int), I ((n + i + 1 : Nat) : Int), I ((i % 2 : Nat) : Int)] := rfl
set_option maxHeartbeats 1000000 in
theorem s37 (nn t : Bool) (D : List Int) {n : Nat} (h1 : 1 ≤ n) (h4 : n ≤ 4) (hD : D.length = 2 * n) (hr : ∀ x ∈ D, 0 ≤ x ∧ x < D.length) : Abs.Spec Try.prog 37 [I n, .sl nn t (mI D)] [] fun v H' => H' = [] ∧ v = B (Sp.possP D (Sp.planR n)) := by
  refine Abs.Spec.walk mixed fn37 nn37 t37 q37 nt37 (by simp) ?_
  have hw : IntKind.i64.wrap ((n : Int) - 1) = ((n - 1 : Nat) : Int) := by rw [wrap64 (by omega) (by omega)]; omega
  simp only [w37, hw, go_sem, Nat.reduceEqDiff, Nat.reduceAdd, Nat.reduceLT, Nat.reduceLeDiff, reduceIte, reduceCtorEq]
  refine W_loop (fun q : { i : Nat // i ≤ n - 1 } => ([(0, I n), (1, .sl nn t (mI D)), (5, own 0 0 (2 * q.1) (2 * q.1) 3), (11, I ((n - 1 : Nat) : Int)), (12, I q.1)], [.cells (crs ((List.range q.1).flatMap (Sp.twoC n)))])) (fun q => n - q.1)
    ⟨0, by omega⟩ [none] (Wk.mk0 rfl (by simp [imgs, Blk.alive]) (by simp [hle, crs]) (by simp [fle, vle, Fr.get, mI_bnd])) ?_
  rintro ⟨i, hi⟩
  dsimp only
  have hil := Sp.twoC_len n i
  by_cases hlt : i < n - 1
  · have hz : decide ((i : Int) < ((n - 1 : Nat) : Int)) = true := decide_eq_true (by omega)
    have hwi : IntKind.i64.wrap ((i : Int) + 1) = ((i + 1 : Nat) : Int) := by rw [wrap64 (by omega) (by omega)]; rfl
    have hrem : (i : Int).tmod 2 = ((i % 2 : Nat) : Int) := by rw [Int.tmod_eq_emod_of_nonneg (by omega)]; rfl
    have hwa : IntKind.i64.wrap ((n : Int) + (i : Nat)) = ((n + i : Nat) : Int) := by rw [wrap64 (by omega) (by omega)]; rfl
    have hwb : IntKind.i64.wrap (((n + i : Nat) : Int) + 1) = ((n + i + 1 : Nat) : Int) := by rw [wrap64 (by omega) (by omega)]; rfl
    have htake := crs_tk hil
    have hclen : (crs ((List.range i).flatMap (Sp.twoC n))).length = (2 * i) * 3 := by rw [crs_len, hil]
    have hsn : crs ((List.range i).flatMap (Sp.twoC n)) ++ [I (i : Nat), I ((i + 1 : Nat) : Int), I ((i % 2 : Nat) : Int), I ((n + i : Nat) : Int), I ((n + i + 1 : Nat) : Int), I ((i % 2 : Nat) : Int)] = crs ((List.range (i + 1)).flatMap (Sp.twoC n)) := by
      rw [← crs_two, crs_append, List.range_succ, List.flatMap_append]; simp
    have hnl : ¬ 2 * i + 2 ≤ 2 * i := by omega
    simp only [w37L0, hz, hwi, hrem, hwa, hwb, htake, hclen, crs_isCell, hnl, go_sem, Nat.reduceEqDiff, Nat.reduceAdd, Nat.reduceLT, Nat.reduceLeDiff, reduceIte, reduceCtorEq]
    refine ⟨by omega, by omega, rfl, ⟨⟨by simp, by rintro u (rfl | rfl | rfl | rfl | rfl | rfl) <;> rfl⟩, by omega⟩, ?_⟩
    exact round1 rfl ⟨i + 1, by omega⟩ [some 2] (by dsimp only; omega) (Wk.one rfl hsn crs_bnd (by simp [fle, vle, Fr.get, mI_bnd]; omega))
  · have hz : decide ((i : Int) < ((n - 1 : Nat) : Int)) = false := decide_eq_false (by omega)
    obtain rfl : i = n - 1 := by omega
    simp only [w37L0, hz, w37T1, go_sem, Nat.reduceEqDiff, Nat.reduceAdd, Nat.reduceLT, Nat.reduceLeDiff, reduceIte, reduceCtorEq]
    obtain ⟨M, hM⟩ : ∃ M, (List.range (n - 1)).flatMap (Sp.twoC n) = M := ⟨_, rfl⟩
    have hMl : 2 * (n - 1) = M.length := by rw [← hM, hil]
    rw [hM, hMl]
    refine W_loop (fun q : { i : Nat // i ≤ n } => ([(0, I n), (1, .sl nn t (mI D)), (5, own 0 0 (M.length + q.1) (M.length + q.1) 3), (35, I n), (36, I q.1)], [.cells (crs (M ++ (List.range q.1).map (Sp.colC n)))])) (fun q => n - q.1)
      ⟨0, by omega⟩ [some 0] (Wk.mk0 rfl (by simp [imgs, Blk.alive]) (by simp [hle, csle, crs_bnd]) (by simp [fle, vle, Fr.get, mI_bnd])) ?_
    rintro ⟨i, hi⟩
    dsimp only
    have hil : (M ++ (List.range i).map (Sp.colC n)).length = M.length + i := by simp
    have hMn : M.length ≤ 6 := by omega
    by_cases hlt : i < n
    · have hz : decide ((i : Int) < n) = true := decide_eq_true (by omega)
      have hwi : IntKind.i64.wrap ((i : Int) + 1) = ((i + 1 : Nat) : Int) := by rw [wrap64 (by omega) (by omega)]; rfl
      have hwa : IntKind.i64.wrap ((n : Int) + (i : Nat)) = ((n + i : Nat) : Int) := by rw [wrap64 (by omega) (by omega)]; rfl
      have htake := crs_tk hil
      have hclen : (crs (M ++ (List.range i).map (Sp.colC n))).length = (M.length + i) * 3 := by rw [crs_len, hil]
      have hsn : crs (M ++ (List.range i).map (Sp.colC n)) ++ [I ((i : Nat) : Int), I ((n + i : Nat) : Int), I 2] = crs (M ++ (List.range (i + 1)).map (Sp.colC n)) := by
        rw [List.range_succ, List.map_append, ← List.append_assoc]
        exact crs_snoc (c := ⟨i, n + i, 2⟩)
      have hnl : ¬ M.length + i + 1 ≤ M.length + i := by omega
      simp only [w37L2, hz, hwi, hwa, htake, hclen, crs_isCell, hnl, go_sem, Nat.reduceEqDiff, Nat.reduceAdd, Nat.reduceLT, Nat.reduceLeDiff, reduceIte, reduceCtorEq]
      refine ⟨⟨by rintro u (rfl | rfl | rfl) <;> rfl, by omega⟩, ?_⟩
      exact round1 rfl ⟨i + 1, by omega⟩ [some 2] (by dsimp only; omega) (Wk.one rfl hsn crs_bnd (by simp [fle, vle, Fr.get, mI_bnd]; omega))
    · have hz : decide ((i : Int) < n) = false := decide_eq_false (by omega)
      obtain rfl : i = n := by omega
      have hP : M ++ (List.range i).map (Sp.colC i) = Sp.planR i := by rw [Sp.planR, hM]
      rw [hP] at hil ⊢
      rw [← hil]
      have hq := Sp.planR_ok i h4
      simp only [w37L2, hz, w37T3, go_sem, Nat.reduceEqDiff, Nat.reduceAdd, Nat.reduceLT, Nat.reduceLeDiff, reduceIte, reduceCtorEq]
      rw [Sp.possP]
      obtain ⟨o, ho⟩ : ∃ o, Sp.firstP (Sp.placesP D) (Sp.planR i) = o := ⟨_, rfl⟩
      have h53 := s53 nn t false false D (Sp.planR i) (by omega) hr (by omega) (by rw [hD]; exact hq)
      rw [ho] at h53 ⊢
      cases o with
      | none =>
        refine CallK.pure (CallV.of_spec (first := []) (cap := []) (Spec.lend h53 rfl ⟨⟨mI_bnd, fun h => h, fun h => h, rfl⟩, vle_mC rfl (by simp), trivial⟩)) ?_
        simp only [List.getD_cons_zero, List.getD_cons_succ, go_sem, Nat.reduceEqDiff, Nat.reduceAdd, Nat.reduceLT, Nat.reduceLeDiff, reduceIte, reduceCtorEq]
        exact leaf (B true) rfl ⟨rfl, rfl⟩
      | some q =>
        obtain ⟨a, b⟩ := q
        refine CallK.pure (CallV.of_spec (first := []) (cap := []) (Spec.lend h53 rfl ⟨⟨mI_bnd, fun h => h, fun h => h, rfl⟩, vle_mC rfl (by simp), trivial⟩)) ?_
        simp only [List.getD_cons_zero, List.getD_cons_succ, go_sem, Nat.reduceEqDiff, Nat.reduceAdd, Nat.reduceLT, Nat.reduceLeDiff, reduceIte, reduceCtorEq]
        exact leaf (B false) rfl ⟨rfl, rfl⟩
theorem s22 (nn t : Bool) (D : List Int) (n : Int) (hl : D.length < 9223372036854775808) : Abs.Spec Try.prog 22 [I n, .sl nn t (mI D)] [] fun v H' => H' = [] ∧ v = if decide (1 ≤ n) && decide (n ≤ 4) && Sp.isOrder D (2 * n) then .tup [B (Sp.possP D (Sp.planP n.toNat)), I 0] else .tup [B false, I 2] := by
  refine Abs.Spec.walk mixed fn22 nn22 t22 q22 nt22 (by simp) ?_
  by_cases h1 : 1 ≤ n
  · have z1 : decide (n < 1) = false := decide_eq_false (by omega)
    by_cases h4 : n ≤ 4
    · have z4 : decide (n > 4) = false := decide_eq_false (by omega)
      have hw : IntKind.i64.wrap (2 * n) = 2 * n := wrap64 (by omega) (by omega)
      obtain ⟨m, rfl⟩ : ∃ m : Nat, n = m := ⟨n.toNat, by omega⟩
      rw [decide_eq_true h1, decide_eq_true h4, Bool.and_self, Bool.true_and, Int.toNat_natCast]
      simp only [w22, z1, z4, hw, go_sem, Nat.reduceEqDiff, Nat.reduceAdd, Nat.reduceLT, Nat.reduceLeDiff, reduceIte, reduceCtorEq]
      refine CallK.by (CallV.of_spec (s55 nn t D (2 * m) hl)) fun v H' ⟨h1, h2⟩ => ?_
      subst h1 h2
      cases ho : Sp.isOrder D (2 * m) with
      | false =>
        simp only [go_sem, Nat.reduceEqDiff, Nat.reduceAdd, Nat.reduceLT, Nat.reduceLeDiff, reduceIte, reduceCtorEq]
        exact leaf2 (.tup [B false, I 2]) ⟨rfl, rfl, trivial⟩ ⟨rfl, rfl⟩
      | true =>
        have hr := Sp.order_rng ho
        have hDl : D.length = 2 * m := by omega
        simp only [go_sem, Nat.reduceEqDiff, Nat.reduceAdd, Nat.reduceLT, Nat.reduceLeDiff, reduceIte, reduceCtorEq]
        refine CallK.by (CallV.of_spec (s56 (n := m) (by omega))) fun v H' ⟨h1, h2⟩ => ?_
        subst h1 h2
        simp only [go_sem, Nat.reduceEqDiff, Nat.reduceAdd, Nat.reduceLT, Nat.reduceLeDiff, reduceIte, reduceCtorEq]
        refine CallK.by (CallV.of_spec (s49 nn t false false D (Sp.planP m) (by omega) (fun x hx => by have := hr.2 x hx; omega) (by rw [Sp.planP_len]; omega) (by rw [hDl]; exact Sp.planP_ok m (by omega)))) fun v H' ⟨h1, h2⟩ => ?_
        subst h1 h2
        simp only [go_sem, Nat.reduceEqDiff, Nat.reduceAdd, Nat.reduceLT, Nat.reduceLeDiff, reduceIte, reduceCtorEq]
        exact leaf2 (.tup [B (Sp.possP D (Sp.planP m)), I 0]) ⟨rfl, rfl, trivial⟩ ⟨rfl, rfl⟩
    · have z4 : decide (n > 4) = true := decide_eq_true (by omega)
      rw [decide_eq_false h4, Bool.and_false, Bool.false_and]
      simp only [w22, z1, z4, go_sem, Nat.reduceEqDiff, Nat.reduceAdd, Nat.reduceLT, Nat.reduceLeDiff, reduceIte, reduceCtorEq]
      exact leaf2 (.tup [B false, I 2]) ⟨rfl, rfl, trivial⟩ ⟨rfl, rfl⟩
  · have z1 : decide (n < 1) = true := decide_eq_true (by omega)
    rw [decide_eq_false h1, Bool.false_and, Bool.false_and]
    simp only [w22, z1, go_sem, Nat.reduceEqDiff, Nat.reduceAdd, Nat.reduceLT, Nat.reduceLeDiff, reduceIte, reduceCtorEq]
    exact leaf2 (.tup [B false, I 2]) ⟨rfl, rfl, trivial⟩ ⟨rfl, rfl⟩
end Go.Proofs.Ythdjloegibenoaa
