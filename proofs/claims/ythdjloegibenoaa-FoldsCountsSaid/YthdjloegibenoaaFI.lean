/- Contracts of folds: mountains. -/
import Derived.Test.YthdjloegibenoaaFH
namespace Go.Proofs.Ythdjloegibenoaa
open Go.Abs AVal
set_option linter.unusedSimpArgs false
attribute [local go_sem] W_skip W_keep KQ_canon canon Fr.norm W_seq W_block W_exit W_ret W_ops W_draw KQ_nil KQ_norm_seq KQ_exit_seq KQ_ret_seq KQ_norm_block KQ_ret_block KQ_exit_block KQ_exit_loop KQ_ret_loop O_nil O_cons S_call S_mv SE_mv SD_mv S_pick SE_pick SD_pick S_bin SE_bin SD_bin S_eqb SE_eqb SD_eqb S_eqv SE_eqv SD_eqv S_eqnil SE_eqnil SD_eqnil S_un SE_un SD_un S_conv SE_conv SD_conv S_mkfn SE_mkfn SD_mkfn S_load SE_load SD_load S_nilck SE_nilck SD_nilck S_slS SE_slS SD_slS S_slP SE_slP SD_slP S_fldA SE_fldA SD_fldA S_fld SE_fld SD_fld S_ixS SE_ixS SD_ixS S_ixP SE_ixP SD_ixP S_ixV SE_ixV SD_ixV S_ixStr SE_ixStr SD_ixStr S_ext SE_ext SD_ext S_len SE_len SD_len S_lenStr SE_lenStr SD_lenStr S_lenc SE_lenc SD_lenc S_mn SE_mn SD_mn S_mx SE_mx SD_mx S_build SE_build SD_build S_alloc SD_alloc S_box SD_box S_bslice SD_bslice S_mksl SD_mksl S_store SD_store S_append SD_append S_copy SD_copy S_clr SD_clr aq_some aa_some al_some aqd_some aad_some ald_some ape_some D_done D_both D_early D_step SE_call SD_call IOpd.ev Fr.get Fr.put Fr.putd entryFr pickA binA binI isSh shI eqbA eqvA ints ints_mI Option.map_some eqnilA unA convA loadA nilckA intA slSA slPA fldAA fldVA ixSA ixPA ixVA ixStrA extA lenA lenStrA mnA mxA AVal.fits fillA fillOk buildA opa srcA appA stoA copA clrA rdFree zeros List.length_nil List.length_cons List.length_map List.map_cons List.map_nil Option.map_some Option.map_none if_true if_false ite_true ite_false true_and and_true and_self implies_true forall_const true_implies Bool.false_eq_true Bool.not_true Bool.not_false decide_eq_true_eq decide_eq_false_iff_not eq_self List.getElem?_cons_zero List.getElem?_cons_succ List.getElem?_nil List.set_cons_zero List.set_cons_succ List.nil_append List.cons_append List.append_nil List.replicate_zero List.replicate_succ Nat.zero_add false_implies rng_lt rng_end rng_get cells_I cells_B cells_sl cut_one Int.toNat_natCast Int.natCast_nonneg List.headD_cons Int.lt_irrefl not_false_eq_true decide_false decide_true mI_length mI_cells mI_sz mI_isCell mI_mid mI_append mI_take mI_drop cells_val cells_own cells_agg isCell_I isCell_B isCell_nil isCell_sl isCell_own isCell_ptr isCell_fn isCell_rp isCell_yld cellsOk_I cellsOk_B cellsOk_nil cellsOk_sl cellsOk_own cellsOk_ptr cellsOk_fn cellsOk_rp cellsOk_yld cellsOk_agg cells_nil cells_ptr cells_fn cells_rp List.all_cons List.all_nil Bool.and_true Nat.mul_one Nat.zero_mul Nat.one_mul List.take_zero List.take_nil List.drop_nil List.drop_zero List.not_mem_nil Nat.le_refl Nat.zero_le mS_length mS_cells mS_sz mS_isCell mS_mid mS_append mS_take mS_drop cells_sI isCell_sI cellsOk_sI sI_eq succ_le_self' List.take_succ_cons List.drop_succ_cons List.take_length beq_self_eq_true List.mem_cons or_false forall_eq mI_put mI_rep O_guard' D_earlyG' D_stepG' W_cond' G_tt G_tf G_ft G_ff GE_tt GE_tf GE_ft GE_ff GS_tt GS_tf GS_ft GS_ff G_u GE_u GS_u IC_t IC_f xft xff xtt xtf z00 z20 z22 z02 zz tn0

theorem s63 (nn t : Bool) (D : List Int) (h1 : 1 ≤ D.length) (h8 : D.length ≤ 8) (hr : ∀ x ∈ D, 0 ≤ x ∧ x < D.length) : Abs.Spec Try.prog 63 [.sl nn t (mI D)] [] fun v H' => H' = [] ∧ v = I (Sp.creP D) := by
  refine Abs.Spec.walk mixed fn63 nn63 t63 q63 nt63 (by simp) ?_
  simp only [w63, go_sem, Nat.reduceEqDiff, Nat.reduceAdd, Nat.reduceLT, Nat.reduceLeDiff, reduceIte, reduceCtorEq]
  refine CallK.pure (liftV (s51 nn t D (by omega) hr) (by simp [bndL, AVal.bnd, mI_bnd]) (by simp [AVal.bnd, mI_bnd]) _) ?_
  obtain ⟨m, hm⟩ : ∃ m, D.length = m + 1 := ⟨D.length - 1, by omega⟩
  have hw : IntKind.i64.wrap ((D.length : Int) - 1) = m := by rw [wrap64 (by omega) (by omega)]; omega
  have hpl := Sp.placesP_len D
  have hcre : Sp.creP D = Sp.creG (Sp.placesP D) (List.range m) 0 := by rw [Sp.creP, hm]; rfl
  rw [hcre]
  generalize Sp.placesP D = p at hpl ⊢
  simp only [hw, go_sem, Nat.reduceEqDiff, Nat.reduceAdd, Nat.reduceLT, Nat.reduceLeDiff, reduceIte, reduceCtorEq]
  refine W_loop (fun q : { q : Nat × Int // q.1 ≤ m ∧ Sp.creG p ((List.range m).drop q.1) q.2 = Sp.creG p (List.range m) 0 } => ([(3, .sl false false (mI p)), (4, I q.1.2), (11, I m), (12, I q.1.1)], [])) (fun q => m - q.1.1)
    ⟨(0, 0), by omega, rfl⟩ [] (Wk.nil (by simp [fle, vle, Fr.get, mI_bnd])) ?_
  rintro ⟨⟨i, out⟩, hi, hinv⟩
  dsimp only at hi hinv ⊢
  by_cases him : i < m
  · have hz : decide ((i : Int) < m) = true := decide_eq_true (by omega)
    have hwk : IntKind.i64.wrap ((i : Int) + 1) = ((i + 1 : Nat) : Int) := by rw [wrap64 (by omega) (by omega)]; rfl
    have hrem : (i : Int).tmod 2 = ((i % 2 : Nat) : Int) := by rw [Int.tmod_eq_emod_of_nonneg (by omega)]; rfl
    have i0 : i < p.length := by omega
    have i1 : i + 1 < p.length := by omega
    have i0' : (i : Int) < p.length := by omega
    have i1' : ((i + 1 : Nat) : Int) < p.length := by omega
    rw [List.drop_eq_getElem_cons (by simpa using him), List.getElem_range, Sp.creG] at hinv
    simp only [w63L0, hz, hwk, i0, i1, i0', i1', mI_get, mI_hd, hrem, go_sem, Nat.reduceEqDiff, Nat.reduceAdd, Nat.reduceLT, Nat.reduceLeDiff, reduceIte, reduceCtorEq]
    refine ⟨by omega, ?_⟩
    obtain ⟨c, hc⟩ : ∃ c, (decide (p.getD (i + 1) 0 > p.getD i 0) == (((i % 2 : Nat) : Int) == 0)) = c := ⟨_, rfl⟩
    rw [hc] at hinv ⊢
    cases c with
    | true =>
      simp only [hwk, go_sem, Nat.reduceEqDiff, Nat.reduceAdd, Nat.reduceLT, Nat.reduceLeDiff, reduceIte, reduceCtorEq]
      refine round0 rfl ⟨(i + 1, Sp.orI out (Sp.shl1 i)), by omega, hinv⟩ (by dsimp only; omega) rfl ?_
      simp [fle, vle, Fr.get, mI_bnd, Sp.orI, Sp.shl1, IntKind.bits]
    | false =>
      simp only [hwk, go_sem, Nat.reduceEqDiff, Nat.reduceAdd, Nat.reduceLT, Nat.reduceLeDiff, reduceIte, reduceCtorEq]
      refine round0 rfl ⟨(i + 1, out), by omega, hinv⟩ (by dsimp only; omega) rfl ?_
      simp [fle, vle, Fr.get, mI_bnd]
  · have hz : decide ((i : Int) < m) = false := decide_eq_false (by omega)
    obtain rfl : i = m := by omega
    rw [show List.drop i (List.range i) = [] by simp, Sp.creG] at hinv
    simp only [w63L0, hz, w63T1, go_sem, Nat.reduceEqDiff, Nat.reduceAdd, Nat.reduceLT, Nat.reduceLeDiff, reduceIte, reduceCtorEq]
    exact leaf (I out) rfl ⟨rfl, by rw [hinv]⟩
theorem s45 (nn t : Bool) (D : List Int) (h1 : 1 ≤ D.length) (h8 : D.length ≤ 8) (hr : ∀ x ∈ D, 0 ≤ x ∧ x < D.length) : Abs.Spec Try.prog 45 [.sl nn t (mI D)] [] fun v H' => H' = [] ∧ v = I (Sp.creP D) := by
  refine Abs.Spec.walk mixed fn45 nn45 t45 q45 nt45 (by simp) ?_
  simp only [w45, go_sem, Nat.reduceEqDiff, Nat.reduceAdd, Nat.reduceLT, Nat.reduceLeDiff, reduceIte, reduceCtorEq]
  refine CallK.pure (liftV (s70 nn t D (by omega) hr) (by simp [bndL, AVal.bnd, mI_bnd]) (by simp [AVal.bnd, mI_bnd]) _) ?_
  obtain ⟨m, hm⟩ : ∃ m, D.length = m + 1 := ⟨D.length - 1, by omega⟩
  have hw : IntKind.i64.wrap ((D.length : Int) - 1) = m := by rw [wrap64 (by omega) (by omega)]; omega
  have hpl := Sp.placesP_len D
  have hcre : Sp.creP D = Sp.creG (Sp.placesP D) (List.range m) 0 := by rw [Sp.creP, hm]; rfl
  rw [hcre]
  generalize Sp.placesP D = p at hpl ⊢
  simp only [hw, go_sem, Nat.reduceEqDiff, Nat.reduceAdd, Nat.reduceLT, Nat.reduceLeDiff, reduceIte, reduceCtorEq]
  refine W_loop (fun q : { q : Nat × Int // q.1 ≤ m ∧ Sp.creG p ((List.range m).drop q.1) q.2 = Sp.creG p (List.range m) 0 } => ([(3, .sl false false (mI p)), (4, I q.1.2), (11, I m), (12, I q.1.1)], [])) (fun q => m - q.1.1)
    ⟨(0, 0), by omega, rfl⟩ [] (Wk.nil (by simp [fle, vle, Fr.get, mI_bnd])) ?_
  rintro ⟨⟨i, out⟩, hi, hinv⟩
  dsimp only at hi hinv ⊢
  by_cases him : i < m
  · have hz : decide ((i : Int) < m) = true := decide_eq_true (by omega)
    have hwk : IntKind.i64.wrap ((i : Int) + 1) = ((i + 1 : Nat) : Int) := by rw [wrap64 (by omega) (by omega)]; rfl
    have hrem : (i : Int).tmod 2 = ((i % 2 : Nat) : Int) := by rw [Int.tmod_eq_emod_of_nonneg (by omega)]; rfl
    have i0 : i < p.length := by omega
    have i1 : i + 1 < p.length := by omega
    have i0' : (i : Int) < p.length := by omega
    have i1' : ((i + 1 : Nat) : Int) < p.length := by omega
    rw [List.drop_eq_getElem_cons (by simpa using him), List.getElem_range, Sp.creG] at hinv
    simp only [w45L0, hz, hwk, i0, i1, i0', i1', mI_get, mI_hd, hrem, go_sem, Nat.reduceEqDiff, Nat.reduceAdd, Nat.reduceLT, Nat.reduceLeDiff, reduceIte, reduceCtorEq]
    refine ⟨by omega, ?_⟩
    obtain ⟨c, hc⟩ : ∃ c, (decide (p.getD (i + 1) 0 > p.getD i 0) == (((i % 2 : Nat) : Int) == 0)) = c := ⟨_, rfl⟩
    rw [hc] at hinv ⊢
    cases c with
    | true =>
      simp only [hwk, go_sem, Nat.reduceEqDiff, Nat.reduceAdd, Nat.reduceLT, Nat.reduceLeDiff, reduceIte, reduceCtorEq]
      refine round0 rfl ⟨(i + 1, Sp.orI out (Sp.shl1 i)), by omega, hinv⟩ (by dsimp only; omega) rfl ?_
      simp [fle, vle, Fr.get, mI_bnd, Sp.orI, Sp.shl1, IntKind.bits]
    | false =>
      simp only [hwk, go_sem, Nat.reduceEqDiff, Nat.reduceAdd, Nat.reduceLT, Nat.reduceLeDiff, reduceIte, reduceCtorEq]
      refine round0 rfl ⟨(i + 1, out), by omega, hinv⟩ (by dsimp only; omega) rfl ?_
      simp [fle, vle, Fr.get, mI_bnd]
  · have hz : decide ((i : Int) < m) = false := decide_eq_false (by omega)
    obtain rfl : i = m := by omega
    rw [show List.drop i (List.range i) = [] by simp, Sp.creG] at hinv
    simp only [w45L0, hz, w45T1, go_sem, Nat.reduceEqDiff, Nat.reduceAdd, Nat.reduceLT, Nat.reduceLeDiff, reduceIte, reduceCtorEq]
    exact leaf (I out) rfl ⟨rfl, by rw [hinv]⟩

theorem s62 (D : List Int) (set : Int) (h1 : 1 ≤ D.length) (h8 : D.length ≤ 8) (hr : ∀ x ∈ D, 0 ≤ x ∧ x < D.length) : Abs.Spec Try.prog 62 [.sl false false (mI D), .rp [I set]] [] fun v H' => H' = [] ∧ v = B (Sp.creP D == set) := by
  refine Abs.Spec.walk mixed fn62 nn62 t62 q62 nt62 (by simp) ?_
  simp only [w62, go_sem, Nat.reduceEqDiff, Nat.reduceAdd, Nat.reduceLT, Nat.reduceLeDiff, reduceIte, reduceCtorEq]
  refine ⟨by simp, ?_⟩
  refine CallKD.pure (liftV (s63 false false D h1 h8 hr) (by simp [bndL, AVal.bnd, mI_bnd]) rfl) ?_
  simp only [go_sem, Nat.reduceEqDiff, Nat.reduceAdd, Nat.reduceLT, Nat.reduceLeDiff, reduceIte, reduceCtorEq]
  exact leaf (B _) rfl ⟨rfl, rfl⟩
/-- Mountains of so many leaves. -/
def creOk (n set : Int) : Bool := lenOk n && (decide (0 ≤ set) && decide (set < 2 ^ (n - 1).toNat))
theorem creOk_nat {n set : Int} (h : creOk n set = true) : ∃ m : Nat, n = m ∧ 1 ≤ m ∧ m ≤ 7 ∧ lenOk n = true ∧ 0 ≤ set ∧ set < 2 ^ (m - 1) := by
  simp only [creOk, Bool.and_eq_true, decide_eq_true_eq] at h
  obtain ⟨m, rfl, h1, h7⟩ := len_nat h.1
  refine ⟨m, rfl, h1, h7, h.1, h.2.1, ?_⟩
  have := h.2.2
  rwa [show ((m : Int) - 1).toNat = m - 1 by omega] at this
theorem pow_small : ∀ m : Nat, m < 8 → IntKind.i64.wrap (1 * 2 ^ min m 64) = 2 ^ m := by decide +kernel
theorem s61 (n set : Int) : Abs.Spec Try.prog 61 [I n, I set] [] fun v H' => H' = [] ∧ v = B (creOk n set) := by
  refine Abs.Spec.walk mixed fn61 nn61 t61 q61 nt61 (by simp) ?_
  simp only [w61, go_sem, Nat.reduceEqDiff, Nat.reduceAdd, Nat.reduceLT, Nat.reduceLeDiff, reduceIte, reduceCtorEq]
  refine CallK.by (CallV.of_spec (s57 n)) fun v H' ⟨h1, h2⟩ => ?_
  subst h1 h2
  have hlen : (decide (1 ≤ n) && decide (n ≤ 7)) = lenOk n := rfl
  rw [hlen]
  have e0 : decide (set ≥ 0) = decide (0 ≤ set) := rfl
  simp only [e0, go_sem, Nat.reduceEqDiff, Nat.reduceAdd, Nat.reduceLT, Nat.reduceLeDiff, reduceIte, reduceCtorEq]
  refine G.split (fun h => ?_) fun h => ?_
  · obtain ⟨m, rfl, hm1, hm7⟩ := len_nat h
    simp only [e0, go_sem, Nat.reduceEqDiff, Nat.reduceAdd, Nat.reduceLT, Nat.reduceLeDiff, reduceIte, reduceCtorEq]
    refine G.split (fun h2 => ?_) fun h2 => ?_
    · have hw : IntKind.i64.wrap ((m : Int) - 1) = ((m - 1 : Nat) : Int) := by rw [wrap64 (by omega) (by omega)]; omega
      have ep := pow_small (m - 1) (by omega)
      have e64 : IntKind.i64.bits = 64 := rfl
      simp only [hw, e64, ep, go_sem, Nat.reduceEqDiff, Nat.reduceAdd, Nat.reduceLT, Nat.reduceLeDiff, reduceIte, reduceCtorEq]
      exact leaf (B _) rfl ⟨rfl, by rw [creOk, h, h2, show ((m : Int) - 1).toNat = m - 1 by omega]; rfl⟩
    · simp only [go_sem, Nat.reduceEqDiff, Nat.reduceAdd, Nat.reduceLT, Nat.reduceLeDiff, reduceIte, reduceCtorEq]
      exact leaf (B _) rfl ⟨rfl, by rw [creOk, h, h2]; rfl⟩
  · simp only [go_sem, Nat.reduceEqDiff, Nat.reduceAdd, Nat.reduceLT, Nat.reduceLeDiff, reduceIte, reduceCtorEq]
    exact leaf (B _) rfl ⟨rfl, by rw [creOk, h]; rfl⟩
/-- Folds. -/
def foldsN (n : Nat) (set : Int) : Nat := ((foldL n).filter fun D => Sp.creP D == set).length
theorem s26 (n set : Int) : Abs.Spec Try.prog 26 [I n, I set] [] fun v H' => H' = [] ∧ v = if creOk n set then .tup [I (foldsN n.toNat set : Nat), I 0] else .tup [I 0, I 2] := by
  refine Abs.Spec.walk mixed fn26 nn26 t26 q26 nt26 (by simp) ?_
  simp only [w26, go_sem, Nat.reduceEqDiff, Nat.reduceAdd, Nat.reduceLT, Nat.reduceLeDiff, reduceIte, reduceCtorEq]
  refine CallK.pure (liftV (s61 n set) (by simp [bndL, AVal.bnd]) rfl _) ?_
  simp only [go_sem, Nat.reduceEqDiff, Nat.reduceAdd, Nat.reduceLT, Nat.reduceLeDiff, reduceIte, reduceCtorEq]
  refine IC.split (fun h => ?_) fun h => ?_
  · have h : creOk n set = false := by simpa using h
    simp only [go_sem, Nat.reduceEqDiff, Nat.reduceAdd, Nat.reduceLT, Nat.reduceLeDiff, reduceIte, reduceCtorEq]
    exact leaf2 (.tup [I 0, I 2]) ⟨rfl, rfl, trivial⟩ ⟨rfl, by rw [h]; rfl⟩
  · have h : creOk n set = true := by simpa using h
    rw [h, if_pos rfl]
    obtain ⟨m, rfl, hm1, hm7, hl, -, -⟩ := creOk_nat h
    rw [Int.toNat_natCast]
    simp only [go_sem, Nat.reduceEqDiff, Nat.reduceAdd, Nat.reduceLT, Nat.reduceLeDiff, reduceIte, reduceCtorEq]
    refine CallK.pure (CallV.of_spec (first := []) (cap := []) (Spec.lend (s58 (g := 62) (cap := [.rp [I set]]) (is := fun D => Sp.creP D == set) (by omega) hm1 rfl (fun H => by simp [vle.vleL, vle, bndL, AVal.bnd]) fun D hD => s62 D set (by have := hD.1; omega) (by have := hD.1; omega) (by rw [hD.1]; exact hD.2)) rfl (by simp [vle.vleL, vle, bndL, AVal.bnd]))) ?_
    simp only [go_sem, Nat.reduceEqDiff, Nat.reduceAdd, Nat.reduceLT, Nat.reduceLeDiff, reduceIte, reduceCtorEq]
    exact leaf2 (.tup [I (foldsN m set : Nat), I 0]) ⟨rfl, rfl, trivial⟩ ⟨rfl, rfl⟩
theorem s35 {n : Nat} (h1 : 1 ≤ n) (h7 : n ≤ 7) (set : Int) : Abs.Spec Try.prog 35 [I n, I set] [] fun v H' => H' = [] ∧ v = I (foldsN n set : Nat) := by
  unfold foldsN
  refine Abs.Spec.walk mixed fn35 nn35 t35 q35 nt35 (by simp) ?_
  simp only [w35, go_sem, Nat.reduceEqDiff, Nat.reduceAdd, Nat.reduceLT, Nat.reduceLeDiff, reduceIte, reduceCtorEq]
  refine CallK.by (CallV.of_spec (s29 h1 h7)) fun v H' ⟨h1, h2⟩ => ?_
  subst h1 h2
  have hl := fold_len (show n ≤ 8 by omega)
  have hmem : ∀ D ∈ foldL n, domN n D := fun D hD => fold_ok D hD
  generalize foldL n = L at hl hmem ⊢
  simp only [go_sem, Nat.reduceEqDiff, Nat.reduceAdd, Nat.reduceLT, Nat.reduceLeDiff, reduceIte, reduceCtorEq]
  refine W_loop (fun q : { i : Nat // i ≤ L.length } => ([(1, I set), (5, I (((L.take q.1).filter fun D => Sp.creP D == set).length : Nat)), (9, .sl false false (mS L)), (10, I L.length), (11, I q.1)], [])) (fun q => L.length - q.1)
    ⟨0, by omega⟩ [] (Wk.nil (by simp [fle, vle, Fr.get, mS_bnd])) ?_
  rintro ⟨i, hi⟩
  dsimp only
  by_cases hil : i < L.length
  · have hz : decide ((i : Int) < L.length) = true := decide_eq_true (by omega)
    have hil' : (i : Int) < L.length := by omega
    have hwk : IntKind.i64.wrap ((i : Int) + 1) = ((i + 1 : Nat) : Int) := by rw [wrap64 (by omega) (by omega)]; rfl
    obtain ⟨D, hD⟩ : ∃ D, L.getD i [] = D := ⟨_, rfl⟩
    have hDm : D ∈ L := by rw [← hD, List.getD_eq_getElem?_getD, List.getElem?_eq_getElem hil]; exact List.getElem_mem _
    obtain ⟨hDl, hDr⟩ := hmem D hDm
    have htk : L.take (i + 1) = L.take i ++ [D] := by
      rw [List.take_add_one, List.getElem?_eq_getElem hil]
      rw [List.getD_eq_getElem?_getD, List.getElem?_eq_getElem hil] at hD
      simp at hD; rw [hD]; rfl
    have hsm := List.length_filter_le (fun D => Sp.creP D == set) (L.take i)
    have htl : (L.take i).length ≤ L.length := by rw [List.length_take]; omega
    have hwc : IntKind.i64.wrap ((((L.take i).filter fun D => Sp.creP D == set).length : Nat) + 1) = ((((L.take i).filter fun D => Sp.creP D == set).length + 1 : Nat) : Int) := by rw [wrap64 (by omega) (by omega)]; rfl
    simp only [w35L0, hz, hil', mS_get, hil, hD, go_sem, Nat.reduceEqDiff, Nat.reduceAdd, Nat.reduceLT, Nat.reduceLeDiff, reduceIte, reduceCtorEq]
    refine CallK.pure (liftV (s45 false false D (by omega) (by omega) (by rw [hDl]; exact hDr)) (by simp [bndL, AVal.bnd, mI_bnd]) rfl _) ?_
    simp only [go_sem, Nat.reduceEqDiff, Nat.reduceAdd, Nat.reduceLT, Nat.reduceLeDiff, reduceIte, reduceCtorEq]
    refine IC.split (fun h => ?_) fun h => ?_
    · have hf : ((L.take (i + 1)).filter fun D => Sp.creP D == set).length = ((L.take i).filter fun D => Sp.creP D == set).length + 1 := by
        rw [htk, List.filter_append, List.length_append, List.filter_cons_of_pos (p := fun D => Sp.creP D == set) h]; rfl
      simp only [hwk, hwc, go_sem, Nat.reduceEqDiff, Nat.reduceAdd, Nat.reduceLT, Nat.reduceLeDiff, reduceIte, reduceCtorEq]
      refine round0 rfl ⟨i + 1, by omega⟩ (by dsimp only; omega) rfl ?_
      simp [fle, vle, Fr.get, mS_bnd, hf]
    · have hf : ((L.take (i + 1)).filter fun D => Sp.creP D == set).length = ((L.take i).filter fun D => Sp.creP D == set).length := by
        rw [htk, List.filter_append, List.length_append, List.filter_cons_of_neg (p := fun D => Sp.creP D == set) (by rw [h]; simp)]; rfl
      simp only [hwk, go_sem, Nat.reduceEqDiff, Nat.reduceAdd, Nat.reduceLT, Nat.reduceLeDiff, reduceIte, reduceCtorEq]
      refine round0 rfl ⟨i + 1, by omega⟩ (by dsimp only; omega) rfl ?_
      simp [fle, vle, Fr.get, mS_bnd, hf]
  · have hz : decide ((i : Int) < L.length) = false := decide_eq_false (by omega)
    obtain rfl : i = L.length := by omega
    rw [List.take_length]
    simp only [w35L0, hz, w35T1, go_sem, Nat.reduceEqDiff, Nat.reduceAdd, Nat.reduceLT, Nat.reduceLeDiff, reduceIte, reduceCtorEq]
    exact leaf (I _) rfl ⟨rfl, rfl⟩
/-- The first pile with some mountains. -/
def foldF (n : Nat) (set : Int) : Option (List Int) := (foldL n).find? fun D => Sp.creP D == set
theorem s34 {n : Nat} (h1 : 1 ≤ n) (h7 : n ≤ 7) (set : Int) : Abs.Spec Try.prog 34 [I n, I set] [] fun v H' => H' = [] ∧ v = .sl false false (mI ((foldF n set).getD [])) := by
  unfold foldF
  rw [foldL_eq h7, List.find?_filter]
  refine Abs.Spec.walk mixed fn34 nn34 t34 q34 nt34 (by simp) ?_
  simp only [w34, go_sem, Nat.reduceEqDiff, Nat.reduceAdd, Nat.reduceLT, Nat.reduceLeDiff, reduceIte, reduceCtorEq]
  refine CallK.by (CallV.of_spec (all_ref h1 h7)) fun v H' ⟨h1, h2⟩ => ?_
  subst h1 h2
  have hl := deals_small h7
  have hmem : ∀ D ∈ Sp.dealsR n n [], D.length = n ∧ ∀ x ∈ D, 0 ≤ x ∧ x < n := fun D hD => Sp.deals_ok n [] (by simp) (by simp) D hD
  generalize Sp.dealsR n n [] = L at hl hmem ⊢
  obtain ⟨P, hP⟩ : ∃ P : List Int → Bool, P = fun D => Sp.possP D (Sp.stripC n) && Sp.creP D == set := ⟨_, rfl⟩
  rw [show (fun a => decide (Sp.possP a (Sp.stripC n) = true ∧ (Sp.creP a == set) = true)) = P by funext a; rw [hP, Bool.eq_iff_iff]; simp]
  simp only [go_sem, Nat.reduceEqDiff, Nat.reduceAdd, Nat.reduceLT, Nat.reduceLeDiff, reduceIte, reduceCtorEq]
  refine W_loop (fun q : { i : Nat // i ≤ L.length ∧ (L.take i).find? P = none } => ([(1, I set), (8, .sl false false (mS L)), (9, I L.length), (10, I q.1)], [])) (fun q => L.length - q.1)
    ⟨0, by omega, rfl⟩ [] (Wk.nil (by simp [fle, vle, Fr.get, mS_bnd])) ?_
  rintro ⟨i, hi, hnone⟩
  dsimp only
  by_cases hil : i < L.length
  · have hz : decide ((i : Int) < L.length) = true := decide_eq_true (by omega)
    have hil' : (i : Int) < L.length := by omega
    have hwk : IntKind.i64.wrap ((i : Int) + 1) = ((i + 1 : Nat) : Int) := by rw [wrap64 (by omega) (by omega)]; rfl
    obtain ⟨D, hD⟩ : ∃ D, L.getD i [] = D := ⟨_, rfl⟩
    have hDm : D ∈ L := by rw [← hD, List.getD_eq_getElem?_getD, List.getElem?_eq_getElem hil]; exact List.getElem_mem _
    obtain ⟨hDl, hDr⟩ := hmem D hDm
    have hLi : L[i] = D := by rw [← hD, List.getD_eq_getElem?_getD, List.getElem?_eq_getElem hil]; rfl
    have htk : L.take (i + 1) = L.take i ++ [D] := by
      rw [List.take_add_one, List.getElem?_eq_getElem hil, hLi]; rfl
    have hsplit : L = L.take i ++ D :: L.drop (i + 1) := by
      conv => lhs; rw [← List.take_append_drop i L, List.drop_eq_getElem_cons hil, hLi]
    have h21 := s21 false false D (by omega) (by rw [hDl]; exact hDr)
    rw [hDl] at h21
    simp only [w34L0, hz, hil', mS_get, hil, hD, go_sem, Nat.reduceEqDiff, Nat.reduceAdd, Nat.reduceLT, Nat.reduceLeDiff, reduceIte, reduceCtorEq]
    refine CallK.pure (liftV (s45 false false D (by omega) (by omega) (by rw [hDl]; exact hDr)) (by simp [bndL, AVal.bnd, mI_bnd]) rfl _) ?_
    simp only [go_sem, Nat.reduceEqDiff, Nat.reduceAdd, Nat.reduceLT, Nat.reduceLeDiff, reduceIte, reduceCtorEq]
    have next : P D = false → (L.take (i + 1)).find? P = none := fun h => by rw [htk, List.find?_append, hnone]; simp [h]
    refine G.split (fun h => ?_) fun h => ?_
    · simp only [go_sem, Nat.reduceEqDiff, Nat.reduceAdd, Nat.reduceLT, Nat.reduceLeDiff, reduceIte, reduceCtorEq]
      refine CallK.pure (liftV h21 (by simp [bndL, AVal.bnd, mI_bnd]) rfl _) ?_
      simp only [go_sem, Nat.reduceEqDiff, Nat.reduceAdd, Nat.reduceLT, Nat.reduceLeDiff, reduceIte, reduceCtorEq]
      refine IC.split (fun h2 => ?_) fun h2 => ?_
      · have hf : L.find? P = some D := by
          rw [hsplit, List.find?_append, hnone, List.find?_cons]
          have : P D = true := by rw [hP]; simp only [h2, h, Bool.and_self]
          rw [this]; rfl
        simp only [go_sem, Nat.reduceEqDiff, Nat.reduceAdd, Nat.reduceLT, Nat.reduceLeDiff, reduceIte, reduceCtorEq]
        exact leaf (.sl false false (mI D)) ⟨mI_bnd, fun h => h, fun h => h, rfl⟩ ⟨rfl, by rw [hf]; rfl⟩
      · simp only [hwk, go_sem, Nat.reduceEqDiff, Nat.reduceAdd, Nat.reduceLT, Nat.reduceLeDiff, reduceIte, reduceCtorEq]
        refine round0 rfl ⟨i + 1, by omega, next (by rw [hP]; simp only [h2, Bool.false_and])⟩ (by dsimp only; omega) rfl ?_
        simp [fle, vle, Fr.get, mS_bnd]
    · simp only [hwk, go_sem, Nat.reduceEqDiff, Nat.reduceAdd, Nat.reduceLT, Nat.reduceLeDiff, reduceIte, reduceCtorEq]
      refine round0 rfl ⟨i + 1, by omega, next (by rw [hP]; simp only [h, Bool.and_false])⟩ (by dsimp only; omega) rfl ?_
      simp [fle, vle, Fr.get, mS_bnd]
  · have hz : decide ((i : Int) < L.length) = false := decide_eq_false (by omega)
    obtain rfl : i = L.length := by omega
    rw [List.take_length] at hnone
    simp only [w34L0, hz, w34T1, go_sem, Nat.reduceEqDiff, Nat.reduceAdd, Nat.reduceLT, Nat.reduceLeDiff, reduceIte, reduceCtorEq]
    exact leaf (.sl false false (mI [])) ⟨mI_bnd, rfl, rfl⟩ ⟨rfl, by rw [hnone]; rfl⟩
end Go.Proofs.Ythdjloegibenoaa
