/- Contracts of folds: which piles are possible, as the reference asks it, and the statement FoldsPossible. -/
import Derived.Test.YthdjloegibenoaaFE
namespace Go.Proofs.Ythdjloegibenoaa
open Go.Abs AVal
set_option linter.unusedSimpArgs false
attribute [local go_sem] W_skip W_keep KQ_canon canon Fr.norm W_seq W_block W_exit W_ret W_ops W_draw KQ_nil KQ_norm_seq KQ_exit_seq KQ_ret_seq KQ_norm_block KQ_ret_block KQ_exit_block KQ_exit_loop KQ_ret_loop O_nil O_cons S_call S_mv SE_mv SD_mv S_pick SE_pick SD_pick S_bin SE_bin SD_bin S_eqb SE_eqb SD_eqb S_eqv SE_eqv SD_eqv S_eqnil SE_eqnil SD_eqnil S_un SE_un SD_un S_conv SE_conv SD_conv S_mkfn SE_mkfn SD_mkfn S_load SE_load SD_load S_nilck SE_nilck SD_nilck S_slS SE_slS SD_slS S_slP SE_slP SD_slP S_fldA SE_fldA SD_fldA S_fld SE_fld SD_fld S_ixS SE_ixS SD_ixS S_ixP SE_ixP SD_ixP S_ixV SE_ixV SD_ixV S_ixStr SE_ixStr SD_ixStr S_ext SE_ext SD_ext S_len SE_len SD_len S_lenStr SE_lenStr SD_lenStr S_lenc SE_lenc SD_lenc S_mn SE_mn SD_mn S_mx SE_mx SD_mx S_build SE_build SD_build S_alloc SD_alloc S_box SD_box S_bslice SD_bslice S_mksl SD_mksl S_store SD_store S_append SD_append S_copy SD_copy S_clr SD_clr aq_some aa_some al_some aqd_some aad_some ald_some ape_some D_done D_both D_early D_step SE_call SD_call IOpd.ev Fr.get Fr.put Fr.putd entryFr pickA binA binI isSh shI eqbA eqvA ints ints_mI Option.map_some eqnilA unA convA loadA nilckA intA slSA slPA fldAA fldVA ixSA ixPA ixVA ixStrA extA lenA lenStrA mnA mxA AVal.fits fillA fillOk buildA opa srcA appA stoA copA clrA rdFree zeros List.length_nil List.length_cons List.length_map List.map_cons List.map_nil Option.map_some Option.map_none if_true if_false ite_true ite_false true_and and_true and_self implies_true forall_const true_implies Bool.false_eq_true Bool.not_true Bool.not_false decide_eq_true_eq decide_eq_false_iff_not eq_self List.getElem?_cons_zero List.getElem?_cons_succ List.getElem?_nil List.set_cons_zero List.set_cons_succ List.nil_append List.cons_append List.append_nil List.replicate_zero List.replicate_succ Nat.zero_add false_implies rng_lt rng_end rng_get cells_I cells_B cells_sl cut_one Int.toNat_natCast Int.natCast_nonneg List.headD_cons Int.lt_irrefl not_false_eq_true decide_false decide_true mI_length mI_cells mI_sz mI_isCell mI_mid mI_append mI_take mI_drop cells_val cells_own cells_agg isCell_I isCell_B isCell_nil isCell_sl isCell_own isCell_ptr isCell_fn isCell_rp isCell_yld cellsOk_I cellsOk_B cellsOk_nil cellsOk_sl cellsOk_own cellsOk_ptr cellsOk_fn cellsOk_rp cellsOk_yld cellsOk_agg cells_nil cells_ptr cells_fn cells_rp List.all_cons List.all_nil Bool.and_true Nat.mul_one Nat.zero_mul Nat.one_mul List.take_zero List.take_nil List.drop_nil List.drop_zero List.not_mem_nil Nat.le_refl Nat.zero_le mS_length mS_cells mS_sz mS_isCell mS_mid mS_append mS_take mS_drop cells_sI isCell_sI cellsOk_sI sI_eq succ_le_self' List.take_succ_cons List.drop_succ_cons List.take_length beq_self_eq_true List.mem_cons or_false forall_eq mI_put mI_rep O_guard' D_earlyG' D_stepG' W_cond' G_tt G_tf G_ft G_ff GE_tt GE_tf GE_ft GE_ff GS_tt GS_tf GS_ft GS_ff G_u GE_u GS_u IC_t IC_f xft xff xtt xtf z00 z20 z22 z02 zz tn0

/-- The places, as the reference works them out, lie in a block of their own. -/
theorem s70o (nn t : Bool) (D : List Int) (hl : D.length ≤ 1000) (hr : ∀ x ∈ D, 0 ≤ x ∧ x < D.length) : Abs.Spec Try.prog 70 [.sl nn t (mI D)] [] fun v H' => v = .own 0 0 (Sp.placesP D).length D.length 1 ∧ H' = [.cells (mI (Sp.placesP D))] := by
  refine Abs.Spec.walk mixed fn70 nn70 t70 q70 nt70 (by simp) ?_
  simp only [w70, go_sem, Nat.reduceEqDiff, Nat.reduceAdd, Nat.reduceLT, Nat.reduceLeDiff, reduceIte, reduceCtorEq]
  refine ⟨⟨Int.le_refl _, by omega, by omega⟩, ?_⟩
  refine W_loop (fun p : { p : (List Int × List Int) × List Int // p.1.1 ++ p.1.2 = D ∧ p.2.length = D.length ∧ Sp.plG p.1.1.length p.1.2 p.2 = Sp.placesP D } =>
    ([(3, own 0 0 D.length D.length 1), (9, sl nn t (mI D)), (10, I D.length), (11, I p.1.1.1.length)], [.cells (mI p.1.2)])) (fun p => p.1.1.2.length)
    ⟨(([], D), List.replicate D.length 0), rfl, by simp, rfl⟩ [some 0] (Wk.mk0 rfl (by simp [imgs, Blk.alive]) (by simp [hle, csle, mI_rep, mI_bnd]) (by simp [fle, vle, Fr.get, mI_bnd])) ?_
  rintro ⟨⟨⟨pre, suf⟩, out⟩, hp, ho, hinv⟩
  dsimp only at hp ho hinv
  subst hp
  have hlen : (pre ++ suf).length < 9223372036854775808 := by omega
  cases suf with
  | nil =>
    simp only [w70L0, w70T1, go_sem, Nat.reduceEqDiff, Nat.reduceAdd, Nat.reduceLT, Nat.reduceLeDiff, reduceIte, reduceCtorEq]
    rw [Sp.plG] at hinv
    have hpl := Sp.placesP_len (pre ++ [])
    rw [List.append_nil] at hpl
    rw [hinv]
    exact leafO _ _ [some 0] (Wk.mk0 rfl (by simp [imgs, Blk.alive]) (by simp [hle, csle, mI_bnd]) (by simp [fle, vle, Fr.get, ← hpl])) ⟨rfl, rfl⟩
  | cons x suf =>
    obtain ⟨hx0, hxn⟩ := hr x (by simp)
    obtain ⟨c, rfl⟩ : ∃ c : Nat, x = c := ⟨x.toNat, by omega⟩
    have hco : c < out.length := by omega
    have hcn : (c : Int) < (pre ++ (c : Int) :: suf).length := by omega
    have hwk : IntKind.i64.wrap ((pre.length : Int) + 1) = pre.length + 1 := wrap64 (by simp at hlen; omega) (by simp at hlen; omega)
    simp only [w70L0, hcn, set_put, mI_put, hco, go_sem, Nat.reduceEqDiff, Nat.reduceAdd, Nat.reduceLT, Nat.reduceLeDiff, reduceIte, reduceCtorEq]
    refine ⟨by omega, ?_⟩
    refine round1 rfl ⟨((pre ++ [(c : Int)], suf), out.set c pre.length), by simp, by rw [List.length_set]; exact ho, by rw [← hinv, Sp.plG, Int.toNat_natCast]; simp⟩ [some 0] (by simp) (Wk.mk0 rfl (by simp [imgs, Blk.alive]) (by simp [hle, csle, mI_bnd]) (by simp [fle, vle, Fr.get, hwk, mI_bnd]))
theorem s70 (nn t : Bool) (D : List Int) (hl : D.length ≤ 1000) (hr : ∀ x ∈ D, 0 ≤ x ∧ x < D.length) : Abs.Spec Try.prog 70 [.sl nn t (mI D)] [] fun v H' => H' = [] ∧ v = .sl false false (mI (Sp.placesP D)) :=
  Spec.frozen (s70o nn t D hl hr) (by omega) mI_bnd mI_length (by rw [mI_sz]; trivial) (by rw [Nat.mul_one, take_mI, mI_cells])

/-- The creases, as the reference makes them, lie in a block of their own, if there are any. -/
theorem s54o (n : Nat) (hn : n ≤ 1000) : Abs.Spec Try.prog 54 [I n] [] fun v H' => v = .own 0 0 (Sp.stripC n).length (Sp.stripC n).length 3 ∧ H' = [.cells (crs (Sp.stripC n))] := by
  refine Abs.Spec.walk mixed fn54 nn54 t54 q54 nt54 (by simp) ?_
  have hw : IntKind.i64.wrap ((n : Int) - 1) = (n : Int) - 1 := wrap64 (by omega) (by omega)
  simp only [w54, hw, go_sem, Nat.reduceEqDiff, Nat.reduceAdd, Nat.reduceLT, Nat.reduceLeDiff, reduceIte, reduceCtorEq]
  refine W_loop (fun i : { i : Nat // i ≤ n - 1 } => ([(3, own 0 0 i.1 i.1 3), (6, I ((n : Int) - 1)), (7, I i.1)], [.cells (crs (Sp.stripG i.1))])) (fun i => n - i.1)
    ⟨0, by omega⟩ [none] (Wk.mk0 rfl (by simp [imgs, Blk.alive]) (by simp [hle, crs, Sp.stripG]) (by simp [fle, vle, Fr.get])) ?_
  rintro ⟨i, hi⟩
  dsimp only
  by_cases hlt : i < n - 1
  · have hz : decide ((i : Int) < (n : Int) - 1) = true := decide_eq_true (by omega)
    have hwi : IntKind.i64.wrap ((i : Int) + 1) = ((i + 1 : Nat) : Int) := by rw [wrap64 (by omega) (by omega)]; rfl
    have hrem : (i : Int).tmod 2 = ((i % 2 : Nat) : Int) := by rw [Int.tmod_eq_emod_of_nonneg (by omega)]; rfl
    have htake : (crs (Sp.stripG i)).take (i * 3) = crs (Sp.stripG i) := by
      have := crs_take (l := Sp.stripG i)
      rwa [Sp.stripG_len] at this
    have hclen : (crs (Sp.stripG i)).length = i * 3 := by rw [crs_len, Sp.stripG_len]
    have hsn : crs (Sp.stripG i) ++ [I i, I ((i + 1 : Nat) : Int), I ((i % 2 : Nat) : Int)] = crs (Sp.stripG (i + 1)) := by
      rw [crs_snoc (c := ⟨i, i + 1, i % 2⟩), Sp.stripG_succ]
    simp only [w54L0, hz, hwi, hrem, htake, hclen, crs_isCell, go_sem, Nat.reduceEqDiff, Nat.reduceAdd, Nat.reduceLT, Nat.reduceLeDiff, reduceIte, reduceCtorEq]
    refine ⟨by omega, ⟨by rintro u (rfl | rfl | rfl) <;> rfl, by omega⟩, ?_⟩
    refine round1 rfl ⟨i + 1, by omega⟩ [some 2] (by dsimp only; omega) (Wk.one rfl hsn crs_bnd (by simp [fle, vle, Fr.get]))
  · have hz : decide ((i : Int) < (n : Int) - 1) = false := decide_eq_false (by omega)
    obtain rfl : i = n - 1 := by omega
    simp only [w54L0, hz, w54T1, go_sem, Nat.reduceEqDiff, Nat.reduceAdd, Nat.reduceLT, Nat.reduceLeDiff, reduceIte, reduceCtorEq]
    rw [Sp.stripC_len]
    exact leafO _ _ [some 0] (Wk.one rfl rfl crs_bnd (by simp [fle, vle, Fr.get])) ⟨rfl, rfl⟩
theorem s54 (n : Nat) (hn : n ≤ 1000) : Abs.Spec Try.prog 54 [I n] [] fun v H' => H' = [] ∧ v = .sl false false (mC (Sp.stripC n)) :=
  Spec.frozen (s54o n hn) (by omega) mC_bnd mC_length (by rw [mC_sz]; trivial) (by rw [crs_take, mC_cells])


theorem cnt_eq {a b : Bool} : decide ((a.toNat + b.toNat : Nat) = 1) = (a != b) := by cases a <;> cases b <;> rfl
theorem cross_cnt {p : List Int} {c d : Cr} (h : c.s = d.s) : Sp.crossP p c d = decide (((Sp.within p c (p.getD d.a 0)).toNat + (Sp.within p c (p.getD d.b 0)).toNat : Nat) = 1) := by
  rw [cnt_eq, Sp.crossP, if_pos h, Sp.loP, Sp.hiP]
  by_cases h1 : p.getD d.b 0 < p.getD d.a 0
  · rw [if_pos h1, if_neg (by omega)]
    cases Sp.within p c (p.getD d.a 0) <;> cases Sp.within p c (p.getD d.b 0) <;> rfl
  · rw [if_neg h1]
    split
    · rfl
    · have : p.getD d.b 0 = p.getD d.a 0 := by omega
      rw [this]

set_option maxHeartbeats 1000000 in
theorem s73 (nn t : Bool) (p : List Int) (c d : Cr) (ha : c.a < p.length) (hb : c.b < p.length) (ha' : d.a < p.length) (hb' : d.b < p.length) : Abs.Spec Try.prog 73 [.sl nn t (mI p), crA c, crA d] [] fun v H' => H' = [] ∧ v = B (Sp.crossP p c d) := by
  have ia : (c.a : Int) < p.length := by omega
  have ib : (c.b : Int) < p.length := by omega
  have ia' : (d.a : Int) < p.length := by omega
  have ib' : (d.b : Int) < p.length := by omega
  refine Abs.Spec.walk mixed fn73 nn73 t73 q73 nt73 (by simp) ?_
  have e : ((c.s : Int) != d.s) = !decide (c.s = d.s) := by
    by_cases h : c.s = d.s
    · simp [h]
    · rw [decide_eq_false h, bne_iff_ne.2 (by omega)]; rfl
  simp only [w73T1, w73L0, w73, crA_eq, cut_three, e, go_sem, Nat.reduceEqDiff, Nat.reduceAdd, Nat.reduceLT, Nat.reduceLeDiff, reduceIte, reduceCtorEq]
  refine IC.split (fun h => ?_) fun h => ?_
  · have h : c.s ≠ d.s := by simpa using h
    simp only [go_sem, Nat.reduceEqDiff, Nat.reduceAdd, Nat.reduceLT, Nat.reduceLeDiff, reduceIte, reduceCtorEq]
    exact leaf (B _) rfl ⟨rfl, by rw [Sp.crossP, if_neg h]⟩
  · have h : c.s = d.s := by simpa using h
    rw [cross_cnt h]
    simp only [ha, hb, ha', hb', ia, ib, ia', ib', mI_get, mI_hd, go_sem, Nat.reduceEqDiff, Nat.reduceAdd, Nat.reduceLT, Nat.reduceLeDiff, reduceIte, reduceCtorEq]
    obtain ⟨L, hL⟩ : ∃ L, Sp.loP p c = L := ⟨_, rfl⟩
    obtain ⟨M, hM⟩ : ∃ M, Sp.hiP p c = M := ⟨_, rfl⟩
    have hL' := hL
    have hM' := hM
    unfold Sp.loP at hL'
    unfold Sp.hiP at hM'
    rw [hL', hM']
    have hw : ∀ z, Sp.within p c z = (decide (L < z) && decide (z < M)) := fun z => by rw [Sp.within, hL, hM]
    rw [hw, hw]
    obtain ⟨y, hy⟩ : ∃ y, p.getD d.a 0 = y := ⟨_, rfl⟩
    obtain ⟨z, hz⟩ : ∃ z, p.getD d.b 0 = z := ⟨_, rfl⟩
    rw [hy, hz]
    refine W_loop (fun q : { q : Nat × Nat // q.1 ≤ 2 ∧ q.2 = (if 0 < q.1 then (decide (L < y) && decide (y < M)).toNat else 0) + (if 1 < q.1 then (decide (L < z) && decide (z < M)).toNat else 0) } =>
      ([(7, I L), (8, I M), (9, I q.1.2), (49, agg [I y, I z]), (50, I q.1.1)], [])) (fun q => 2 - q.1.1) ⟨(0, 0), by simp, by simp⟩ [] (Wk.nil (by simp [fle, vle, Fr.get, bndL, AVal.bnd])) ?_
    rintro ⟨⟨i, k⟩, hi, hk⟩
    dsimp only at hi hk ⊢
    have hk2 : k ≤ 2 := by
      rw [hk]
      cases (decide (L < y) && decide (y < M)) <;> cases (decide (L < z) && decide (z < M)) <;> split <;> split <;> simp
    have hwk : IntKind.i64.wrap ((k : Int) + 1) = ((k + 1 : Nat) : Int) := by rw [wrap64 (by omega) (by omega)]; rfl
    have hwi : IntKind.i64.wrap ((i : Int) + 1) = ((i + 1 : Nat) : Int) := by rw [wrap64 (by omega) (by omega)]; rfl
    by_cases h2 : i < 2
    · have hz2 : decide ((i : Int) < 2) = true := decide_eq_true (by omega)
      obtain ⟨v, hv⟩ : ∃ v, [y, z].getD i 0 = v := ⟨_, rfl⟩
      have hcut : (mI ([y, z].drop i)).headD .any = I v := by rw [mI_hd (xs := [y, z]) (by simpa using h2), hv]
      have hagg : ([I y, I z] : List AVal) = mI [y, z] := rfl
      rw [hagg]
      have hi2' : (i : Int) < 2 := by omega
      have hnext : ∀ b : Bool, b = (decide (L < v) && decide (v < M)) → k + b.toNat = (if 0 < i + 1 then (decide (L < y) && decide (y < M)).toNat else 0) + (if 1 < i + 1 then (decide (L < z) && decide (z < M)).toNat else 0) := fun b hb => by
        subst hb
        rw [hk]
        rcases (show i = 0 ∨ i = 1 by omega) with rfl | rfl
        · have : y = v := hv
          subst this; simp
        · have : z = v := hv
          subst this; simp
      have egt : decide (v > L) = decide (L < v) := rfl
      simp only [w73L0, hz2, hi2', hcut, mI_length, egt, go_sem, Nat.reduceEqDiff, Nat.reduceAdd, Nat.reduceLT, Nat.reduceLeDiff, reduceIte, reduceCtorEq]
      refine ⟨by omega, ?_⟩
      have fin : ∀ b : Bool, b = (decide (L < v) && decide (v < M)) → ∀ fr : Fr, fr.get 7 = I L → fr.get 8 = I M → fr.get 9 = I ((k + b.toNat : Nat) : Int) → fr.get 49 = agg (mI [y, z]) → fr.get 50 = I ((i + 1 : Nat) : Int) → ∀ (x : { q : Nat × Nat // q.1 ≤ 2 ∧ q.2 = (if 0 < q.1 then (decide (L < y) && decide (y < M)).toNat else 0) + (if 1 < q.1 then (decide (L < z) && decide (z < M)).toNat else 0) }) (ks : List Kont) (Q : QT), x.1.1 = i →
          KQ ⟨Try.prog, 0, 66, true⟩ Q .norm (.loop [] (fun q : { q : Nat × Nat // q.1 ≤ 2 ∧ q.2 = (if 0 < q.1 then (decide (L < y) && decide (y < M)).toNat else 0) + (if 1 < q.1 then (decide (L < z) && decide (z < M)).toNat else 0) } => ([(7, I L), (8, I M), (9, I q.1.2), (49, agg (mI [y, z])), (50, I q.1.1)], [])) (fun q => 2 - q.1.1) x :: ks) fr [] [] := by
        intro b hb fr f7 f8 f9 f49 f50 x ks Q hx
        refine round0 rfl ⟨(i + 1, k + b.toNat), by dsimp only; omega, hnext b hb⟩ (by dsimp only; omega) rfl ?_
        simp [fle, vle, f7, f8, f9, f49, f50, mI_bnd]
      refine G.split (fun h3 => ?_) fun h3 => ?_
      · simp only [go_sem, Nat.reduceEqDiff, Nat.reduceAdd, Nat.reduceLT, Nat.reduceLeDiff, reduceIte, reduceCtorEq]
        refine IC.split (fun h4 => ?_) fun h4 => ?_
        · simp only [hwk, hwi, go_sem, Nat.reduceEqDiff, Nat.reduceAdd, Nat.reduceLT, Nat.reduceLeDiff, reduceIte, reduceCtorEq]
          exact fin true (by rw [h3, h4]; rfl) _ rfl rfl rfl rfl rfl _ _ _ rfl
        · simp only [hwk, hwi, go_sem, Nat.reduceEqDiff, Nat.reduceAdd, Nat.reduceLT, Nat.reduceLeDiff, reduceIte, reduceCtorEq]
          exact fin false (by rw [h3, h4]; rfl) _ rfl rfl rfl rfl rfl _ _ _ rfl
      · simp only [hwi, go_sem, Nat.reduceEqDiff, Nat.reduceAdd, Nat.reduceLT, Nat.reduceLeDiff, reduceIte, reduceCtorEq]
        exact fin false (by rw [h3]; rfl) _ rfl rfl rfl rfl rfl _ _ _ rfl
    · have hz2 : decide ((i : Int) < 2) = false := decide_eq_false (by omega)
      obtain rfl : i = 2 := by omega
      have hk' : k = (decide (L < y) && decide (y < M)).toNat + (decide (L < z) && decide (z < M)).toNat := by simpa using hk
      have e1 : ((k : Int) == 1) = decide (k = 1) := by rw [Bool.eq_iff_iff]; simp; omega
      simp only [w73L0, hz2, w73T1, e1, go_sem, Nat.reduceEqDiff, Nat.reduceAdd, Nat.reduceLT, Nat.reduceLeDiff, reduceIte, reduceCtorEq]
      exact leaf (B _) rfl ⟨rfl, by rw [hk']⟩
set_option maxHeartbeats 1000000 in
theorem s53 (nn t nn' t' : Bool) (D : List Int) (l : List Cr) (hD : D.length ≤ 1000) (hr : ∀ x ∈ D, 0 ≤ x ∧ x < D.length) (hl : l.length ≤ 1000) (hc' : ∀ c ∈ l, c.a < D.length ∧ c.b < D.length) : Abs.Spec Try.prog 53 [.sl nn t (mI D), .sl nn' t' (mC l)] [] fun v H' => H' = [] ∧ v = match Sp.firstP (Sp.placesP D) l with
    | some (i, j) => .tup [.agg [I i, I j], B true]
    | none => .tup [.agg [I 0, I 0], B false] := by
  have hc : ∀ c ∈ l, c.a < (Sp.placesP D).length ∧ c.b < (Sp.placesP D).length := by rw [Sp.placesP_len]; exact hc'
  refine Abs.Spec.walk mixed fn53 nn53 t53 q53 nt53 (by simp) ?_
  simp only [w53, go_sem, Nat.reduceEqDiff, Nat.reduceAdd, Nat.reduceLT, Nat.reduceLeDiff, reduceIte, reduceCtorEq]
  refine CallK.pure (liftV (s70 nn t D hD hr) (by simp [bndL, AVal.bnd, mI_bnd]) (by simp [AVal.bnd, mI_bnd]) _) ?_
  generalize Sp.placesP D = p at hc ⊢
  simp only [mC_length, go_sem, Nat.reduceEqDiff, Nat.reduceAdd, Nat.reduceLT, Nat.reduceLeDiff, reduceIte, reduceCtorEq]
  refine W_loop (fun q : { i : Nat // i ≤ l.length ∧ Sp.fstG p i (l.drop i) = Sp.firstP p l } =>
    ([(1, sl nn' t' (mC l)), (4, ptr 0 0), (6, sl false false (mI p)), (12, sl nn' t' (mC l)), (13, I l.length), (14, I q.1)], [.cells [I 0, I 0]])) (fun q => l.length - q.1)
    ⟨0, by omega, rfl⟩ [some 0] (Wk.one rfl rfl rfl (by simp [fle, vle, Fr.get, mI_bnd, mC_bnd])) ?_
  rintro ⟨i, hi, hinv⟩
  dsimp only
  by_cases hil : i < l.length
  · have hz : decide ((i : Int) < l.length) = true := decide_eq_true (by omega)
    have hil' : (i : Int) < l.length := by omega
    have hwk : IntKind.i64.wrap ((i : Int) + 1) = ((i + 1 : Nat) : Int) := by rw [wrap64 (by omega) (by omega)]; rfl
    obtain ⟨c, hcd⟩ : ∃ c, l[i] = c := ⟨_, rfl⟩
    have hcc := hc c (by rw [← hcd]; exact List.getElem_mem _)
    rw [List.drop_eq_getElem_cons hil, hcd, Sp.fstG] at hinv
    simp only [w53L0, hz, hil', mC_get, hil, hcd, cells_crA, cut_three, hwk, mC_length, go_sem, Nat.reduceEqDiff, Nat.reduceAdd, Nat.reduceLT, Nat.reduceLeDiff, reduceIte, reduceCtorEq]
    refine W_loop (fun q : { j : Nat // i + 1 ≤ j ∧ j ≤ l.length ∧ Sp.fstJ p c j (l.drop j) = Sp.fstJ p c (i + 1) (l.drop (i + 1)) } =>
      ([(1, sl nn' t' (mC l)), (4, ptr 0 0), (6, sl false false (mI p)), (7, I i), (8, ptr 1 0), (9, I q.1), (12, sl nn' t' (mC l)), (13, I l.length), (14, I i)], [.cells [I 0, I 0], .cells [I c.a, I c.b, I c.s]])) (fun q => l.length - q.1)
      ⟨i + 1, by omega, by omega, rfl⟩ [some 0, some 1] (Wk.mk0 rfl (by simp [imgs, Blk.alive]) (by simp [hle, csle, bndL, AVal.bnd]) (by simp [fle, vle, Fr.get, mI_bnd, mC_bnd])) ?_
    rintro ⟨j, hij, hj, hinv2⟩
    dsimp only
    by_cases hjl : j < l.length
    · have hz2 : decide ((j : Int) < l.length) = true := decide_eq_true (by omega)
      have hjl' : (j : Int) < l.length := by omega
      have hwk2 : IntKind.i64.wrap ((j : Int) + 1) = ((j + 1 : Nat) : Int) := by rw [wrap64 (by omega) (by omega)]; rfl
      obtain ⟨d, hdd0⟩ : ∃ d, l[j] = d := ⟨_, rfl⟩
      have hdd := hc d (by rw [← hdd0]; exact List.getElem_mem _)
      rw [List.drop_eq_getElem_cons hjl, hdd0, Sp.fstJ] at hinv2
      simp only [w53L1, mC_length, hz2, hjl', mC_get, hjl, hdd0, cells_crA, cut_three, go_sem, Nat.reduceEqDiff, Nat.reduceAdd, Nat.reduceLT, Nat.reduceLeDiff, reduceIte, reduceCtorEq]
      refine CallKD.pure (liftV (s73 false false p c d hcc.1 hcc.2 hdd.1 hdd.2) (by simp [bndL, AVal.bnd, mI_bnd, crA]) rfl) ?_
      simp only [go_sem, Nat.reduceEqDiff, Nat.reduceAdd, Nat.reduceLT, Nat.reduceLeDiff, reduceIte, reduceCtorEq]
      refine IC.split (fun h => ?_) fun h => ?_
      · rw [if_pos h] at hinv2
        rw [← hinv2] at hinv
        simp only [cut_two', go_sem, Nat.reduceEqDiff, Nat.reduceAdd, Nat.reduceLT, Nat.reduceLeDiff, reduceIte, reduceCtorEq]
        rw [← hinv]
        exact leafCT (.agg [I i, I j]) (.tup [.agg [I i, I j], B true]) rfl ⟨by simp, by simp⟩ ⟨.inl ⟨rfl, rfl⟩, rfl, trivial⟩ ⟨rfl, rfl⟩
      · rw [if_neg (by rw [h]; simp)] at hinv2
        simp only [hwk2, go_sem, Nat.reduceEqDiff, Nat.reduceAdd, Nat.reduceLT, Nat.reduceLeDiff, reduceIte, reduceCtorEq]
        refine round1 rfl ⟨j + 1, by omega, by omega, hinv2⟩ [some 0, some 1] (by dsimp only; omega) (Wk.mk0 rfl (by simp [imgs, Blk.alive]) (by simp [hle, csle, bndL, AVal.bnd]) (by simp [fle, vle, Fr.get, mI_bnd, mC_bnd]))
    · have hz2 : decide ((j : Int) < l.length) = false := decide_eq_false (by omega)
      obtain rfl : j = l.length := by omega
      rw [List.drop_length, Sp.fstJ] at hinv2
      rw [← hinv2] at hinv
      simp only [w53L1, mC_length, hz2, w53T2, hwk, go_sem, Nat.reduceEqDiff, Nat.reduceAdd, Nat.reduceLT, Nat.reduceLeDiff, reduceIte, reduceCtorEq]
      refine round1 rfl ⟨i + 1, by omega, hinv⟩ [some 0] (by dsimp only; omega) (Wk.one rfl rfl rfl (by simp [fle, vle, Fr.get, mI_bnd, mC_bnd]))
  · have hz : decide ((i : Int) < l.length) = false := decide_eq_false (by omega)
    obtain rfl : i = l.length := by omega
    rw [List.drop_length, Sp.fstG] at hinv
    simp only [w53L0, hz, w53T3, cut_two', go_sem, Nat.reduceEqDiff, Nat.reduceAdd, Nat.reduceLT, Nat.reduceLeDiff, reduceIte, reduceCtorEq]
    rw [← hinv]
    exact leafCT (.agg [I 0, I 0]) (.tup [.agg [I 0, I 0], B false]) rfl ⟨by simp, by simp⟩ ⟨.inl ⟨rfl, rfl⟩, rfl, trivial⟩ ⟨rfl, rfl⟩

/-- What Cross answers. -/
def crossV (o : Option (Nat × Nat)) : AVal := match o with
  | some (i, j) => .tup [.agg [I i, I j], I 0]
  | none => .tup [.agg [I 0, I 0], I 4]
theorem s19 (nn t : Bool) (D : List Int) (hD : D.length < 9223372036854775808) : Abs.Spec Try.prog 19 [.sl nn t (mI D)] [] fun v H' => H' = [] ∧ v = if Sp.isStrip D then crossV (Sp.firstP (Sp.placesP D) (Sp.stripC D.length)) else .tup [.agg [I 0, I 0], I 2] := by
  refine Abs.Spec.walk mixed fn19 nn19 t19 q19 nt19 (by simp) ?_
  simp only [w19, go_sem, Nat.reduceEqDiff, Nat.reduceAdd, Nat.reduceLT, Nat.reduceLeDiff, reduceIte, reduceCtorEq]
  refine CallK.pure (liftV (s48 nn t D hD) (by simp [bndL, AVal.bnd, mI_bnd]) rfl _) ?_
  simp only [go_sem, Nat.reduceEqDiff, Nat.reduceAdd, Nat.reduceLT, Nat.reduceLeDiff, reduceIte, reduceCtorEq]
  refine IC.split (fun h => ?_) fun h => ?_
  · have h : Sp.isStrip D = false := by simpa using h
    simp only [cut_two', go_sem, Nat.reduceEqDiff, Nat.reduceAdd, Nat.reduceLT, Nat.reduceLeDiff, reduceIte, reduceCtorEq]
    exact leafCT (.agg [I 0, I 0]) (.tup [.agg [I 0, I 0], I 2]) rfl ⟨by simp, by simp⟩ ⟨.inl ⟨rfl, rfl⟩, rfl, trivial⟩ ⟨rfl, by rw [h]; rfl⟩
  · have h : Sp.isStrip D = true := by simpa using h
    obtain ⟨h7, hr⟩ := Sp.strip_ok h
    rw [if_pos h]
    simp only [go_sem, Nat.reduceEqDiff, Nat.reduceAdd, Nat.reduceLT, Nat.reduceLeDiff, reduceIte, reduceCtorEq]
    refine CallK.pure (liftV (s51 nn t D (by omega) hr) (by simp [bndL, AVal.bnd, mI_bnd]) (by simp [AVal.bnd, mI_bnd]) _) ?_
    simp only [go_sem, Nat.reduceEqDiff, Nat.reduceAdd, Nat.reduceLT, Nat.reduceLeDiff, reduceIte, reduceCtorEq]
    refine CallK.pure (liftV (s50 D.length (by omega)) (by simp [bndL, AVal.bnd]) (by simp [AVal.bnd, mC_bnd]) _) ?_
    simp only [go_sem, Nat.reduceEqDiff, Nat.reduceAdd, Nat.reduceLT, Nat.reduceLeDiff, reduceIte, reduceCtorEq]
    obtain ⟨o, ho⟩ : ∃ o, Sp.firstP (Sp.placesP D) (Sp.stripC D.length) = o := ⟨_, rfl⟩
    have h52 := s52 false false false false (Sp.placesP D) (Sp.stripC D.length) (by rw [Sp.stripC_len]; omega) (by rw [Sp.placesP_len]; exact fun c hc => Sp.stripC_ok hc)
    rw [ho] at h52 ⊢
    cases o with
    | none =>
      refine CallK.pure (liftV h52 (by simp [bndL, AVal.bnd, mI_bnd, mC_bnd]) (by simp [bndL, AVal.bnd]) _) ?_
      simp only [List.getD_cons_zero, List.getD_cons_succ, cut_two', go_sem, Nat.reduceEqDiff, Nat.reduceAdd, Nat.reduceLT, Nat.reduceLeDiff, reduceIte, reduceCtorEq]
      exact leafCT (.agg [I 0, I 0]) (.tup [.agg [I 0, I 0], I 4]) rfl ⟨by simp, by simp⟩ ⟨.inl ⟨rfl, rfl⟩, rfl, trivial⟩ ⟨rfl, rfl⟩
    | some q =>
      obtain ⟨i, j⟩ := q
      refine CallK.pure (liftV h52 (by simp [bndL, AVal.bnd, mI_bnd, mC_bnd]) (by simp [bndL, AVal.bnd]) _) ?_
      simp only [List.getD_cons_zero, List.getD_cons_succ, cut_two', go_sem, Nat.reduceEqDiff, Nat.reduceAdd, Nat.reduceLT, Nat.reduceLeDiff, reduceIte, reduceCtorEq]
      exact leafCT (.agg [I i, I j]) (.tup [.agg [I i, I j], I 0]) rfl ⟨by simp, by simp⟩ ⟨.inl ⟨rfl, rfl⟩, rfl, trivial⟩ ⟨rfl, rfl⟩
theorem s20 (nn t : Bool) (D : List Int) (hD : D.length ≤ 1000) (hr : ∀ x ∈ D, 0 ≤ x ∧ x < D.length) : Abs.Spec Try.prog 20 [.sl nn t (mI D)] [] fun v H' => H' = [] ∧ v = crossV (Sp.firstP (Sp.placesP D) (Sp.stripC D.length)) := by
  refine Abs.Spec.walk mixed fn20 nn20 t20 q20 nt20 (by simp) ?_
  simp only [w20, go_sem, Nat.reduceEqDiff, Nat.reduceAdd, Nat.reduceLT, Nat.reduceLeDiff, reduceIte, reduceCtorEq]
  refine CallK.pure (liftV (s54 D.length (by omega)) (by simp [bndL, AVal.bnd]) (by simp [AVal.bnd, mC_bnd]) _) ?_
  simp only [go_sem, Nat.reduceEqDiff, Nat.reduceAdd, Nat.reduceLT, Nat.reduceLeDiff, reduceIte, reduceCtorEq]
  obtain ⟨o, ho⟩ : ∃ o, Sp.firstP (Sp.placesP D) (Sp.stripC D.length) = o := ⟨_, rfl⟩
  have h53 := s53 nn t false false D (Sp.stripC D.length) hD hr (by rw [Sp.stripC_len]; omega) fun c hc => Sp.stripC_ok hc
  rw [ho] at h53 ⊢
  cases o with
  | none =>
    refine CallK.pure (liftV h53 (by simp [bndL, AVal.bnd, mI_bnd, mC_bnd]) (by simp [bndL, AVal.bnd]) _) ?_
    simp only [List.getD_cons_zero, List.getD_cons_succ, cut_two', go_sem, Nat.reduceEqDiff, Nat.reduceAdd, Nat.reduceLT, Nat.reduceLeDiff, reduceIte, reduceCtorEq]
    exact leafCT (.agg [I 0, I 0]) (.tup [.agg [I 0, I 0], I 4]) rfl ⟨by simp, by simp⟩ ⟨.inl ⟨rfl, rfl⟩, rfl, trivial⟩ ⟨rfl, rfl⟩
  | some q =>
    obtain ⟨i, j⟩ := q
    refine CallK.pure (liftV h53 (by simp [bndL, AVal.bnd, mI_bnd, mC_bnd]) (by simp [bndL, AVal.bnd]) _) ?_
    simp only [List.getD_cons_zero, List.getD_cons_succ, cut_two', go_sem, Nat.reduceEqDiff, Nat.reduceAdd, Nat.reduceLT, Nat.reduceLeDiff, reduceIte, reduceCtorEq]
    exact leafCT (.agg [I i, I j]) (.tup [.agg [I i, I j], I 0]) rfl ⟨by simp, by simp⟩ ⟨.inl ⟨rfl, rfl⟩, rfl, trivial⟩ ⟨rfl, rfl⟩
theorem s21 (nn t : Bool) (D : List Int) (hD : D.length ≤ 1000) (hr : ∀ x ∈ D, 0 ≤ x ∧ x < D.length) : Abs.Spec Try.prog 21 [.sl nn t (mI D)] [] fun v H' => H' = [] ∧ v = B (Sp.possP D (Sp.stripC D.length)) := by
  refine Abs.Spec.walk mixed fn21 nn21 t21 q21 nt21 (by simp) ?_
  simp only [w21, go_sem, Nat.reduceEqDiff, Nat.reduceAdd, Nat.reduceLT, Nat.reduceLeDiff, reduceIte, reduceCtorEq]
  refine CallK.pure (liftV (s54 D.length (by omega)) (by simp [bndL, AVal.bnd]) (by simp [AVal.bnd, mC_bnd]) _) ?_
  simp only [go_sem, Nat.reduceEqDiff, Nat.reduceAdd, Nat.reduceLT, Nat.reduceLeDiff, reduceIte, reduceCtorEq]
  rw [Sp.possP]
  obtain ⟨o, ho⟩ : ∃ o, Sp.firstP (Sp.placesP D) (Sp.stripC D.length) = o := ⟨_, rfl⟩
  have h53 := s53 nn t false false D (Sp.stripC D.length) hD hr (by rw [Sp.stripC_len]; omega) fun c hc => Sp.stripC_ok hc
  rw [ho] at h53 ⊢
  cases o with
  | none =>
    refine CallK.pure (liftV h53 (by simp [bndL, AVal.bnd, mI_bnd, mC_bnd]) (by simp [bndL, AVal.bnd]) _) ?_
    simp only [List.getD_cons_zero, List.getD_cons_succ, go_sem, Nat.reduceEqDiff, Nat.reduceAdd, Nat.reduceLT, Nat.reduceLeDiff, reduceIte, reduceCtorEq]
    exact leaf (B true) rfl ⟨rfl, rfl⟩
  | some q =>
    obtain ⟨i, j⟩ := q
    refine CallK.pure (liftV h53 (by simp [bndL, AVal.bnd, mI_bnd, mC_bnd]) (by simp [bndL, AVal.bnd]) _) ?_
    simp only [List.getD_cons_zero, List.getD_cons_succ, go_sem, Nat.reduceEqDiff, Nat.reduceAdd, Nat.reduceLT, Nat.reduceLeDiff, reduceIte, reduceCtorEq]
    exact leaf (B false) rfl ⟨rfl, rfl⟩

set_option maxHeartbeats 1000000 in
theorem s4 (D : List Int) (hl : D.length < 9223372036854775808) : Abs.Spec Try.prog 4 [.sl false false (mI D)] [] fun v H' => H' = [] ∧ v = B true := by
  have e18 : ∀ H, CallV Try.prog (.fn (.func 18) [] []) [] H fun v H' => v = B true ∧ H' = H := fun H => liftV s18 rfl rfl H
  have hl11 : (D.take 11).length < 9223372036854775808 := by simp; omega
  refine Abs.Spec.walk mixed fn4 nn4 t4 q4 nt4 (by simp) ?_
  simp only [w4, go_sem, Nat.reduceEqDiff, Nat.reduceAdd, Nat.reduceLT, Nat.reduceLeDiff, reduceIte, reduceCtorEq]
  refine CallK.by (CallV.of_spec (s16 false false D hl)) fun v H' ⟨h1, h2⟩ => ?_
  subst h1 h2
  simp only [go_sem, Nat.reduceEqDiff, Nat.reduceAdd, Nat.reduceLT, Nat.reduceLeDiff, reduceIte, reduceCtorEq]
  refine CallK.by (CallV.of_spec (s15 false false (D.take 11) hl11)) fun v H' ⟨h1, h2⟩ => ?_
  subst h1 h2
  rw [Sp.strip_take]
  cases hs : Sp.isStrip D with
  | false =>
    simp only [Bool.false_eq_true, if_false]
    simp only [List.getD_cons_zero, List.getD_cons_succ, go_sem, Nat.reduceEqDiff, Nat.reduceAdd, Nat.reduceLT, Nat.reduceLeDiff, reduceIte, reduceCtorEq]
    refine CallK.by (CallV.of_spec (s16 false false D hl)) fun v H' ⟨h1, h2⟩ => ?_
    subst h1 h2
    simp only [go_sem, Nat.reduceEqDiff, Nat.reduceAdd, Nat.reduceLT, Nat.reduceLeDiff, reduceIte, reduceCtorEq]
    refine CallK.by (CallV.of_spec (s19 false false (D.take 11) hl11)) fun v H' ⟨h1, h2⟩ => ?_
    subst h1 h2
    rw [Sp.strip_take, hs]
    simp only [Bool.false_eq_true, if_false]
    simp only [List.getD_cons_zero, List.getD_cons_succ, go_sem, Nat.reduceEqDiff, Nat.reduceAdd, Nat.reduceLT, Nat.reduceLeDiff, reduceIte, reduceCtorEq]
    refine CallK.pure (liftV (s17 false false D hl) (by simp [bndL, AVal.bnd, mI_bnd]) rfl _) ?_
    rw [hs]
    simp only [cut_two', go_sem, Nat.reduceEqDiff, Nat.reduceAdd, Nat.reduceLT, Nat.reduceLeDiff, reduceIte, reduceCtorEq]
    refine CallK.pure (e18 _) ?_
    simp only [go_sem, Nat.reduceEqDiff, Nat.reduceAdd, Nat.reduceLT, Nat.reduceLeDiff, reduceIte, reduceCtorEq]
    exact leaf (B true) rfl ⟨rfl, rfl⟩
  | true =>
    obtain ⟨h1, h7, hp⟩ := Sp.strip_pile hs
    rw [Sp.strip_take' hs]
    simp only [if_true]
    simp only [List.getD_cons_zero, List.getD_cons_succ, z00, go_sem, Nat.reduceEqDiff, Nat.reduceAdd, Nat.reduceLT, Nat.reduceLeDiff, reduceIte, reduceCtorEq]
    refine CallK.by (CallV.of_spec (s16 false false D hl)) fun v H' ⟨h1, h2⟩ => ?_
    subst h1 h2
    rw [Sp.strip_take' hs]
    simp only [go_sem, Nat.reduceEqDiff, Nat.reduceAdd, Nat.reduceLT, Nat.reduceLeDiff, reduceIte, reduceCtorEq]
    refine CallK.by (CallV.of_spec (s19 false false D hl)) fun v H' ⟨h1, h2⟩ => ?_
    subst h1 h2
    rw [hs, if_pos rfl]
    obtain ⟨a, b, e, hc⟩ : ∃ a b e, crossV (Sp.firstP (Sp.placesP D) (Sp.stripC D.length)) = .tup [.agg [I a, I b], I e] := by
      cases Sp.firstP (Sp.placesP D) (Sp.stripC D.length) with
      | none => exact ⟨0, 0, 4, rfl⟩
      | some q => exact ⟨q.1, q.2, 0, rfl⟩
    have h20 := s20 false false D (by omega) hp.rng
    have h21 := s21 false false D (by omega) hp.rng
    rw [hc] at h20 ⊢
    simp only [List.getD_cons_zero, List.getD_cons_succ, go_sem, Nat.reduceEqDiff, Nat.reduceAdd, Nat.reduceLT, Nat.reduceLeDiff, reduceIte, reduceCtorEq]
    refine CallK.pure (liftV (s17 false false D hl) (by simp [bndL, AVal.bnd, mI_bnd]) rfl _) ?_
    rw [hs]
    simp only [go_sem, Nat.reduceEqDiff, Nat.reduceAdd, Nat.reduceLT, Nat.reduceLeDiff, reduceIte, reduceCtorEq]
    refine CallK.pure (liftV h20 (by simp [bndL, AVal.bnd, mI_bnd]) (by simp [bndL, AVal.bnd]) _) ?_
    simp only [List.getD_cons_zero, List.getD_cons_succ, go_sem, Nat.reduceEqDiff, Nat.reduceAdd, Nat.reduceLT, Nat.reduceLeDiff, reduceIte, reduceCtorEq]
    refine CallK.pure (liftV h21 (by simp [bndL, AVal.bnd, mI_bnd]) rfl _) ?_
    simp only [cut_two', go_sem, Nat.reduceEqDiff, Nat.reduceAdd, Nat.reduceLT, Nat.reduceLeDiff, reduceIte, reduceCtorEq]
    refine CallK.pure (e18 _) ?_
    simp only [go_sem, Nat.reduceEqDiff, Nat.reduceAdd, Nat.reduceLT, Nat.reduceLeDiff, reduceIte, reduceCtorEq]
    exact leaf (B true) rfl ⟨rfl, rfl⟩
end Go.Proofs.Ythdjloegibenoaa
