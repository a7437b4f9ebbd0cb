/- Contracts: the reference's bound. -/
import Derived.Test.YtipfjfmdjmaflaaMP
namespace Go.Proofs.Ytipfjfmdjmaflaa
open Go.Abs AVal
set_option linter.unusedSimpArgs false
attribute [local go_sem] W_skip W_keep KQ_canon canon Fr.norm W_seq W_block W_scope W_exit W_ret W_ops W_draw KQ_nil KQ_norm_seq KQ_exit_seq KQ_ret_seq KQ_norm_block KQ_ret_block KQ_exit_block KQ_exit_loop KQ_ret_loop O_nil O_cons S_call S_mv SE_mv SD_mv S_pick SE_pick SD_pick S_bin SE_bin SD_bin S_eqb SE_eqb SD_eqb S_eqv SE_eqv SD_eqv S_eqnil SE_eqnil SD_eqnil S_un SE_un SD_un S_conv SE_conv SD_conv S_mkfn SE_mkfn SD_mkfn S_load SE_load SD_load S_nilck SE_nilck SD_nilck S_slS SE_slS SD_slS S_slP SE_slP SD_slP S_fldA SE_fldA SD_fldA S_fld SE_fld SD_fld S_ixS SE_ixS SD_ixS S_ixP SE_ixP SD_ixP S_ixV SE_ixV SD_ixV S_ixStr SE_ixStr SD_ixStr S_ext SE_ext SD_ext S_len SE_len SD_len S_lenStr SE_lenStr SD_lenStr S_lenc SE_lenc SD_lenc S_mn SE_mn SD_mn S_mx SE_mx SD_mx S_build SE_build SD_build S_alloc SD_alloc S_box SD_box S_bslice SD_bslice S_mksl SD_mksl S_store SD_store S_append SD_append S_copy SD_copy S_clr SD_clr S_mlen SE_mlen SD_mlen S_mget SE_mget SD_mget S_mval SE_mval SD_mval S_mentry SE_mentry SD_mentry S_mkmap SD_mkmap S_mset SD_mset S_mrange SD_mrange S_mnext mlenA mgetA mvalA mentryA msetA mrangeA cells_mp isCell_mp cellsOk_mp aq_some aa_some al_some alA_some aqd_some aad_some ald_some ape_some D_done D_both D_early D_step SE_call SD_call IOpd.ev Fr.get Fr.put Fr.putd entryFr pickA binA binI isSh shI eqbA eqvA ints ints_mI Option.map_some eqnilA unA convA loadA nilckA intA slSA slPA fldAA fldVA ixSA ixPA ixVA ixStrA extA lenA lenStrA mnA mxA AVal.fits fillA fillOk buildA opa srcA appA stoA copA clrA rdFree zeros List.length_nil List.length_cons List.length_map List.map_cons List.map_nil Option.map_some Option.map_none if_true if_false ite_true ite_false true_and and_true and_self implies_true forall_const true_implies Bool.false_eq_true Bool.not_true Bool.not_false decide_eq_true_eq decide_eq_false_iff_not eq_self List.getElem?_cons_zero List.getElem?_cons_succ List.getElem?_nil List.set_cons_zero List.set_cons_succ List.nil_append List.cons_append List.append_nil List.replicate_zero List.replicate_succ Nat.zero_add false_implies rng_lt rng_end rng_get cells_I cells_B cells_sl cut_one Int.toNat_natCast Int.natCast_nonneg List.headD_cons Int.lt_irrefl not_false_eq_true decide_false decide_true mI_length mI_cells mI_sz mI_isCell mI_mid mI_append mI_take mI_drop cells_val cells_own cells_agg isCell_I isCell_B isCell_nil isCell_sl isCell_own isCell_ptr isCell_fn isCell_rp isCell_yld cellsOk_I cellsOk_B cellsOk_nil cellsOk_sl cellsOk_own cellsOk_ptr cellsOk_fn cellsOk_rp cellsOk_yld cellsOk_agg cells_nil cells_ptr cells_fn cells_rp List.all_cons List.all_nil Bool.and_true Nat.mul_one Nat.zero_mul Nat.one_mul List.take_zero List.take_nil List.drop_nil List.drop_zero List.not_mem_nil Nat.le_refl Nat.zero_le mS_length mS_cells mS_sz mS_isCell mS_mid mS_append mS_take mS_drop cells_sI isCell_sI cellsOk_sI sI_eq succ_le_self' List.take_succ_cons List.drop_succ_cons List.take_length beq_self_eq_true List.mem_cons or_false forall_eq mI_put mI_rep O_guard' D_earlyG' D_stepG' W_cond' G_tt G_tf G_ft G_ff GE_tt GE_tf GE_ft GE_ff GS_tt GS_tf GS_ft GS_ff G_u GE_u GS_u IC_t IC_f xft xff xtt xtf z00 z20 z22 z02 zz tn0
/-- What is seen of the rank. -/
theorem rk_zero {a : List (List Int)} (h4 : ∀ r ∈ a, r.length ≤ 4) (h : ∀ r ∈ a, Sp.numbers r 0 0 = true) : Sp.rk (a.map Sp.pad) = 0 := by
  have : (a.map Sp.pad).filter (fun r => !(r == Sp.z4)) = [] := by
    rw [List.filter_eq_nil_iff]
    intro r hr
    obtain ⟨s, hs, rfl⟩ := List.mem_map.1 hr
    have hz := h s hs
    unfold Sp.numbers at hz
    rw [List.all_eq_true] at hz
    have e0 : ∀ z ∈ s, z = 0 := fun z hm => by have := hz z hm; simp at this; omega
    have : s = List.replicate s.length 0 := List.eq_replicate_iff.2 ⟨rfl, e0⟩
    have hp : Sp.pad s = List.replicate (s.length + (4 - s.length)) 0 := by
      unfold Sp.pad
      conv => lhs; rw [this]
      rw [List.length_replicate, List.replicate_append_replicate]
    have h4 := h4 s hs
    rw [hp, show s.length + (4 - s.length) = 4 by omega]; simp [Sp.z4]
  unfold Sp.rk
  rw [this]
theorem rk_one {r s : List Int} (h : ∀ i j, j < i → i < r.length → r.getD i 0 * s.getD j 0 = r.getD j 0 * s.getD i 0) (hl : r.length ≤ 4) (hs : s.length = r.length) : Sp.rk ([r, s].map Sp.pad) ≤ 1 := by
  have hp : ∀ {x : List Int} {k : Nat}, (Sp.pad x).getD k 0 = x.getD k 0 := fun {x k} => by
    by_cases hk : k < x.length
    · unfold Sp.pad; rw [List.getD_eq_getElem?_getD, List.getElem?_append_left hk, List.getD_eq_getElem?_getD]
    · rw [Sp.pad_getD rfl (by omega), List.getD_eq_getElem?_getD, List.getElem?_eq_none (by omega)]; rfl
  have hm : (Sp.minors (Sp.pad r) (Sp.pad s)).all (fun d => !(d != 0)) = true := by
    rw [List.all_eq_true]
    intro d hd
    unfold Sp.minors at hd
    obtain ⟨j, hj, hd⟩ := List.mem_flatMap.1 hd
    obtain ⟨i, hi, rfl⟩ := List.mem_map.1 hd
    have hi := List.mem_range.1 hi
    have hj := List.mem_range.1 hj
    rw [hp, hp, hp, hp]
    by_cases hjr : j < r.length
    · have := h j i hi hjr
      have e0 : r.getD i 0 * s.getD j 0 - r.getD j 0 * s.getD i 0 = 0 := by omega
      rw [e0]; rfl
    · have e1 : r.getD j 0 = 0 := by rw [List.getD_eq_getElem?_getD, List.getElem?_eq_none (by omega)]; rfl
      have e2 : s.getD j 0 = 0 := by rw [List.getD_eq_getElem?_getD, List.getElem?_eq_none (by omega)]; rfl
      rw [e1, e2]; simp
  unfold Sp.rk
  simp only [List.map_cons, List.map_nil]
  by_cases h1 : (Sp.pad r == Sp.z4) = true
  · by_cases h2 : (Sp.pad s == Sp.z4) = true
    · simp [List.filter_cons, h1, h2]
    · simp [List.filter_cons, h1, h2]
  · by_cases h2 : (Sp.pad s == Sp.z4) = true
    · simp [List.filter_cons, h1, h2]
    · simp only [List.filter_cons, List.filter_nil, h1, h2, Bool.not_false, if_true]
      rw [hm]; decide
theorem rk_single (r : List Int) : Sp.rk [r] ≤ 1 := by
  unfold Sp.rk
  by_cases h : (r == Sp.z4) = true
  · simp [List.filter_cons, h]
  · simp [List.filter_cons, h]
theorem rk_le2 (rows : List (List Int)) : Sp.rk rows ≤ 2 := by
  unfold Sp.rk
  split
  · decide
  · decide
  · split <;> decide
/-- From the rank that was seen to the bound. -/
theorem bound_ok {rows : List (List Int)} {n : Nat} (n1 : 1 ≤ n) (n4 : n ≤ 4) {r : Nat} (hr : r = 0 ∨ r = 1 ∨ r = 2) (h : Sp.rk rows ≤ r) : Sp.bnd rows n ≤ (if (1 : Int) < (n : Int) - r then (n : Int) - r else 1) * (if r = 0 then 1 else if r = 1 then 2 else 8) ∧ (if (1 : Int) < (n : Int) - r then (n : Int) - r else 1) * (if r = 0 then 1 else if r = 1 then 2 else 8) ≤ 16 := by
  unfold Sp.bnd
  generalize Sp.rk rows = k at h
  rcases (show n = 1 ∨ n = 2 ∨ n = 3 ∨ n = 4 by omega) with rfl | rfl | rfl | rfl <;> rcases hr with rfl | rfl | rfl <;> rcases (show k = 0 ∨ k = 1 ∨ k = 2 by omega) with rfl | rfl | rfl <;> first | (exfalso; omega) | decide
set_option maxRecDepth 20000 in
set_option maxHeartbeats 4000000 in
theorem s93 (nn t : Bool) (a : List (List Int)) (ha : ∀ l ∈ a, l.length < 9223372036854775808) (hl : a.length < 9223372036854775808) (hm : Sp.mat a = true) : Abs.Spec Try.prog 93 [.sl nn t (mS a)] [] fun v H' => H' = [] ∧ ∃ M : Nat, Sp.bnd (a.map Sp.pad) (a.getD 0 []).length ≤ M ∧ M ≤ 16 ∧ v = I M := by
  obtain ⟨h1, h2, h3⟩ := Sp.mat_spec hm
  obtain ⟨-, -, n1, n4⟩ := Sp.mat_cols hm rfl
  have hb : ∀ r ∈ a, Sp.inB 2 r := by
    have h := hm
    unfold Sp.mat at h
    simp only [Bool.and_eq_true, decide_eq_true_eq, List.all_eq_true, Sp.numbers] at h
    intro r hr x hx
    have := (h.2.2 r hr).2.2.2 x hx
    omega
  have g0 := mS_getD (show 0 < a.length by omega)
  obtain ⟨n, hn⟩ : ∃ n, (a.getD 0 []).length = n := ⟨_, rfl⟩
  have gl : (mI (a.getD 0 [])).length = n := by rw [mI_length, hn]
  have c0 : (0 : Int) < a.length := by omega
  rw [hn] at n1 n4 ⊢
  refine Abs.Spec.walk mixed fn93 nn93 t93 q93 nt93 (by simp) ?_
  have fin : ∀ (r : Nat) (hr : r = 0 ∨ r = 1 ∨ r = 2) (hrk : Sp.rk (a.map Sp.pad) ≤ r) (fr : Fr) (_ : fr.get 0 = .sl nn t (mS a)) (_ : fr.get 3 = I r),
      W { P := Try.prog, B := 0, n := 72, rg := true } (retA 0 r93 fun v H' => H' = [] ∧ ∃ M : Nat, Sp.bnd (a.map Sp.pad) n ≤ M ∧ M ≤ 16 ∧ v = I M) c93T5 [] fr [] [] := fun r hr hrk fr e0 e3 => by
    have hbk := bound_ok n1 n4 hr hrk
    have e1 : IntKind.i64.wrap ((n : Int) - (r : Int)) = (n : Int) - r := wrap64 (by omega) (by omega)
    obtain ⟨c, hc⟩ : ∃ c : Int, (if r = 0 then 1 else if r = 1 then 2 else 8) = c := ⟨_, rfl⟩
    have p1 : (List.drop r [I 1, I 2, I 8]).headD any = I c := by rw [← hc]; rcases hr with rfl | rfl | rfl <;> rfl
    rw [hc] at hbk
    obtain ⟨m, hm'⟩ : ∃ m : Int, (if (n : Int) - r > 1 then (n : Int) - r else 1) = m := ⟨_, rfl⟩
    have hbk' : Sp.bnd (a.map Sp.pad) n ≤ m * c ∧ m * c ≤ 16 := by rw [← hm']; exact hbk
    have b0 : 0 ≤ Sp.bnd (a.map Sp.pad) n := by unfold Sp.bnd; split <;> (try split) <;> (try split) <;> omega
    have e2 : IntKind.i64.wrap (m * c) = m * c := wrap64 (by omega) (by omega)
    have rl : (r : Int) < (3 : Nat) := by omega
    simp only [w93T5, e0, e3, g0, gl, c0, e1, p1, hm', e2, rl, go_sem, Nat.reduceEqDiff, Nat.reduceAdd, Nat.reduceLT, Nat.reduceLeDiff, reduceIte, reduceCtorEq]
    refine ⟨Int.le_refl _, by omega, ?_⟩
    exact leaf (I _) rfl ⟨rfl, (m * c).toNat, by omega, by omega, by congr 2; omega⟩
  simp only [w93, go_sem, Nat.reduceEqDiff, Nat.reduceAdd, Nat.reduceLT, Nat.reduceLeDiff, reduceIte, reduceCtorEq]
  refine W_loop (fun q : { q : (List (List Int) × List (List Int)) × Nat // q.1.1 ++ q.1.2 = a ∧ (q.2 = 0 ∨ q.2 = 1) ∧ (q.2 = 0 → ∀ r ∈ q.1.1, Sp.numbers r 0 0 = true) } => ([(0, .sl nn t (mS a)), (3, I q.1.2), (8, .sl nn t (mS a)), (9, I a.length), (10, I q.1.1.1.length)], [])) (fun q => q.1.1.2.length) ⟨(([], a), 0), rfl, .inl rfl, by simp⟩ [] (Wk.nil (by simp [fle, vle, Fr.get, mS_bnd])) ?_
  rintro ⟨⟨⟨pre, suf⟩, r⟩, hp, hr, hz⟩
  dsimp only at hp hr hz ⊢
  cases suf with
  | cons s suf =>
    have s9 : s.length < 9223372036854775808 := ha s (by rw [← hp]; simp)
    have hll : (pre ++ s :: suf).length < 9223372036854775808 := by rw [hp]; exact hl
    have hw := rng_idx' hll
    subst hp
    simp only [w93L0, go_sem, Nat.reduceEqDiff, Nat.reduceAdd, Nat.reduceLT, Nat.reduceLeDiff, reduceIte, reduceCtorEq]
    refine CallK.pure (liftV (s131 false false s s9) (by simp [bndL, AVal.bnd, mI_bnd]) rfl _) ?_
    cases hs : Sp.numbers s 0 0 with
    | true =>
      simp only [hw, go_sem, Nat.reduceEqDiff, Nat.reduceAdd, Nat.reduceLT, Nat.reduceLeDiff, reduceIte, reduceCtorEq]
      refine round0 rfl ⟨((pre ++ [s], suf), r), by simp, hr, fun h x hx => ?_⟩ (by simp) rfl ?_
      · rcases List.mem_append.1 hx with hx | hx
        · exact hz h x hx
        · simp at hx; subst hx; exact hs
      · simp [fle, vle, Fr.get, mS_bnd]
    | false =>
      simp only [hw, go_sem, Nat.reduceEqDiff, Nat.reduceAdd, Nat.reduceLT, Nat.reduceLeDiff, reduceIte, reduceCtorEq]
      refine round0 rfl ⟨((pre ++ [s], suf), 1), by simp, .inr rfl, fun h => by cases h⟩ (by simp) rfl ?_
      simp [fle, vle, Fr.get, mS_bnd]
  | nil =>
    rw [List.append_nil] at hp
    subst hp
    have z0 : r = 0 → Sp.rk (pre.map Sp.pad) = 0 := fun h => rk_zero (fun x hx => (h3 x hx).2.2) (hz h)
    rcases (show (∃ x, pre = [x]) ∨ ∃ x y, pre = [x, y] by
      match pre, h1, h2 with
      | [x], _, _ => exact .inl ⟨x, rfl⟩
      | [x, y], _, _ => exact .inr ⟨x, y, rfl⟩) with ⟨x, rfl⟩ | ⟨x, y, rfl⟩
    · have t0 : (((1 : Nat) : Int) == 2) = false := rfl
      simp only [w93L0, w93T1, t0, go_sem, Nat.reduceEqDiff, Nat.reduceAdd, Nat.reduceLT, Nat.reduceLeDiff, reduceIte, reduceCtorEq]
      refine fin r (by omega) ?_ _ rfl rfl
      rcases hr with rfl | rfl
      · rw [z0 rfl]; omega
      · exact rk_single _
    · have t0 : (((2 : Nat) : Int) == 2) = true := rfl
      have c2 : (0 : Int) < (2 : Nat) := by decide
      simp only [w93L0, w93T1, t0, g0, gl, c2, go_sem, Nat.reduceEqDiff, Nat.reduceAdd, Nat.reduceLT, Nat.reduceLeDiff, reduceIte, reduceCtorEq]
      refine ⟨Int.le_refl _, ?_⟩
      have xn : x.length = n := hn
      have yn : y.length = n := by rw [← hn]; exact (h3 y (by simp)).1
      have ga : (mS [x, y]).getD 0 any = .sl false false (mI x) := rfl
      have gb : (mS [x, y]).getD 1 any = .sl false false (mI y) := rfl
      have tn1 : Int.toNat 1 = 1 := rfl
      have c3 : (1 : Int) < (2 : Nat) := by decide
      have bx := hb x (by simp)
      have by' := hb y (by simp)
      obtain ⟨P, hP⟩ : ∃ P : Nat → Nat → Prop, P = fun i j => x.getD i 0 * y.getD j 0 = x.getD j 0 * y.getD i 0 := ⟨_, rfl⟩
      obtain ⟨OK, hOK⟩ : ∃ OK : Nat → Nat → Nat → Prop, OK = fun i j k => k = 2 ∨ (k = r ∧ (∀ i' < i, ∀ j' < i', P i' j') ∧ ∀ j' < j, P i j') := ⟨_, rfl⟩
      refine W_loop (fun q : { q : Nat × Nat // q.1 ≤ n ∧ OK q.1 0 q.2 } => ([(0, .sl nn t (mS [x, y])), (3, I q.1.2), (24, I n), (25, I q.1.1)], [])) (fun q => n - q.1.1) ⟨(0, r), by omega, by rw [hOK]; exact .inr ⟨rfl, by simp, by simp⟩⟩ [] (Wk.nil (by simp [fle, vle, Fr.get, mS_bnd])) ?_
      rintro ⟨⟨i, k⟩, hi, hk⟩
      dsimp only at hi hk ⊢
      by_cases hin : i < n
      · have d1 : (i : Int) < n := by omega
        have hw : IntKind.i64.wrap ((i : Int) + 1) = (i : Int) + 1 := wrap64 (by omega) (by omega)
        simp only [w93L2, d1, go_sem, Nat.reduceEqDiff, Nat.reduceAdd, Nat.reduceLT, Nat.reduceLeDiff, reduceIte, reduceCtorEq]
        refine W_loop (fun q : { q : Nat × Nat // q.1 ≤ i ∧ OK i q.1 q.2 } => ([(0, .sl nn t (mS [x, y])), (3, I q.1.2), (6, I i), (24, I n), (25, I i), (28, I i), (29, I q.1.1)], [])) (fun q => i - q.1.1) ⟨(0, k), by omega, hk⟩ [] (Wk.nil (by simp [fle, vle, Fr.get, mS_bnd])) ?_
        rintro ⟨⟨j, k'⟩, hj, hk'⟩
        dsimp only at hj hk' ⊢
        by_cases hji : j < i
        · have d2 : (j : Int) < i := by omega
          have hwj : IntKind.i64.wrap ((j : Int) + 1) = (j : Int) + 1 := wrap64 (by omega) (by omega)
          have d3 : (j : Int) < n := by omega
          have p1 : (mI x).getD i any = I (x.getD i 0) := mI_get (by omega)
          have p2 : (mI x).getD j any = I (x.getD j 0) := mI_get (by omega)
          have p3 : (mI y).getD i any = I (y.getD i 0) := mI_get (by omega)
          have p4 : (mI y).getD j any = I (y.getD j 0) := mI_get (by omega)
          have m1 := Sp.mul_bound (Sp.inB_getD bx i).1 (Sp.inB_getD bx i).2 (Sp.inB_getD by' j).1 (Sp.inB_getD by' j).2
          have m2 := Sp.mul_bound (Sp.inB_getD bx j).1 (Sp.inB_getD bx j).2 (Sp.inB_getD by' i).1 (Sp.inB_getD by' i).2
          have hPij : P i j ↔ x.getD i 0 * y.getD j 0 = x.getD j 0 * y.getD i 0 := by rw [hP]
          obtain ⟨xi, e1⟩ : ∃ z, x.getD i 0 = z := ⟨_, rfl⟩
          obtain ⟨xj, e2⟩ : ∃ z, x.getD j 0 = z := ⟨_, rfl⟩
          obtain ⟨yi, e3⟩ : ∃ z, y.getD i 0 = z := ⟨_, rfl⟩
          obtain ⟨yj, e4⟩ : ∃ z, y.getD j 0 = z := ⟨_, rfl⟩
          rw [e1] at p1
          rw [e2] at p2
          rw [e3] at p3
          rw [e4] at p4
          rw [e1, e4] at m1
          rw [e2, e3] at m2
          rw [e1, e2, e3, e4] at hPij
          have w1 : IntKind.i64.wrap (xi * yj) = xi * yj := wrap64 (by omega) (by omega)
          have w2 : IntKind.i64.wrap (xj * yi) = xj * yi := wrap64 (by omega) (by omega)
          simp only [w93L3, d1, d2, d3, ga, gb, tn1, c2, c3, p1, p2, p3, p4, w1, w2, xn, yn, go_sem, Nat.reduceEqDiff, Nat.reduceAdd, Nat.reduceLT, Nat.reduceLeDiff, reduceIte, reduceCtorEq]
          repeat (refine And.intro (by decide) ?_)
          refine IC.split (fun h => ?_) fun h => ?_
          · simp only [hwj, go_sem, Nat.reduceEqDiff, Nat.reduceAdd, Nat.reduceLT, Nat.reduceLeDiff, reduceIte, reduceCtorEq]
            refine round0 rfl ⟨(j + 1, 2), by omega, by rw [hOK]; exact .inl rfl⟩ (by dsimp only; omega) rfl ?_
            simp [fle, vle, Fr.get, mS_bnd]
          · simp only [hwj, go_sem, Nat.reduceEqDiff, Nat.reduceAdd, Nat.reduceLT, Nat.reduceLeDiff, reduceIte, reduceCtorEq]
            have he : xi * yj = xj * yi := by simpa using h
            refine round0 rfl ⟨(j + 1, k'), by omega, ?_⟩ (by dsimp only; omega) rfl ?_
            · rw [hOK] at hk' ⊢
              rcases hk' with h | ⟨h1, h2, h3⟩
              · exact .inl h
              · refine .inr ⟨h1, h2, fun j' hj' => ?_⟩
                by_cases e : j' < j
                · exact h3 j' e
                · have : j' = j := by omega
                  subst this
                  exact hPij.2 he
            · simp [fle, vle, Fr.get, mS_bnd]
        · have d2 : ¬ (j : Int) < i := by omega
          have ej : j = i := by omega
          subst ej
          simp only [w93L3, w93T4, d2, hw, go_sem, Nat.reduceEqDiff, Nat.reduceAdd, Nat.reduceLT, Nat.reduceLeDiff, reduceIte, reduceCtorEq]
          refine round0 rfl ⟨(j + 1, k'), by omega, ?_⟩ (by dsimp only; omega) rfl ?_
          · rw [hOK] at hk' ⊢
            rcases hk' with h | ⟨h1, h2, h3⟩
            · exact .inl h
            · refine .inr ⟨h1, fun i' hi' j' hj' => ?_, by simp⟩
              by_cases e : i' < j
              · exact h2 i' e j' hj'
              · have : i' = j := by omega
                subst this
                exact h3 j' hj'
          · simp [fle, vle, Fr.get, mS_bnd]
      · have d1 : ¬ (i : Int) < n := by omega
        have ei : i = n := by omega
        subst ei
        simp only [w93L2, d1, go_sem, Nat.reduceEqDiff, Nat.reduceAdd, Nat.reduceLT, Nat.reduceLeDiff, reduceIte, reduceCtorEq]
        rw [hOK, hP] at hk
        refine fin k (by rcases hk with h | ⟨h, -⟩ <;> omega) ?_ _ rfl rfl
        rcases hk with h | ⟨h, h2, -⟩
        · rw [h]; exact rk_le2 _
        · rcases hr with rfl | rfl
          · rw [z0 rfl]; omega
          · rw [h]; exact rk_one (fun i j hj hi => h2 i (by omega) j hj) (by omega) (by omega)
end Go.Proofs.Ytipfjfmdjmaflaa
