/- Contracts: the reference's first order, and the statement's function. -/
import Derived.Test.YtkmmngphcodjjaaBR
namespace Go.Proofs.Ytkmmngphcodjjaa
open Go.Abs AVal
set_option linter.unusedSimpArgs false
attribute [local go_sem] W_skip W_keep KQ_canon canon Fr.norm W_seq W_block W_exit W_ret W_ops W_draw KQ_nil KQ_norm_seq KQ_exit_seq KQ_ret_seq KQ_norm_block KQ_ret_block KQ_exit_block KQ_exit_loop KQ_ret_loop O_nil O_cons S_call S_mv SE_mv SD_mv S_pick SE_pick SD_pick S_bin SE_bin SD_bin S_eqb SE_eqb SD_eqb S_eqv SE_eqv SD_eqv S_eqnil SE_eqnil SD_eqnil S_un SE_un SD_un S_conv SE_conv SD_conv S_mkfn SE_mkfn SD_mkfn S_load SE_load SD_load S_nilck SE_nilck SD_nilck S_slS SE_slS SD_slS S_slP SE_slP SD_slP S_fldA SE_fldA SD_fldA S_fld SE_fld SD_fld S_ixS SE_ixS SD_ixS S_ixP SE_ixP SD_ixP S_ixV SE_ixV SD_ixV S_ixStr SE_ixStr SD_ixStr S_ext SE_ext SD_ext S_len SE_len SD_len S_lenStr SE_lenStr SD_lenStr S_lenc SE_lenc SD_lenc S_mn SE_mn SD_mn S_mx SE_mx SD_mx S_build SE_build SD_build S_alloc SD_alloc S_box SD_box S_bslice SD_bslice S_mksl SD_mksl S_store SD_store S_append SD_append S_copy SD_copy S_clr SD_clr aq_some aa_some al_some aqd_some aad_some ald_some ape_some D_done D_both D_early D_step SE_call SD_call IOpd.ev Fr.get Fr.put Fr.putd entryFr pickA binA binI isSh shI eqbA eqvA ints ints_mI Option.map_some eqnilA unA convA loadA nilckA intA slSA slPA fldAA fldVA ixSA ixPA ixVA ixStrA extA lenA lenStrA mnA mxA AVal.fits fillA fillOk buildA opa srcA appA stoA copA clrA rdFree zeros List.length_nil List.length_cons List.length_map List.map_cons List.map_nil Option.map_some Option.map_none if_true if_false ite_true ite_false true_and and_true and_self implies_true forall_const true_implies Bool.false_eq_true Bool.not_true Bool.not_false decide_eq_true_eq decide_eq_false_iff_not eq_self List.getElem?_cons_zero List.getElem?_cons_succ List.getElem?_nil List.set_cons_zero List.set_cons_succ List.nil_append List.cons_append List.append_nil List.replicate_zero List.replicate_succ Nat.zero_add false_implies rng_lt rng_end rng_get cells_I cells_B cells_sl cut_one Int.toNat_natCast Int.natCast_nonneg List.headD_cons Int.lt_irrefl not_false_eq_true decide_false decide_true mI_length mI_cells mI_sz mI_isCell mI_mid mI_append mI_take mI_drop cells_val cells_own cells_agg isCell_I isCell_B isCell_nil isCell_sl isCell_own isCell_ptr isCell_fn isCell_rp isCell_yld cellsOk_I cellsOk_B cellsOk_nil cellsOk_sl cellsOk_own cellsOk_ptr cellsOk_fn cellsOk_rp cellsOk_yld cellsOk_agg cells_nil cells_ptr cells_fn cells_rp List.all_cons List.all_nil Bool.and_true Nat.mul_one Nat.zero_mul Nat.one_mul List.take_zero List.take_nil List.drop_nil List.drop_zero List.not_mem_nil Nat.le_refl Nat.zero_le mS_length mS_cells mS_sz mS_isCell mS_mid mS_append mS_take mS_drop cells_sI isCell_sI cellsOk_sI sI_eq succ_le_self' List.take_succ_cons List.drop_succ_cons List.take_length beq_self_eq_true List.mem_cons or_false forall_eq mI_put mI_rep O_guard' D_earlyG' D_stepG' W_cond' G_tt G_tf G_ft G_ff GE_tt GE_tf GE_ft GE_ff GS_tt GS_tf GS_ft GS_ff G_u GE_u GS_u IC_t IC_f xft xff xtt xtf z00 z20 z22 z02 zz tn0

theorem take_succ_eq {T d : List Int} {i : Nat} (hT : i < T.length) (hd : i < d.length) : (T.take (i + 1) == d.take (i + 1)) = ((T.take i == d.take i) && (T.getD i 0 == d.getD i 0)) := by
  rw [Bool.eq_iff_iff, Bool.and_eq_true, beq_iff_eq, beq_iff_eq, beq_iff_eq, List.take_add_one, List.take_add_one, List.getElem?_eq_getElem hT, List.getElem?_eq_getElem hd, List.getD_eq_getElem?_getD, List.getD_eq_getElem?_getD, List.getElem?_eq_getElem hT, List.getElem?_eq_getElem hd]
  simp only [Option.toList_some, Option.getD_some]
  constructor
  · intro h
    have := List.append_inj' h rfl
    simpa using this
  · rintro ⟨h1, h2⟩; rw [h1, h2]

def orderR (w : List (List Int)) (d : List Int) : AVal := match orderP w d with
  | some o => .tup [.sl false false (mI o), I 0]
  | none => .tup [.sl false false (mI []), I 4]

set_option maxHeartbeats 2000000 in
theorem s33 (w : List (List Int)) (d : List Int) (g : Sp.Good w) (hd : d.length = w.length) :
    Abs.Spec Try.prog 33 [.sl false false (mS w), .sl false false (mI d)] [] fun v H' => H' = [] ∧ v = orderR w d := by
  have g1 := g.n1
  have g6 := g.n6
  obtain ⟨m, hm⟩ : ∃ m, m + 1 = w.length := ⟨w.length - 1, by omega⟩
  have hcall := s64nil (n := w.length) g6 m hm
  have hall : Sp.dealsR w.length (m + 1) [] = Sp.allDeals w.length := by rw [hm]; rfl
  rw [hall] at hcall
  have hAl : (Sp.allDeals w.length).length ≤ 6 ^ 6 := Nat.le_trans (deals_len g6 w.length []) (Nat.pow_le_pow_right (by omega) g6)
  refine Abs.Spec.walk mixed fn33 nn33 t33 q33 nt33 (by simp) ?_
  simp only [w33, go_sem, Nat.reduceEqDiff, Nat.reduceAdd, Nat.reduceLT, Nat.reduceLeDiff, reduceIte, reduceCtorEq]
  refine CallK.by (CallV.of_spec hcall) fun v H' ⟨h1, h2⟩ => ?_
  subst h1 h2
  simp only [go_sem, Nat.reduceEqDiff, Nat.reduceAdd, Nat.reduceLT, Nat.reduceLeDiff, reduceIte, reduceCtorEq]
  refine W_loop (fun q : { q : List (List Int) × List (List Int) // q.1 ++ q.2 = Sp.allDeals w.length ∧ q.1.find? (fun o => Sp.turnsP w o == d) = none } => ([(0, .sl false false (mS w)), (1, .sl false false (mI d)), (13, .sl false false (mS (Sp.allDeals w.length))), (14, I (Sp.allDeals w.length).length), (15, I q.1.1.length)], [])) (fun q => q.1.2.length)
    ⟨([], _), rfl, rfl⟩ [] (Wk.nil (by simp [fle, vle, Fr.get, mS_bnd, mI_bnd])) ?_
  rintro ⟨⟨pre, suf⟩, hp, hnone⟩
  dsimp only at hp hnone
  have hlen : (pre ++ suf).length < 9223372036854775808 := by rw [hp]; omega
  simp only [← hp]
  cases suf with
  | nil =>
    have hP : orderP w d = none := by rw [orderP, ← hp, List.append_nil]; exact hnone
    simp only [w33L0, w33T4, go_sem, Nat.reduceEqDiff, Nat.reduceAdd, Nat.reduceLT, Nat.reduceLeDiff, reduceIte, reduceCtorEq]
    exact leaf2 (.tup [.sl false false (mI []), I 4]) ⟨⟨mI_bnd, rfl, rfl⟩, rfl, trivial⟩ ⟨rfl, by rw [orderR, hP]⟩
  | cons o suf =>
    have ho : o ∈ Sp.allDeals w.length := by rw [← hp]; simp
    obtain ⟨hol, hor⟩ := Sp.all_ok ho
    obtain ⟨T, hT⟩ : ∃ T, T = Sp.turnsP w o := ⟨_, rfl⟩
    have hTl : T.length = w.length := by rw [hT, Sp.turnsP_len]
    simp only [w33L0, go_sem, Nat.reduceEqDiff, Nat.reduceAdd, Nat.reduceLT, Nat.reduceLeDiff, reduceIte, reduceCtorEq]
    refine CallK.pure (CallV.of_spec (Spec.lift (s32 false false false false w o g (by omega) hor) (by simp [bndL, AVal.bnd, mS_bnd, mI_bnd]) (by simp [AVal.bnd, mI_bnd]) [])) ?_
    rw [← hT]
    simp only [go_sem, Nat.reduceEqDiff, Nat.reduceAdd, Nat.reduceLT, Nat.reduceLeDiff, reduceIte, reduceCtorEq]
    refine W_loop (fun q : { i : Nat // i ≤ w.length } => ([(0, .sl false false (mS w)), (1, .sl false false (mI d)), (7, .sl false false (mI o)), (8, B (T.take q.1 == d.take q.1)), (13, .sl false false (mS (pre ++ o :: suf))), (14, I (pre ++ o :: suf).length), (15, I pre.length), (21, .sl false false (mI T)), (22, I T.length), (23, I q.1)], [])) (fun q => w.length - q.1)
      ⟨0, by omega⟩ [] (Wk.nil (by simp [fle, vle, Fr.get, mS_bnd, mI_bnd])) ?_
    rintro ⟨i, hin⟩
    dsimp only
    by_cases hi : i < w.length
    · have hz : decide ((i : Int) < T.length) = true := decide_eq_true (by omega)
      have hiT : i < T.length := by omega
      have hid : i < d.length := by omega
      have hwi : IntKind.i64.wrap ((i : Int) + 1) = i + 1 := wrap64 (by omega) (by omega)
      have hs := take_succ_eq hiT hid
      simp only [w33L1, hz, mI_get, mI_hd, hiT, hid, go_sem, Nat.reduceEqDiff, Nat.reduceAdd, Nat.reduceLT, Nat.reduceLeDiff, reduceIte, reduceCtorEq]
      refine ⟨by omega, ?_⟩
      refine G.split (fun h => ?_) fun h => ?_
      · rw [h, Bool.true_and] at hs
        simp only [mI_get, mI_hd, hid, go_sem, Nat.reduceEqDiff, Nat.reduceAdd, Nat.reduceLT, Nat.reduceLeDiff, reduceIte, reduceCtorEq]
        refine ⟨by omega, ?_⟩
        refine round0 rfl ⟨i + 1, by omega⟩ (by dsimp only; omega) rfl ?_
        dsimp only
        rw [hs]
        simp [fle, vle, Fr.get, mS_bnd, mI_bnd, hwi]
      · rw [h, Bool.false_and] at hs
        simp only [go_sem, Nat.reduceEqDiff, Nat.reduceAdd, Nat.reduceLT, Nat.reduceLeDiff, reduceIte, reduceCtorEq]
        refine round0 rfl ⟨i + 1, by omega⟩ (by dsimp only; omega) rfl ?_
        dsimp only
        rw [hs]
        simp [fle, vle, Fr.get, mS_bnd, mI_bnd, hwi]
    · have hz : decide ((i : Int) < T.length) = false := decide_eq_false (by omega)
      obtain rfl : i = w.length := by omega
      have hfull : (T.take w.length == d.take w.length) = (T == d) := by
        rw [List.take_of_length_le (by omega), List.take_of_length_le (by omega)]
      rw [hfull]
      simp only [w33L1, hz, w33T2, go_sem, Nat.reduceEqDiff, Nat.reduceAdd, Nat.reduceLT, Nat.reduceLeDiff, reduceIte, reduceCtorEq]
      refine IC.split (fun h => ?_) fun h => ?_
      · have hP : orderP w d = some o := by
          rw [orderP, ← hp, List.find?_append, hnone, List.find?_cons, ← hT, h]; rfl
        simp only [go_sem, Nat.reduceEqDiff, Nat.reduceAdd, Nat.reduceLT, Nat.reduceLeDiff, reduceIte, reduceCtorEq]
        exact leaf2 (.tup [.sl false false (mI o), I 0]) ⟨⟨mI_bnd, fun h => h, fun h => h, rfl⟩, rfl, trivial⟩ ⟨rfl, by rw [orderR, hP]⟩
      · simp only [w33T3, go_sem, Nat.reduceEqDiff, Nat.reduceAdd, Nat.reduceLT, Nat.reduceLeDiff, reduceIte, reduceCtorEq]
        refine round0 rfl ⟨(pre ++ [o], suf), by simp [hp], by rw [List.find?_append, hnone, List.find?_cons, ← hT, h]; rfl⟩ (by simp) rfl ?_
        simp [fle, vle, Fr.get, mS_bnd, mI_bnd, rng_idx' hlen, hp]

set_option maxHeartbeats 2000000 in
set_option maxRecDepth 20000 in
/-- The second half: the order. -/
theorem s7second (w : List (List Int)) (d : List Int) (hw : ∀ l ∈ w, l.length < 9223372036854775808) (hl : w.length < 9223372036854775808) (hd : d.length < 9223372036854775808) (P : List Int) (e : Int)
    (hP : if Sp.valid w && Sp.isOrder d w.length then AVal.tup [.sl false false (mI P), I e] = orderR w d else P = [] ∧ e = 2)
    (fr : Fr) (f0 : fr.get 0 = .sl false false (mS w)) (f2 : fr.get 2 = .sl false false (mI d)) (f9 : fr.get 9 = .sl false false (mI P)) (f10 : fr.get 10 = I e) :
    W ⟨Try.prog, 0, 80, true⟩ (retA 0 r7 fun v H' => H' = [] ∧ v = B true) c7T0 [] fr [] [] := by
  simp only [w7T0, List.map_cons, List.map_nil, f0, f2, f9, f10, go_sem, Nat.reduceEqDiff, Nat.reduceAdd, Nat.reduceLT, Nat.reduceLeDiff, reduceIte, reduceCtorEq]
  refine CallK.by (CallV.of_spec (s28 false false false false w d hw hl hd)) fun v H' ⟨h1, h2⟩ => ?_
  subst h1 h2
  have hsame : (Sp.valid w && Sp.all d w.length) = (Sp.valid w && Sp.isOrder d w.length) := by
    cases hv : Sp.valid w with
    | false => rfl
    | true => rw [Sp.all_eq (Sp.valid_good hv).n6]
  rw [hsame]
  have zl : (((0 : Nat) : Int) == 0) = true := rfl
  cases hk : (Sp.valid w && Sp.isOrder d w.length) with
  | false =>
    rw [hk] at hP
    obtain ⟨rfl, rfl⟩ := hP
    simp only [zl, go_sem, Nat.reduceEqDiff, Nat.reduceAdd, Nat.reduceLT, Nat.reduceLeDiff, reduceIte, reduceCtorEq]
    refine CallK.by (CallV.of_spec s19) fun v H' ⟨h1, h2⟩ => ?_
    subst h1 h2
    simp only [go_sem, Nat.reduceEqDiff, Nat.reduceAdd, Nat.reduceLT, Nat.reduceLeDiff, reduceIte, reduceCtorEq]
    exact leaf (B true) rfl ⟨rfl, rfl⟩
  | true =>
    rw [hk, if_pos rfl] at hP
    rw [Bool.and_eq_true] at hk
    have g := Sp.valid_good hk.1
    have hdl := (Sp.order_spec g.n6 hk.2).1
    have hPl : P.length < 9223372036854775808 := by
      have hP' := hP
      unfold orderR at hP'
      cases ho : orderP w d with
      | none =>
        rw [ho] at hP'
        injection hP' with h
        injection h with h _
        injection h with _ _ h
        have := congrArg List.length h
        rw [mI_length] at this
        rw [this]; decide
      | some o =>
        rw [ho] at hP'
        injection hP' with h
        injection h with h _
        injection h with _ _ h
        have := congrArg List.length h
        rw [mI_length, mI_length] at this
        have := (Sp.all_ok (List.mem_of_find?_eq_some ho)).1
        have := g.n6
        omega
    simp only [w7T1, go_sem, Nat.reduceEqDiff, Nat.reduceAdd, Nat.reduceLT, Nat.reduceLeDiff, reduceIte, reduceCtorEq]
    refine CallK.by (CallV.of_spec (s33 w d g hdl)) fun v H' ⟨h1, h2⟩ => ?_
    subst h1 h2
    rw [← hP]
    simp only [List.getD_cons_zero, List.getD_cons_succ, go_sem, Nat.reduceEqDiff, Nat.reduceAdd, Nat.reduceLT, Nat.reduceLeDiff, reduceIte, reduceCtorEq]
    refine CallK.by (CallV.of_spec (s20 false false false false P P hPl)) fun v H' ⟨h1, h2⟩ => ?_
    subst h1 h2
    rw [beq_self_eq_true]
    simp only [go_sem, Nat.reduceEqDiff, Nat.reduceAdd, Nat.reduceLT, Nat.reduceLeDiff, reduceIte, reduceCtorEq]
    refine CallK.by (CallV.of_spec s19) fun v H' ⟨h1, h2⟩ => ?_
    subst h1 h2
    simp only [go_sem, Nat.reduceEqDiff, Nat.reduceAdd, Nat.reduceLT, Nat.reduceLeDiff, reduceIte, reduceCtorEq]
    exact leaf (B true) rfl ⟨rfl, rfl⟩

theorem take_ok {w : List (List Int)} {x : List Int} : (Sp.valid (Sp.table w) && Sp.isOrder (x.take 9) (Sp.table w).length) = (Sp.valid w && Sp.isOrder x w.length) ∧ ((Sp.valid w && Sp.isOrder x w.length) = true → Sp.table w = w ∧ x.take 9 = x) := by
  rw [Sp.table_valid]
  cases hv : Sp.valid w with
  | false => exact ⟨by rw [Bool.false_and, Bool.false_and], fun h => by rw [Bool.false_and] at h; cases h⟩
  | true =>
    have g := Sp.valid_good hv
    have ht := Sp.take_valid w hv
    rw [ht, Sp.take_order g.n6]
    refine ⟨rfl, fun h => ⟨rfl, ?_⟩⟩
    rw [Bool.true_and] at h
    have := (Sp.order_spec g.n6 h).1
    have := g.n6
    exact List.take_of_length_le (by omega)

set_option maxHeartbeats 2000000 in
set_option maxRecDepth 20000 in
theorem s7 (w : List (List Int)) (x d : List Int) (hw : ∀ l ∈ w, l.length < 9223372036854775808) (hl : w.length < 9223372036854775808) (hx : x.length < 9223372036854775808) (hd : d.length < 9223372036854775808) :
    Abs.Spec Try.prog 7 [.sl false false (mS w), .sl false false (mI x), .sl false false (mI d)] [] fun v H' => H' = [] ∧ v = B true := by
  obtain ⟨hw', hl'⟩ := tab_len hw hl
  have hx9 : (x.take 9).length < 9223372036854775808 := by simp; omega
  have hd9 : (d.take 9).length < 9223372036854775808 := by simp; omega
  refine Abs.Spec.walk mixed fn7 nn7 t7 q7 nt7 (by simp) ?_
  simp only [w7, go_sem, Nat.reduceEqDiff, Nat.reduceAdd, Nat.reduceLT, Nat.reduceLeDiff, reduceIte, reduceCtorEq]
  refine CallK.by (CallV.of_spec (s16 false false w hw hl)) fun v H' ⟨h1, h2⟩ => ?_
  subst h1 h2
  simp only [go_sem, Nat.reduceEqDiff, Nat.reduceAdd, Nat.reduceLT, Nat.reduceLeDiff, reduceIte, reduceCtorEq]
  refine CallK.by (CallV.of_spec (s27 false false x hx)) fun v H' ⟨h1, h2⟩ => ?_
  subst h1 h2
  simp only [go_sem, Nat.reduceEqDiff, Nat.reduceAdd, Nat.reduceLT, Nat.reduceLeDiff, reduceIte, reduceCtorEq]
  refine CallK.by (CallV.of_spec (s30 (Sp.table w) (x.take 9) hw' hl' hx9)) fun v H' ⟨h1, h2⟩ => ?_
  subst h1 h2
  obtain ⟨A, ea, hA, hAe⟩ : ∃ A ea, (if Sp.valid (Sp.table w) && Sp.isOrder (x.take 9) (Sp.table w).length then AVal.tup [.sl false false (mI (Sp.turnsP (Sp.table w) (x.take 9))), I 0] else .tup [.sl false false (mI []), I 2]) = .tup [.sl false false (mI A), I ea] ∧ if Sp.valid w && Sp.isOrder x w.length then A = Sp.turnsP w x ∧ ea = 0 else A = [] ∧ ea = 2 := by
    rw [take_ok.1]
    cases hk : (Sp.valid w && Sp.isOrder x w.length) with
    | false => exact ⟨_, _, rfl, rfl, rfl⟩
    | true =>
      obtain ⟨t1, t2⟩ := take_ok.2 hk
      rw [t1, t2]
      exact ⟨_, _, rfl, rfl, rfl⟩
  rw [hA]
  simp only [List.getD_cons_zero, List.getD_cons_succ, go_sem, Nat.reduceEqDiff, Nat.reduceAdd, Nat.reduceLT, Nat.reduceLeDiff, reduceIte, reduceCtorEq]
  refine CallK.by (CallV.of_spec (s16 false false w hw hl)) fun v H' ⟨h1, h2⟩ => ?_
  subst h1 h2
  simp only [go_sem, Nat.reduceEqDiff, Nat.reduceAdd, Nat.reduceLT, Nat.reduceLeDiff, reduceIte, reduceCtorEq]
  refine CallK.by (CallV.of_spec (s27 false false d hd)) fun v H' ⟨h1, h2⟩ => ?_
  subst h1 h2
  simp only [go_sem, Nat.reduceEqDiff, Nat.reduceAdd, Nat.reduceLT, Nat.reduceLeDiff, reduceIte, reduceCtorEq]
  refine CallK.by (CallV.of_spec (s31 (Sp.table w) (d.take 9) hw' hl' hd9)) fun v H' ⟨h1, h2⟩ => ?_
  subst h1 h2
  obtain ⟨P, e, hPe, hP⟩ : ∃ P e, orderA (Sp.table w) (d.take 9) = .tup [.sl false false (mI P), I e] ∧ if Sp.valid w && Sp.isOrder d w.length then AVal.tup [.sl false false (mI P), I e] = orderR w d else P = [] ∧ e = 2 := by
    unfold orderA
    rw [take_ok.1]
    cases hk : (Sp.valid w && Sp.isOrder d w.length) with
    | false => exact ⟨_, _, rfl, rfl, rfl⟩
    | true =>
      obtain ⟨t1, t2⟩ := take_ok.2 hk
      rw [t1, t2]
      unfold orderR
      cases orderP w d with
      | none => exact ⟨_, _, rfl, rfl⟩
      | some o => exact ⟨_, _, rfl, rfl⟩
  rw [hPe]
  simp only [List.getD_cons_zero, List.getD_cons_succ, go_sem, Nat.reduceEqDiff, Nat.reduceAdd, Nat.reduceLT, Nat.reduceLeDiff, reduceIte, reduceCtorEq]
  refine CallK.by (CallV.of_spec (s28 false false false false w x hw hl hx)) fun v H' ⟨h1, h2⟩ => ?_
  subst h1 h2
  have hsame : (Sp.valid w && Sp.all x w.length) = (Sp.valid w && Sp.isOrder x w.length) := by
    cases hv : Sp.valid w with
    | false => rfl
    | true => rw [Sp.all_eq (Sp.valid_good hv).n6]
  rw [hsame]
  have zl : (((0 : Nat) : Int) != 0) = false := rfl
  have z22' : ((2 : Int) != 2) = false := rfl
  cases hk : (Sp.valid w && Sp.isOrder x w.length) with
  | false =>
    rw [hk] at hAe
    obtain ⟨rfl, rfl⟩ := hAe
    simp only [zl, z22', go_sem, Nat.reduceEqDiff, Nat.reduceAdd, Nat.reduceLT, Nat.reduceLeDiff, reduceIte, reduceCtorEq]
    exact s7second w d hw hl hd P e hP _ rfl rfl rfl rfl
  | true =>
    rw [hk] at hAe
    obtain ⟨rfl, rfl⟩ := hAe
    rw [Bool.and_eq_true] at hk
    have g := Sp.valid_good hk.1
    obtain ⟨hxl, hxr, -⟩ := Sp.order_spec g.n6 hk.2
    have htl := Sp.turnsP_len w x
    have g6 := g.n6
    simp only [go_sem, Nat.reduceEqDiff, Nat.reduceAdd, Nat.reduceLT, Nat.reduceLeDiff, reduceIte, reduceCtorEq]
    refine CallK.by (CallV.of_spec (s32 false false false false w x g (by omega) hxr)) fun v H' ⟨h1, h2⟩ => ?_
    subst h1 h2
    simp only [go_sem, Nat.reduceEqDiff, Nat.reduceAdd, Nat.reduceLT, Nat.reduceLeDiff, reduceIte, reduceCtorEq]
    refine CallK.by (CallV.of_spec (s20 false false false false (Sp.turnsP w x) (Sp.turnsP w x) (by omega))) fun v H' ⟨h1, h2⟩ => ?_
    subst h1 h2
    rw [beq_self_eq_true]
    simp only [go_sem, Nat.reduceEqDiff, Nat.reduceAdd, Nat.reduceLT, Nat.reduceLeDiff, reduceIte, reduceCtorEq]
    exact s7second w d hw hl hd P e hP _ rfl rfl rfl rfl
end Go.Proofs.Ytkmmngphcodjjaa
