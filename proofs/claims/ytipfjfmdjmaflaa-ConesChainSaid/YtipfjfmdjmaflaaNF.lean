/- Contracts: Best and Step of the program. -/
import Derived.Test.YtipfjfmdjmaflaaNE
namespace Go.Proofs.Ytipfjfmdjmaflaa
open Go.Abs AVal
set_option linter.unusedSimpArgs false
attribute [local go_sem] W_skip W_keep KQ_canon canon Fr.norm W_seq W_block W_scope W_exit W_ret W_ops W_draw KQ_nil KQ_norm_seq KQ_exit_seq KQ_ret_seq KQ_norm_block KQ_ret_block KQ_exit_block KQ_exit_loop KQ_ret_loop O_nil O_cons S_call S_mv SE_mv SD_mv S_pick SE_pick SD_pick S_bin SE_bin SD_bin S_eqb SE_eqb SD_eqb S_eqv SE_eqv SD_eqv S_eqnil SE_eqnil SD_eqnil S_un SE_un SD_un S_conv SE_conv SD_conv S_mkfn SE_mkfn SD_mkfn S_load SE_load SD_load S_nilck SE_nilck SD_nilck S_slS SE_slS SD_slS S_slP SE_slP SD_slP S_fldA SE_fldA SD_fldA S_fld SE_fld SD_fld S_ixS SE_ixS SD_ixS S_ixP SE_ixP SD_ixP S_ixV SE_ixV SD_ixV S_ixStr SE_ixStr SD_ixStr S_ext SE_ext SD_ext S_len SE_len SD_len S_lenStr SE_lenStr SD_lenStr S_lenc SE_lenc SD_lenc S_mn SE_mn SD_mn S_mx SE_mx SD_mx S_build SE_build SD_build S_alloc SD_alloc S_box SD_box S_bslice SD_bslice S_mksl SD_mksl S_store SD_store S_append SD_append S_copy SD_copy S_clr SD_clr aq_some aa_some al_some aqd_some aad_some ald_some ape_some D_done D_both D_early D_step SE_call SD_call IOpd.ev Fr.get Fr.put Fr.putd entryFr pickA binA binI isSh shI eqbA eqvA ints ints_mI Option.map_some eqnilA unA convA loadA nilckA intA slSA slPA fldAA fldVA ixSA ixPA ixVA ixStrA extA lenA lenStrA mnA mxA AVal.fits fillA fillOk buildA opa srcA appA stoA copA clrA rdFree zeros List.length_nil List.length_cons List.length_map List.map_cons List.map_nil Option.map_some Option.map_none if_true if_false ite_true ite_false true_and and_true and_self implies_true forall_const true_implies Bool.false_eq_true Bool.not_true Bool.not_false decide_eq_true_eq decide_eq_false_iff_not eq_self List.getElem?_cons_zero List.getElem?_cons_succ List.getElem?_nil List.set_cons_zero List.set_cons_succ List.nil_append List.cons_append List.append_nil List.replicate_zero List.replicate_succ Nat.zero_add false_implies rng_lt rng_end rng_get cells_I cells_B cells_sl cut_one Int.toNat_natCast Int.natCast_nonneg List.headD_cons Int.lt_irrefl not_false_eq_true decide_false decide_true mI_length mI_cells mI_sz mI_isCell mI_mid mI_append mI_take mI_drop cells_val cells_own cells_agg isCell_I isCell_B isCell_nil isCell_sl isCell_own isCell_ptr isCell_fn isCell_rp isCell_yld cellsOk_I cellsOk_B cellsOk_nil cellsOk_sl cellsOk_own cellsOk_ptr cellsOk_fn cellsOk_rp cellsOk_yld cellsOk_agg cells_nil cells_ptr cells_fn cells_rp List.all_cons List.all_nil Bool.and_true Nat.mul_one Nat.zero_mul Nat.one_mul List.take_zero List.take_nil List.drop_nil List.drop_zero List.not_mem_nil Nat.le_refl Nat.zero_le mS_length mS_cells mS_sz mS_isCell mS_mid mS_append mS_take mS_drop cells_sI isCell_sI cellsOk_sI sI_eq succ_le_self' List.take_succ_cons List.drop_succ_cons List.take_length beq_self_eq_true List.mem_cons or_false forall_eq mI_put mI_rep O_guard' D_earlyG' D_stepG' W_cond' G_tt G_tf G_ft G_ff GE_tt GE_tf GE_ft GE_ff GS_tt GS_tf GS_ft GS_ff G_u GE_u GS_u IC_t IC_f xft xff xtt xtf z00 z20 z22 z02 zz tn0

theorem leafCCT {ag ag' : Bool} {k t k' t' u : Nat} {e : Ex} {fr : Fr} {H : AHeap} {R : AVal → AHeap → Prop} (x y v : AVal) {p q : Prop} (h : loadA ag k (fr.get t) H = some (p, x)) (h' : loadA ag' k' (fr.get t') H = some (q, y)) (hp : p) (hq : q) (hv : vle H [] [] 3 (.tup [x, y, fr.get u]) v) (hR : R v []) (he : e = .norm ∨ e = .ret := by simp) : retA 0 [.cell ag k t, .cell ag' k' t', .tmp u] R e fr H [] :=
  retA_nil he (p := p ∧ q ∧ True ∧ True) (vs := [x, y, fr.get u]) (by simp [resL, resA, h, h']) ⟨hp, hq, trivial, trivial⟩ hv hR
theorem taskV_bnd {rows : List (List Int)} {n : Int} {bs : List (List Int)} {X : List Int} : (taskV rows n bs X).bnd 0 = true := by simp [taskV, AVal.bnd, bndL, mV_bnd, mI_bnd]
theorem openR_bnd {a : List (List Int)} {x : List Int} {most : Int} {v : AVal} (h : openR a x most v) : v.bnd 0 = true := by
  rcases h with ⟨-, rfl⟩ | ⟨-, bs, -, rfl⟩
  · simp [zT, AVal.bnd, bndL]
  · simp [AVal.bnd, bndL, taskV_bnd]
/-- Whether these are a vector and prices. -/
def prOk (a : List (List Int)) (x p : List Int) (most : Int) : Bool := Sp.vecOk a x 0 most && (decide (p.length = (a.getD 0 []).length) && Sp.numbers p (-9) 9)
/-- The answer of priced. -/
def pricedR (a : List (List Int)) (x p : List Int) (most : Int) (v : AVal) : Prop :=
  (prOk a x p most = false ∧ ∃ cs : List AVal, cs.all AVal.isCell = true ∧ cs.length = 7 ∧ bndL 0 cs = true ∧ v = .tup [.agg cs, vec [0, 0, 0, 0], I 2]) ∨
  (prOk a x p most = true ∧ ∃ bs, IsB (a.map Sp.pad) (a.getD 0 []).length bs ∧ v = .tup [taskV (a.map Sp.pad) (a.getD 0 []).length bs (Sp.pad x), vec (Sp.pad p), I (if bs.any posV then 5 else 0)])
set_option maxRecDepth 20000 in
set_option maxHeartbeats 4000000 in
theorem s80 (a : List (List Int)) (x p : List Int) (most : Int) (ha : ∀ l ∈ a, l.length < 9223372036854775808) (hl : a.length < 9223372036854775808) (hx : x.length < 9223372036854775808) (hp : p.length < 9223372036854775808) :
    Abs.Spec Try.prog 80 [.sl false false (mS a), .sl false false (mI x), .sl false false (mI p), I most] [] fun v H' => H' = [] ∧ pricedR a x p most v := by
  refine Abs.Spec.walk mixed fn80 nn80 t80 q80 nt80 (by simp) ?_
  simp only [w80, go_sem, Nat.reduceEqDiff, Nat.reduceAdd, Nat.reduceLT, Nat.reduceLeDiff, reduceIte, reduceCtorEq]
  refine CallK.by (CallV.of_spec (first := []) (cap := []) (Spec.liftE (s98 a x most ha hl hx) (by simp [bndL, AVal.bnd, mS_bnd, mI_bnd]) (fun v hr => openR_bnd hr) _)) fun v H' ⟨hr, hH⟩ => ?_
  subst hH
  have g7 : ∀ cs : List AVal, cs.length = 7 → cut true 7 cs = .agg cs := fun cs h => by show AVal.agg (List.take 7 _) = _; rw [List.take_of_length_le (by omega)]
  rcases hr with ⟨hv, rfl⟩ | ⟨hv, bs, hB, rfl⟩
  · have gz := g7 [nilSl, I 0, nilSl, I 0, I 0, I 0, I 0] rfl
    simp only [zT, List.getD_cons_zero, List.getD_cons_succ, gz, go_sem, Nat.reduceEqDiff, Nat.reduceAdd, Nat.reduceLT, Nat.reduceLeDiff, reduceIte, reduceCtorEq]
    exact leafCCT (cut true 7 [nilSl, I 0, nilSl, I 0, I 0, I 0, I 0]) (cut true 4 [I 0, I 0, I 0, I 0]) (.tup [.agg [nilSl, I 0, nilSl, I 0, I 0, I 0, I 0], vec [0, 0, 0, 0], I 2]) rfl rfl ⟨by decide, fun h => by cases h⟩ ⟨by decide, fun h => by cases h⟩ ⟨by rw [gz]; exact .inl ⟨rfl, rfl⟩, .inl ⟨rfl, rfl⟩, rfl, trivial⟩ ⟨rfl, .inl ⟨by unfold prOk; rw [hv]; rfl, _, rfl, rfl, rfl, rfl⟩⟩
  · have hv0 := hv
    unfold Sp.vecOk at hv0
    rw [Bool.and_eq_true, Bool.and_eq_true, decide_eq_true_eq] at hv0
    obtain ⟨hm, xl, xn⟩ := hv0
    obtain ⟨r1, r2, n1, n4⟩ := mat_rows hm
    obtain ⟨X, hX⟩ : ∃ X, Sp.pad x = X := ⟨_, rfl⟩
    have Xl : X.length = 4 := by rw [← hX]; exact Sp.pad_len (by omega)
    have Xm : (mI X).length = 4 := by rw [mI_length, Xl]
    have acX := allI_cell X
    obtain ⟨n, hn⟩ : ∃ n, (a.getD 0 []).length = n := ⟨_, rfl⟩
    obtain ⟨e, he⟩ : ∃ e : Int, (if bs.any posV = true then 5 else 0) = e := ⟨_, rfl⟩
    have he2 : (e == 2) = false := by rw [← he]; split <;> rfl
    have hpr : prOk a x p most = (decide (p.length = n) && Sp.numbers p (-9) 9) := by unfold prOk; rw [hv, hn, Bool.true_and]
    rw [hn] at n1 n4 hB ⊢
    rw [hX, he]
    have gc := g7 (.sl false false (mV (a.map Sp.pad)) :: I n :: .sl false false (mV bs) :: mI X) (by simp [Xm])
    have tb : bndL 0 (AVal.sl false false (mV (a.map Sp.pad)) :: I n :: .sl false false (mV bs) :: mI X) = true := by simp [bndL, AVal.bnd, mV_bnd, mI_bnd]
    have ta : (AVal.sl false false (mV (a.map Sp.pad)) :: I n :: .sl false false (mV bs) :: mI X).all AVal.isCell = true := by show (true && (true && (true && (mI X).all AVal.isCell))) = true; rw [acX]; rfl
    simp only [taskV_eq, List.getD_cons_zero, List.getD_cons_succ, he2, Xm, Xl, gc, go_sem, Nat.reduceEqDiff, Nat.reduceAdd, Nat.reduceLT, Nat.reduceLeDiff, reduceIte, reduceCtorEq]
    refine ⟨by rw [acX]; rfl, ?_⟩
    refine CallK.pure (liftV (s109 false false p n n1 hp) (by simp [bndL, AVal.bnd, mI_bnd]) rfl _) ?_
    cases hb : (decide (p.length = n) && Sp.numbers p (-9) 9) with
    | false =>
      simp only [Xm, gc, go_sem, Nat.reduceEqDiff, Nat.reduceAdd, Nat.reduceLT, Nat.reduceLeDiff, reduceIte, reduceCtorEq]
      refine ⟨by rw [acX]; rfl, ?_⟩
      exact leafCCT (cut true 7 (.sl false false (mV (a.map Sp.pad)) :: I n :: .sl false false (mV bs) :: mI X)) (cut true 4 [I 0, I 0, I 0, I 0]) (.tup [.agg (.sl false false (mV (a.map Sp.pad)) :: I n :: .sl false false (mV bs) :: mI X), vec [0, 0, 0, 0], I 2]) rfl rfl ⟨by simp [Xm], fun h => by cases h⟩ ⟨by decide, fun h => by cases h⟩ ⟨by rw [gc]; exact .inl ⟨rfl, tb⟩, .inl ⟨rfl, rfl⟩, rfl, trivial⟩ ⟨rfl, .inl ⟨by rw [hpr]; exact hb, _, ta, by simp [Xm], tb, rfl⟩⟩
    | true =>
      have pl : p.length = n := by rw [Bool.and_eq_true, decide_eq_true_eq] at hb; exact hb.1
      obtain ⟨P, hP⟩ : ∃ P, Sp.pad p = P := ⟨_, rfl⟩
      have Pl : P.length = 4 := by rw [← hP]; exact Sp.pad_len (by omega)
      have Pm : (mI P).length = 4 := by rw [mI_length, Pl]
      have Pc : cut true 4 (mI P) = vec P := cut_vec Pl
      have acP := allI_cell P
      have h74 := s74 false false p (by omega)
      rw [hP] at h74
      simp only [Xm, gc, go_sem, Nat.reduceEqDiff, Nat.reduceAdd, Nat.reduceLT, Nat.reduceLeDiff, reduceIte, reduceCtorEq]
      refine ⟨by decide, CallKD.pure (fun H => liftV h74 (by simp [bndL, AVal.bnd, mI_bnd]) (by simp [AVal.bnd, vec, mI_bnd]) H) ?_⟩
      simp only [Xm, Pm, Pl, gc, Pc, vec_eq, List.set_cons_succ, List.set_cons_zero, go_sem, Nat.reduceEqDiff, Nat.reduceAdd, Nat.reduceLT, Nat.reduceLeDiff, reduceIte, reduceCtorEq]
      exact ⟨by rw [acX]; rfl, acP, leafCCT (cut true 7 (.sl false false (mV (a.map Sp.pad)) :: I n :: .sl false false (mV bs) :: mI X)) (cut true 4 (mI P)) (.tup [taskV (a.map Sp.pad) n bs X, vec P, I e]) rfl rfl ⟨by simp [Xm], fun h => by cases h⟩ ⟨by rw [Pm]; omega, fun h => by cases h⟩ ⟨by rw [gc]; exact .inl ⟨rfl, tb⟩, by rw [Pc]; exact vle_vec _, rfl, trivial⟩ ⟨rfl, .inr ⟨by rw [hpr]; exact hb, bs, by rw [hn]; exact hB, by rw [hn, hX, hP, he]⟩⟩⟩
theorem pricedR_bnd {a : List (List Int)} {x p : List Int} {most : Int} {v : AVal} (h : pricedR a x p most v) : v.bnd 0 = true := by
  rcases h with ⟨-, cs, -, -, hb, rfl⟩ | ⟨-, bs, -, rfl⟩
  · simp [AVal.bnd, bndL, vec, mI_bnd, hb]
  · simp [AVal.bnd, bndL, taskV_bnd, vec, mI_bnd]
theorem prOk_spec {a : List (List Int)} {x p : List Int} {most : Int} (h0 : 0 ≤ most) (h : prOk a x p most = true) : Sp.mat a = true ∧ x.length = (a.getD 0 []).length ∧ p.length = (a.getD 0 []).length ∧ (Sp.pad x).length = 4 ∧ (Sp.pad p).length = 4 ∧ Sp.inB most (Sp.pad x) ∧ posV (Sp.pad x) = true ∧ Sp.inB 9 (Sp.pad p) ∧ Sp.inB 9 p ∧ Sp.inB most x := by
  unfold prOk Sp.vecOk at h
  simp only [Bool.and_eq_true, decide_eq_true_eq] at h
  obtain ⟨⟨hm, xl, xn⟩, pl, pn⟩ := h
  obtain ⟨-, -, n1, n4⟩ := mat_rows hm
  have bp : Sp.inB 9 p := Sp.inB_numbers.2 pn
  have hx : ∀ z ∈ x, 0 ≤ z ∧ z ≤ most := by
    unfold Sp.numbers at xn
    rw [List.all_eq_true] at xn
    intro z hz
    have := xn z hz
    simp only [Bool.and_eq_true, decide_eq_true_eq] at this
    exact this
  have bx : Sp.inB most x := fun z hz => by have := hx z hz; omega
  refine ⟨hm, xl, pl, Sp.pad_len (by omega), Sp.pad_len (by omega), (Sp.inB_pad h0).2 bx, ?_, (Sp.inB_pad (by decide)).2 bp, bp, bx⟩
  unfold posV
  rw [List.all_eq_true]
  intro z hz
  unfold Sp.pad at hz
  rcases List.mem_append.1 hz with hz | hz
  · exact decide_eq_true (hx z hz).1
  · rw [List.eq_of_mem_replicate hz]; rfl
/-- A least price in a family. -/
def Least (a : List (List Int)) (P X0 : List Int) (m : Int) : Prop := (∃ X, Sp.Fam (a.map Sp.pad) (a.getD 0 []).length X0 X ∧ m = Sp.dp P X) ∧ ∀ Y, Sp.Fam (a.map Sp.pad) (a.getD 0 []).length X0 Y → m ≤ Sp.dp P Y
/-- The answer of Best. -/
def bestR (a : List (List Int)) (x p : List Int) (v : AVal) : Prop :=
  (prOk a x p 6 = false ∧ v = .tup [I 0, I 2]) ∨
  (prOk a x p 6 = true ∧ (Sp.basL a).any posV = true ∧ v = .tup [I 0, I 5]) ∨
  (prOk a x p 6 = true ∧ (Sp.basL a).any posV = false ∧ ∃ m, Least a (Sp.pad p) (Sp.pad x) m ∧ v = .tup [I m, I 0])
theorem any_pure {a : List (List Int)} {bs : List (List Int)} (hm : Sp.mat a = true) (hB : IsB (a.map Sp.pad) (a.getD 0 []).length bs) : bs.any posV = (Sp.basL a).any posV := by
  obtain ⟨-, -, -, n4⟩ := mat_rows hm
  rw [Bool.eq_iff_iff, List.any_eq_true, List.any_eq_true]
  constructor
  · rintro ⟨y, hy, hp⟩
    have hM := (Sp.mem_bs hm hB).1 hy
    have e := Sp.take_pad n4 hM.mv.len hM.mv.pad
    refine ⟨y.take (a.getD 0 []).length, (Sp.mem_basL hm).2 ⟨by rw [List.length_take, hM.mv.len]; omega, by rw [e]; exact hM⟩, ?_⟩
    rw [← Sp.posV_pad, e]; exact hp
  · rintro ⟨y, hy, hp⟩
    obtain ⟨yl, hM⟩ := (Sp.mem_basL hm).1 hy
    exact ⟨Sp.pad y, (Sp.mem_bs hm hB).2 hM, by rw [Sp.posV_pad]; exact hp⟩
set_option maxRecDepth 20000 in
set_option maxHeartbeats 4000000 in
theorem s32 (a : List (List Int)) (x p : List Int) (ha : ∀ l ∈ a, l.length < 9223372036854775808) (hl : a.length < 9223372036854775808) (hx : x.length < 9223372036854775808) (hp : p.length < 9223372036854775808) :
    Abs.Spec Try.prog 32 [.sl false false (mS a), .sl false false (mI x), .sl false false (mI p)] [] fun v H' => H' = [] ∧ bestR a x p v := by
  refine Abs.Spec.walk mixed fn32 nn32 t32 q32 nt32 (by simp) ?_
  simp only [w32, go_sem, Nat.reduceEqDiff, Nat.reduceAdd, Nat.reduceLT, Nat.reduceLeDiff, reduceIte, reduceCtorEq]
  refine CallK.by (CallV.of_spec (first := []) (cap := []) (s80 a x p 6 ha hl hx hp)) fun v H' ⟨hH, hr⟩ => ?_
  subst hH
  rcases hr with ⟨hok, cs, hc, hcl, hcb, rfl⟩ | ⟨hok, bs, hB, rfl⟩
  · simp only [vec_eq, List.getD_cons_zero, List.getD_cons_succ, hcl, hc, go_sem, Nat.reduceEqDiff, Nat.reduceAdd, Nat.reduceLT, Nat.reduceLeDiff, reduceIte, reduceCtorEq]
    exact ⟨rfl, leaf2 (.tup [I 0, I 2]) ⟨rfl, rfl, trivial⟩ ⟨rfl, .inl ⟨hok, rfl⟩⟩⟩
  obtain ⟨hm, xl, pl, Xl, Pl, bX, pX, bP, bp, bx⟩ := prOk_spec (by decide) hok
  obtain ⟨r1, r2, n1, n4⟩ := mat_rows hm
  have hpure := any_pure hm hB
  obtain ⟨X0, hX0⟩ : ∃ X, Sp.pad x = X := ⟨_, rfl⟩
  obtain ⟨P, hP⟩ : ∃ P, Sp.pad p = P := ⟨_, rfl⟩
  obtain ⟨n, hn⟩ : ∃ n, (a.getD 0 []).length = n := ⟨_, rfl⟩
  have Xp : ∀ j, n ≤ j → X0.getD j 0 = 0 := fun j hj => by rw [← hX0]; exact Sp.pad_getD (by rw [xl, hn]) hj
  rw [hX0] at Xl bX pX
  rw [hP] at Pl bP
  rw [hX0, hP, hn]
  have Xm : (mI X0).length = 4 := by rw [mI_length, Xl]
  have Pm : (mI P).length = 4 := by rw [mI_length, Pl]
  have acX := allI_cell X0
  have acP := allI_cell P
  have z5 : ((5 : Int) != 0) = true := rfl
  have g7 : ∀ cs : List AVal, cs.length = 7 → cut true 7 cs = .agg cs := fun cs h => by show AVal.agg (List.take 7 _) = _; rw [List.take_of_length_le (by omega)]
  cases hpv : bs.any posV with
  | true =>
    simp only [taskV_eq, vec_eq, List.getD_cons_zero, List.getD_cons_succ, Xm, Pm, Xl, Pl, z5, go_sem, Nat.reduceEqDiff, Nat.reduceAdd, Nat.reduceLT, Nat.reduceLeDiff, reduceIte, reduceCtorEq]
    exact ⟨by rw [acX]; rfl, acP, leaf2 (.tup [I 0, I 5]) ⟨rfl, rfl, trivial⟩ ⟨rfl, .inr (.inl ⟨hok, by rw [← hpure]; exact hpv, rfl⟩)⟩⟩
  | false =>
    have hB' : IsB (a.map Sp.pad) (a.getD 0 []).length bs := hB
    have hB4 : ∀ y ∈ bs, y.length = 4 := fun y hy => (hB.ok y hy).1
    obtain ⟨q1, q2, -, -⟩ := Sp.mat_cols hm rfl
    have hMi : ∀ y ∈ bs, Sp.Mini (a.map Sp.pad) (a.getD 0 []).length y := fun y hy => (Sp.mem_bs hm hB).1 hy
    have hB16 : ∀ y ∈ bs, Sp.inB 16 y := fun y hy => Sp.inB_mono ((hMi y hy).bnd q1 q2 (by omega)) (by unfold Sp.bnd; split <;> (try split) <;> (try split) <;> omega)
    have hBl := hB.len (by omega)
    have hnp : ∀ m, Sp.Mini (a.map Sp.pad) (a.getD 0 []).length m → posV m = false := fun m hM => by
      have := (Sp.mem_bs hm hB).2 hM
      have h := List.any_eq_false.1 hpv m this
      simpa using h
    simp only [taskV_eq, vec_eq, List.getD_cons_zero, List.getD_cons_succ, Xm, Pm, Xl, Pl, go_sem, Nat.reduceEqDiff, Nat.reduceAdd, Nat.reduceLT, Nat.reduceLeDiff, reduceIte, reduceCtorEq]
    refine ⟨by rw [acX]; rfl, acP, ?_⟩
    have Xp' : ∀ j, (a.getD 0 []).length ≤ j → X0.getD j 0 = 0 := fun j hj => Xp j (by omega)
    have tb : ∀ X, bndL 0 (AVal.sl false false (mV (a.map Sp.pad)) :: I n :: .sl false false (mV bs) :: mI X) = true := fun X => by simp [bndL, AVal.bnd, mV_bnd, mI_bnd]
    refine W_loop (fun q : { X : List Int // Sp.Fam (a.map Sp.pad) (a.getD 0 []).length X0 X } => ([(8, .ptr 0 0), (9, .ptr 1 0)], [.cells (.sl false false (mV (a.map Sp.pad)) :: I n :: .sl false false (mV bs) :: mI q.1), .cells (mI P)])) (fun q => (Sp.dp P q.1 + 100000).toNat) ⟨X0, Sp.Fam.self Xl Xp' pX⟩ [some 0, some 1] (Wk.mk0 rfl (by simp [imgs, Blk.alive]) (by simp [hle, csle, mI_bnd, tb]) (by simp [fle, vle, Fr.get])) ?_
    rintro ⟨X, hF⟩
    dsimp only
    have Xl' := hF.len
    have Xm' : (mI X).length = 4 := by rw [mI_length, Xl']
    have Xc' : cut true 4 (mI X) = vec X := cut_vec Xl'
    have Pc : cut true 4 (mI P) = vec P := cut_vec Pl
    have bX' := Sp.fam_bound hm Xl Xp' pX (by decide) bX hnp hF
    have gc := g7 (.sl false false (mV (a.map Sp.pad)) :: I n :: .sl false false (mV bs) :: mI X) (by simp [Xm'])
    have h81 := s81 (a.map Sp.pad) n bs X P Pl Xl' hB4 (by omega) bP (Sp.inB_mono bX' (by decide)) hB16
    have hst := Sp.stepF_is (Sp.dp P) (Sp.dp P X) (nearL X bs)
    obtain ⟨r, hr⟩ : ∃ r, Sp.stepF (Sp.dp P) (Sp.dp P X) (nearL X bs) = r := ⟨_, rfl⟩
    rw [hr] at h81 hst
    rw [taskV_eq, vec_eq] at h81
    have acX' := allI_cell X
    simp only [w32L0, Xm', Pm, gc, Pc, vec_eq, go_sem, Nat.reduceEqDiff, Nat.reduceAdd, Nat.reduceLT, Nat.reduceLeDiff, reduceIte, reduceCtorEq]
    refine CallK.pure (liftV h81 (by simp [bndL, AVal.bnd, mV_bnd, mI_bnd]) (by simp [stepV, AVal.bnd, bndL, vec, mI_bnd]) _) ?_
    cases r with
    | none =>
      simp only [stepV, bestOf, vec_eq, Option.isSome_none, List.getD_cons_zero, List.getD_cons_succ, Xm', Xl', Xc', Pm, Pc, go_sem, Nat.reduceEqDiff, Nat.reduceAdd, Nat.reduceLT, Nat.reduceLeDiff, reduceIte, reduceCtorEq]
      have h82 := liftV (s82 P X Pl Xl') (by simp [bndL, AVal.bnd, vec, mI_bnd]) rfl [Blk.cells (.sl false false (mV (a.map Sp.pad)) :: I n :: .sl false false (mV bs) :: mI X), Blk.cells (mI P), Blk.cells (mI X)]
      rw [dot_dp Pl Xl' bP (Sp.inB_mono bX' (by decide))] at h82
      refine ⟨acX', CallK.pure h82 ?_⟩
      simp only [go_sem, Nat.reduceEqDiff, Nat.reduceAdd, Nat.reduceLT, Nat.reduceLeDiff, reduceIte, reduceCtorEq]
      refine leaf2 (.tup [I (Sp.dp P X), I 0]) ⟨rfl, rfl, trivial⟩ ⟨rfl, .inr (.inr ⟨hok, by rw [← hpure]; exact hpv, Sp.dp P X, ⟨⟨X, by rw [hX0]; exact hF, by rw [hP]⟩, fun Y hY => ?_⟩, rfl⟩)⟩
      rw [hX0] at hY
      rw [hP]
      have hno := hst.no rfl
      refine Sp.fam_least hm Xl' hF.pad hF.pos Pl (fun m hM hpos => hno _ ?_) (Sp.Fam.turn Xl hF hY)
      exact List.mem_filter.2 ⟨List.mem_map.2 ⟨m, (Sp.mem_bs hm hB).2 hM, rfl⟩, hpos⟩
    | some z =>
      obtain ⟨hz1, hz2, hz3⟩ := hst.yes z rfl
      obtain ⟨hy1, hpos⟩ := List.mem_filter.1 hz1
      obtain ⟨m, hmb, hzm⟩ := List.mem_map.1 hy1
      have zl : z.length = 4 := by rw [← hzm]; exact plusV_len Xl' (hB4 m hmb)
      have zm : (mI z).length = 4 := by rw [mI_length, zl]
      have zc : cut true 4 (mI z) = vec z := cut_vec zl
      have zcc : (vec z).cells = mI z := rfl
      have zF : Sp.Fam (a.map Sp.pad) (a.getD 0 []).length X0 z := by
        rw [← hzm]; exact Sp.Fam.step Xl hF (hMi m hmb) (by rw [hzm]; exact hpos)
      have dX : mI z ++ mI (List.drop 4 X) = mI z := by rw [List.drop_of_length_le (by omega), mI_nil, List.append_nil]
      have bz := Sp.fam_bound hm Xl Xp' pX (by decide) bX hnp zF
      have bd := Sp.dp_bound (A := 9) (M := 65 * 6) (by decide) (by decide) bP bz
      rw [Pl] at bd
      simp only [stepV, bestOf, vec_eq, Option.isSome_some, List.getD_cons_zero, List.getD_cons_succ, Xm', Xl', Xc', Pm, Pc, zm, zl, zc, zcc, dX, go_sem, Nat.reduceEqDiff, Nat.reduceAdd, Nat.reduceLT, Nat.reduceLeDiff, reduceIte, reduceCtorEq]
      refine ⟨allI_cell z, allI_cell z, ?_⟩
      exact round1 rfl ⟨z, zF⟩ [some 0, some 1] (by dsimp only; omega) (Wk.mk0 rfl (by simp [imgs, Blk.alive]) (by simp [hle, csle, mI_bnd, tb]) (by simp [fle, vle, Fr.get]))
/-- The best vector that one basic move leads to. -/
def stepA (a : List (List Int)) (P X : List Int) : Option (List Int) := Sp.stepF (Sp.dp P) (Sp.dp P X) (nearL X (Sp.basB (a.map Sp.pad) (a.getD 0 []).length))
theorem stepA_of {a : List (List Int)} {bs : List (List Int)} (hm : Sp.mat a = true) (hB : IsB (a.map Sp.pad) (a.getD 0 []).length bs) (P X : List Int) : Sp.stepF (Sp.dp P) (Sp.dp P X) (nearL X bs) = stepA a P X := by
  refine Sp.IsStep.uniq (Sp.stepF_is _ _ _) (Sp.stepF_is _ _ _) fun y => ?_
  have e : ∀ x, x ∈ bs ↔ x ∈ Sp.basB (a.map Sp.pad) (a.getD 0 []).length := fun x => by rw [Sp.mem_bs hm hB, Sp.mem_bs hm (Sp.basB_is _ _)]
  unfold nearL
  simp only [List.mem_filter, List.mem_map, e]
/-- The answer of Step. -/
def stepR (a : List (List Int)) (x p : List Int) : AVal :=
  if prOk a x p 1000 then
    if (Sp.basL a).any posV then .tup [.sl false false (mI []), I 5]
    else match stepA a (Sp.pad p) (Sp.pad x) with
      | none => .tup [.sl false false (mI []), I 4]
      | some z => .tup [.sl false false (mI (z.take (a.getD 0 []).length)), I 0]
  else .tup [.sl false false (mI []), I 2]
set_option maxRecDepth 20000 in
set_option maxHeartbeats 4000000 in
theorem s33 (a : List (List Int)) (x p : List Int) (ha : ∀ l ∈ a, l.length < 9223372036854775808) (hl : a.length < 9223372036854775808) (hx : x.length < 9223372036854775808) (hp : p.length < 9223372036854775808) :
    Abs.Spec Try.prog 33 [.sl false false (mS a), .sl false false (mI x), .sl false false (mI p)] [] fun v H' => H' = [] ∧ v = stepR a x p := by
  refine Abs.Spec.walk mixed fn33 nn33 t33 q33 nt33 (by simp) ?_
  simp only [w33, go_sem, Nat.reduceEqDiff, Nat.reduceAdd, Nat.reduceLT, Nat.reduceLeDiff, reduceIte, reduceCtorEq]
  refine CallK.by (CallV.of_spec (first := []) (cap := []) (s80 a x p 1000 ha hl hx hp)) fun v H' ⟨hH, hr⟩ => ?_
  subst hH
  unfold stepR
  rcases hr with ⟨hok, cs, hc, hcl, hcb, rfl⟩ | ⟨hok, bs, hB, rfl⟩
  · rw [hok, if_neg (by decide)]
    simp only [vec_eq, List.getD_cons_zero, List.getD_cons_succ, hcl, hc, go_sem, Nat.reduceEqDiff, Nat.reduceAdd, Nat.reduceLT, Nat.reduceLeDiff, reduceIte, reduceCtorEq]
    exact ⟨rfl, leaf2 (.tup [.sl false false (mI []), I 2]) ⟨⟨rfl, rfl, rfl⟩, rfl, trivial⟩ ⟨rfl, rfl⟩⟩
  rw [if_pos hok]
  obtain ⟨hm, xl, pl, Xl, Pl, bX, pX, bP, bp, bx⟩ := prOk_spec (by decide) hok
  obtain ⟨r1, r2, n1, n4⟩ := mat_rows hm
  have hpure := any_pure hm hB
  have hsA := stepA_of hm hB
  obtain ⟨X0, hX0⟩ : ∃ X, Sp.pad x = X := ⟨_, rfl⟩
  obtain ⟨P, hP⟩ : ∃ P, Sp.pad p = P := ⟨_, rfl⟩
  obtain ⟨n, hn⟩ : ∃ n, (a.getD 0 []).length = n := ⟨_, rfl⟩
  rw [hX0] at Xl bX pX
  rw [hP] at Pl bP
  rw [hX0, hP, hn, ← hpure, ← hsA P X0]
  have Xm : (mI X0).length = 4 := by rw [mI_length, Xl]
  have Pm : (mI P).length = 4 := by rw [mI_length, Pl]
  have acX := allI_cell X0
  have acP := allI_cell P
  have z5 : ((5 : Int) != 0) = true := rfl
  have g7 : ∀ cs : List AVal, cs.length = 7 → cut true 7 cs = .agg cs := fun cs h => by show AVal.agg (List.take 7 _) = _; rw [List.take_of_length_le (by omega)]
  have gc := g7 (.sl false false (mV (a.map Sp.pad)) :: I n :: .sl false false (mV bs) :: mI X0) (by simp [Xm])
  have Pc : cut true 4 (mI P) = vec P := cut_vec Pl
  have hmc : cut true 2 (.sl false false (mV (a.map Sp.pad)) :: I n :: .sl false false (mV bs) :: mI X0) = matV (a.map Sp.pad) n := rfl
  have hB4 : ∀ y ∈ bs, y.length = 4 := fun y hy => (hB.ok y hy).1
  have hBl := hB.len (by omega)
  obtain ⟨q1, q2, -, -⟩ := Sp.mat_cols hm rfl
  have hMi : ∀ y ∈ bs, Sp.Mini (a.map Sp.pad) (a.getD 0 []).length y := fun y hy => (Sp.mem_bs hm hB).1 hy
  have hB16 : ∀ y ∈ bs, Sp.inB 16 y := fun y hy => Sp.inB_mono ((hMi y hy).bnd q1 q2 (by omega)) (by unfold Sp.bnd; split <;> (try split) <;> (try split) <;> omega)
  have h81 := s81 (a.map Sp.pad) n bs X0 P Pl Xl hB4 (by omega) bP (Sp.inB_mono bX (by decide)) hB16
  rw [taskV_eq, vec_eq] at h81
  have hst := Sp.stepF_is (Sp.dp P) (Sp.dp P X0) (nearL X0 bs)
  cases hpv : bs.any posV with
  | true =>
    rw [if_pos rfl]
    simp only [taskV_eq, vec_eq, List.getD_cons_zero, List.getD_cons_succ, Xm, Pm, Xl, Pl, z5, go_sem, Nat.reduceEqDiff, Nat.reduceAdd, Nat.reduceLT, Nat.reduceLeDiff, reduceIte, reduceCtorEq]
    exact ⟨by rw [acX]; rfl, acP, leaf2 (.tup [.sl false false (mI []), I 5]) ⟨⟨rfl, rfl, rfl⟩, rfl, trivial⟩ ⟨rfl, rfl⟩⟩
  | false =>
    rw [if_neg (by decide)]
    simp only [taskV_eq, vec_eq, List.getD_cons_zero, List.getD_cons_succ, Xm, Pm, Xl, Pl, gc, Pc, go_sem, Nat.reduceEqDiff, Nat.reduceAdd, Nat.reduceLT, Nat.reduceLeDiff, reduceIte, reduceCtorEq]
    refine ⟨by rw [acX]; rfl, acP, ?_⟩
    refine CallK.pure (liftV h81 (by simp [bndL, AVal.bnd, mV_bnd, mI_bnd]) (by simp [stepV, AVal.bnd, bndL, vec, mI_bnd]) _) ?_
    obtain ⟨r, hr⟩ : ∃ r, Sp.stepF (Sp.dp P) (Sp.dp P X0) (nearL X0 bs) = r := ⟨_, rfl⟩
    rw [hr] at hst ⊢
    cases r with
    | none =>
      simp only [stepV, bestOf, vec_eq, Option.isSome_none, List.getD_cons_zero, List.getD_cons_succ, Xm, Xl, Pm, Pc, go_sem, Nat.reduceEqDiff, Nat.reduceAdd, Nat.reduceLT, Nat.reduceLeDiff, reduceIte, reduceCtorEq]
      exact ⟨acX, leaf2 (.tup [.sl false false (mI []), I 4]) ⟨⟨rfl, rfl, rfl⟩, rfl, trivial⟩ ⟨rfl, rfl⟩⟩
    | some z =>
      obtain ⟨hz1, hz2, hz3⟩ := hst.yes z rfl
      obtain ⟨hy1, hpos⟩ := List.mem_filter.1 hz1
      obtain ⟨m, hmb, hzm⟩ := List.mem_map.1 hy1
      have zl : z.length = 4 := by rw [← hzm]; exact plusV_len Xl (hB4 m hmb)
      have zm : (mI z).length = 4 := by rw [mI_length, zl]
      have zc : cut true 4 (mI z) = vec z := cut_vec zl
      simp only [stepV, bestOf, vec_eq, Option.isSome_some, List.getD_cons_zero, List.getD_cons_succ, Xm, Xl, Pm, Pc, zm, zl, zc, hmc, go_sem, Nat.reduceEqDiff, Nat.reduceAdd, Nat.reduceLT, Nat.reduceLeDiff, reduceIte, reduceCtorEq]
      refine ⟨allI_cell z, CallK.pure (liftV (s71 (a.map Sp.pad) n (by omega) (by omega) z zl) (by simp [bndL, matV, vec, AVal.bnd, mV_bnd, mI_bnd]) (by simp [AVal.bnd, mI_bnd]) _) ?_⟩
      simp only [go_sem, Nat.reduceEqDiff, Nat.reduceAdd, Nat.reduceLT, Nat.reduceLeDiff, reduceIte, reduceCtorEq]
      exact leaf2 (.tup [.sl false false (mI (z.take n)), I 0]) ⟨⟨mI_bnd, fun h => h, fun h => h, rfl⟩, rfl, trivial⟩ ⟨rfl, rfl⟩
theorem dp_pad {p x : List Int} (h : p.length = x.length) : Sp.dp (Sp.pad p) (Sp.pad x) = Sp.dp p x := by
  have key : ∀ (p x : List Int) (k : Nat), p.length = x.length → Sp.dp (p ++ List.replicate k 0) (x ++ List.replicate k 0) = Sp.dp p x := by
    intro p
    induction p with
    | nil =>
      intro x k h
      obtain rfl : x = [] := by cases x with
        | nil => rfl
        | cons a b => simp at h
      induction k with
      | zero => rfl
      | succ k ih => rw [List.nil_append] at ih ⊢; rw [List.replicate_succ]; simp only [Sp.dp]; rw [ih]; rfl
    | cons a p ih =>
      intro x k h
      cases x with
      | nil => simp at h
      | cons b x => simp only [List.cons_append, Sp.dp]; rw [ih x k (by simpa using h)]
  unfold Sp.pad
  rw [h]
  exact key p x _ h
theorem Least.uniq {a : List (List Int)} {P X : List Int} {m k : Int} (h : Least a P X m) (h' : Least a P X k) : m = k := by
  obtain ⟨⟨Y, hY, rfl⟩, h2⟩ := h
  obtain ⟨⟨Z, hZ, rfl⟩, h4⟩ := h'
  have := h2 Z hZ
  have := h4 Y hY
  omega
theorem prOk_vec {a : List (List Int)} {x p : List Int} {most : Int} : prOk a x p most = (Sp.vecOk a x 0 most && Sp.vecOk a p (-9) 9) := by
  unfold prOk Sp.vecOk
  cases Sp.mat a <;> simp
theorem prOk_take {a : List (List Int)} {x p : List Int} {most : Int} : prOk (Sp.table6 a) (x.take 6) (p.take 6) most = prOk a x p most := by rw [prOk_vec, prOk_vec, Sp.vecOk_take, Sp.vecOk_take]
theorem prOk_6 {a : List (List Int)} {x p : List Int} : prOk a x p 6 = (prOk a x p 1000 && Sp.numbers x 0 6) := by
  have h : Sp.numbers x 0 6 = true → Sp.numbers x 0 1000 = true := fun h => by
    unfold Sp.numbers at h ⊢
    rw [List.all_eq_true] at h ⊢
    intro z hz
    have := h z hz
    simp only [Bool.and_eq_true, decide_eq_true_eq] at this ⊢
    omega
  unfold prOk Sp.vecOk
  cases h6 : Sp.numbers x 0 6 with
  | true => rw [h h6]; simp
  | false => simp
theorem bestR_bnd {a : List (List Int)} {x p : List Int} {v : AVal} (h : bestR a x p v) : v.bnd 0 = true := by
  rcases h with ⟨-, rfl⟩ | ⟨-, -, rfl⟩ | ⟨-, -, m, -, rfl⟩ <;> simp [AVal.bnd, bndL]
/-- The answer of Step, in parts. -/
def stepP (a : List (List Int)) (x p : List Int) : List Int × Int :=
  if prOk a x p 1000 then
    if (Sp.basL a).any posV then ([], 5)
    else match stepA a (Sp.pad p) (Sp.pad x) with
      | none => ([], 4)
      | some z => (z.take (a.getD 0 []).length, 0)
  else ([], 2)
theorem stepR_eq (a : List (List Int)) (x p : List Int) : stepR a x p = .tup [.sl false false (mI (stepP a x p).1), I (stepP a x p).2] := by
  unfold stepR stepP
  split
  · split
    · rfl
    · generalize stepA a (Sp.pad p) (Sp.pad x) = r
      cases r <;> rfl
  · rfl
theorem stepP_len {a : List (List Int)} {x p : List Int} : (stepP a x p).1.length < 9223372036854775808 := by
  unfold stepP
  split
  · rename_i hok
    obtain ⟨hm, -⟩ := prOk_spec (by decide) hok
    obtain ⟨-, -, n1, n4⟩ := mat_rows hm
    split
    · simp
    · split
      · simp
      · simp only [List.length_take]; omega
  · simp
end Go.Proofs.Ytipfjfmdjmaflaa
