/- Contracts: both, and whether it is the one that is looked for. -/
import Derived.Test.YtipfjfmdjmaflaaNU
import Derived.Test.YtipfjfmdjmaflaaOB
namespace Go.Proofs.Ytipfjfmdjmaflaa
open Go.Abs AVal
set_option linter.unusedSimpArgs false
attribute [local go_sem] W_skip W_keep KQ_canon canon Fr.norm W_seq W_block W_scope W_exit W_ret W_ops W_draw KQ_nil KQ_norm_seq KQ_exit_seq KQ_ret_seq KQ_norm_block KQ_ret_block KQ_exit_block KQ_exit_loop KQ_ret_loop O_nil O_cons S_call S_mv SE_mv SD_mv S_pick SE_pick SD_pick S_bin SE_bin SD_bin S_eqb SE_eqb SD_eqb S_eqv SE_eqv SD_eqv S_eqnil SE_eqnil SD_eqnil S_un SE_un SD_un S_conv SE_conv SD_conv S_mkfn SE_mkfn SD_mkfn S_load SE_load SD_load S_nilck SE_nilck SD_nilck S_slS SE_slS SD_slS S_slP SE_slP SD_slP S_fldA SE_fldA SD_fldA S_fld SE_fld SD_fld S_ixS SE_ixS SD_ixS S_ixP SE_ixP SD_ixP S_ixV SE_ixV SD_ixV S_ixStr SE_ixStr SD_ixStr S_ext SE_ext SD_ext S_len SE_len SD_len S_lenStr SE_lenStr SD_lenStr S_lenc SE_lenc SD_lenc S_mn SE_mn SD_mn S_mx SE_mx SD_mx S_build SE_build SD_build S_alloc SD_alloc S_box SD_box S_bslice SD_bslice S_mksl SD_mksl S_store SD_store S_append SD_append S_copy SD_copy S_clr SD_clr S_mlen SE_mlen SD_mlen S_mget SE_mget SD_mget S_mval SE_mval SD_mval S_mentry SE_mentry SD_mentry S_mkmap SD_mkmap S_mset SD_mset S_mrange SD_mrange S_mnext mlenA mgetA mvalA mentryA msetA mrangeA cells_mp isCell_mp cellsOk_mp aq_some aa_some al_some alA_some aqd_some aad_some ald_some ape_some D_done D_both D_early D_step SE_call SD_call IOpd.ev Fr.get Fr.put Fr.putd entryFr pickA binA binI isSh shI eqbA eqvA ints ints_mI Option.map_some eqnilA unA convA loadA nilckA intA slSA slPA fldAA fldVA ixSA ixPA ixVA ixStrA extA lenA lenStrA mnA mxA AVal.fits fillA fillOk buildA opa srcA appA stoA copA clrA rdFree zeros List.length_nil List.length_cons List.length_map List.map_cons List.map_nil Option.map_some Option.map_none if_true if_false ite_true ite_false true_and and_true and_self implies_true forall_const true_implies Bool.false_eq_true Bool.not_true Bool.not_false decide_eq_true_eq decide_eq_false_iff_not eq_self List.getElem?_cons_zero List.getElem?_cons_succ List.getElem?_nil List.set_cons_zero List.set_cons_succ List.nil_append List.cons_append List.append_nil List.replicate_zero List.replicate_succ Nat.zero_add false_implies rng_lt rng_end rng_get cells_I cells_B cells_sl cut_one Int.toNat_natCast Int.natCast_nonneg List.headD_cons Int.lt_irrefl not_false_eq_true decide_false decide_true mI_length mI_cells mI_sz mI_isCell mI_mid mI_append mI_take mI_drop cells_val cells_own cells_agg isCell_I isCell_B isCell_nil isCell_sl isCell_own isCell_ptr isCell_fn isCell_rp isCell_yld cellsOk_I cellsOk_B cellsOk_nil cellsOk_sl cellsOk_own cellsOk_ptr cellsOk_fn cellsOk_rp cellsOk_yld cellsOk_agg cells_nil cells_ptr cells_fn cells_rp List.all_cons List.all_nil Bool.and_true Nat.mul_one Nat.zero_mul Nat.one_mul List.take_zero List.take_nil List.drop_nil List.drop_zero List.not_mem_nil Nat.le_refl Nat.zero_le mS_length mS_cells mS_sz mS_isCell mS_mid mS_append mS_take mS_drop cells_sI isCell_sI cellsOk_sI sI_eq succ_le_self' List.take_succ_cons List.drop_succ_cons List.take_length beq_self_eq_true List.mem_cons or_false forall_eq mI_put mI_rep O_guard' D_earlyG' D_stepG' W_cond' G_tt G_tf G_ft G_ff GE_tt GE_tf GE_ft GE_ff GS_tt GS_tf GS_ft GS_ff G_u GE_u GS_u IC_t IC_f xft xff xtt xtf z00 z20 z22 z02 zz tn0
theorem leafCCT' {ag ag' : Bool} {k t k' t' u : Nat} {e : Ex} {fr : Fr} {H : AHeap} {R : AVal → AHeap → Prop} (x y v : AVal) {p q : Prop} (h : loadA ag k (fr.get t) H = some (p, x)) (h' : loadA ag' k' (fr.get t') H = some (q, y)) (hp : p) (hq : q) (hv : vle H [] [] 3 (.tup [x, y, fr.get u]) v) (hR : R v []) (he : e = .norm ∨ e = .ret := by simp) : retA 0 [.cell ag k t, .cell ag' k' t', .tmp u] R e fr H [] :=
  retA_nil he (p := p ∧ q ∧ True ∧ True) (vs := [x, y, fr.get u]) (by simp [resL, resA, h, h']) ⟨hp, hq, trivial, trivial⟩ hv hR
theorem taskV_bnd' {rows : List (List Int)} {n : Int} {bs : List (List Int)} {X : List Int} : (taskV rows n bs X).bnd 0 = true := by simp [taskV, AVal.bnd, bndL, mV_bnd, mI_bnd]
theorem openR_bnd' {a : List (List Int)} {x : List Int} {most : Int} {v : AVal} (h : openR a x most v) : v.bnd 0 = true := by
  rcases h with ⟨-, rfl⟩ | ⟨-, bs, -, rfl⟩
  · simp [zT, AVal.bnd, bndL]
  · simp [AVal.bnd, bndL, taskV_bnd']
/-- Whether these are two assortments. -/
def twoOk (a : List (List Int)) (x y : List Int) : Bool := Sp.vecOk a x 0 6 && Sp.vecOk a y 0 6
/-- The answer of both. -/
def bothR (a : List (List Int)) (x y : List Int) (v : AVal) : Prop :=
  (twoOk a x y = false ∧ ∃ cs : List AVal, cs.all AVal.isCell = true ∧ cs.length = 7 ∧ bndL 0 cs = true ∧ v = .tup [.agg cs, vec [0, 0, 0, 0], B false]) ∨
  (twoOk a x y = true ∧ ∃ bs, IsB (a.map Sp.pad) (a.getD 0 []).length bs ∧ v = .tup [taskV (a.map Sp.pad) (a.getD 0 []).length bs (Sp.pad x), vec (Sp.pad y), B true])
set_option maxRecDepth 20000 in
set_option maxHeartbeats 4000000 in
theorem s66 (a : List (List Int)) (x p : List Int) (ha : ∀ l ∈ a, l.length < 9223372036854775808) (hl : a.length < 9223372036854775808) (hx : x.length < 9223372036854775808) (hp : p.length < 9223372036854775808) :
    Abs.Spec Try.prog 66 [.sl false false (mS a), .sl false false (mI x), .sl false false (mI p)] [] fun v H' => H' = [] ∧ bothR a x p v := by
  refine Abs.Spec.walk mixed fn66 nn66 t66 q66 nt66 (by simp) ?_
  simp only [w66, go_sem, Nat.reduceEqDiff, Nat.reduceAdd, Nat.reduceLT, Nat.reduceLeDiff, reduceIte, reduceCtorEq]
  refine CallK.by (CallV.of_spec (first := []) (cap := []) (Spec.liftE (s98 a x 6 ha hl hx) (by simp [bndL, AVal.bnd, mS_bnd, mI_bnd]) (fun v hr => openR_bnd' hr) _)) fun v H' ⟨hr, hH⟩ => ?_
  subst hH
  have g7 : ∀ cs : List AVal, cs.length = 7 → cut true 7 cs = .agg cs := fun cs h => by show AVal.agg (List.take 7 _) = _; rw [List.take_of_length_le (by omega)]
  rcases hr with ⟨hv, rfl⟩ | ⟨hv, bs, hB, rfl⟩
  · have gz := g7 [nilSl, I 0, nilSl, I 0, I 0, I 0, I 0] rfl
    simp only [zT, w66T0, List.getD_cons_zero, List.getD_cons_succ, gz, go_sem, Nat.reduceEqDiff, Nat.reduceAdd, Nat.reduceLT, Nat.reduceLeDiff, reduceIte, reduceCtorEq]
    exact leafCCT' (cut true 7 [nilSl, I 0, nilSl, I 0, I 0, I 0, I 0]) (cut true 4 [I 0, I 0, I 0, I 0]) (.tup [.agg [nilSl, I 0, nilSl, I 0, I 0, I 0, I 0], vec [0, 0, 0, 0], B false]) rfl rfl ⟨by decide, fun h => by cases h⟩ ⟨by decide, fun h => by cases h⟩ ⟨by rw [gz]; exact .inl ⟨rfl, rfl⟩, .inl ⟨rfl, rfl⟩, rfl, trivial⟩ ⟨rfl, .inl ⟨by unfold twoOk; rw [hv]; rfl, _, rfl, rfl, rfl, rfl⟩⟩
  · have hv0 := hv
    unfold Sp.vecOk at hv0
    rw [Bool.and_eq_true, Bool.and_eq_true, decide_eq_true_eq] at hv0
    obtain ⟨hm, xl, xn⟩ := hv0
    obtain ⟨r1, r2, n1, n4⟩ := mat_rows hm
    obtain ⟨X, hX⟩ : ∃ X, Sp.pad x = X := ⟨_, rfl⟩
    have Xl : X.length = 4 := by rw [← hX]; exact Sp.pad_len (by omega)
    have Xm : (mI X).length = 4 := by rw [mI_length, Xl]
    have acX := allI_cell X
    obtain ⟨n, hn⟩ : ∃ n, (a.getD 0 []).length = n := ⟨_, rfl⟩
    obtain ⟨e, he⟩ : ∃ e : Int, (if bs.any posV = true then 5 else 0) = e := ⟨_, rfl⟩
    have he2 : (e == 2) = false := by rw [← he]; split <;> rfl
    have hpr : twoOk a x p = (decide (p.length = n) && Sp.numbers p 0 6) := by unfold twoOk; rw [hv, Bool.true_and]; unfold Sp.vecOk; rw [hm, hn, Bool.true_and]
    rw [hn] at n1 n4 hB ⊢
    rw [hX, he]
    have gc := g7 (.sl false false (mV (a.map Sp.pad)) :: I n :: .sl false false (mV bs) :: mI X) (by simp [Xm])
    have tb : bndL 0 (AVal.sl false false (mV (a.map Sp.pad)) :: I n :: .sl false false (mV bs) :: mI X) = true := by simp [bndL, AVal.bnd, mV_bnd, mI_bnd]
    have ta : (AVal.sl false false (mV (a.map Sp.pad)) :: I n :: .sl false false (mV bs) :: mI X).all AVal.isCell = true := by show (true && (true && (true && (mI X).all AVal.isCell))) = true; rw [acX]; rfl
    simp only [taskV_eq, w66T0, List.getD_cons_zero, List.getD_cons_succ, he2, Xm, Xl, gc, go_sem, Nat.reduceEqDiff, Nat.reduceAdd, Nat.reduceLT, Nat.reduceLeDiff, reduceIte, reduceCtorEq]
    refine ⟨ta, ?_⟩
    have z4 : mI [0, 0, 0, 0] = [I 0, I 0, I 0, I 0] := rfl
    have z4' : cut true 4 [I 0, I 0, I 0, I 0] = .agg [I 0, I 0, I 0, I 0] := rfl
    have g2 : cut true 2 (.sl false false (mV (a.map Sp.pad)) :: I n :: .sl false false (mV bs) :: mI X) = .agg [.sl false false (mV (a.map Sp.pad)), I n] := rfl
    have h63 := s63 false false (.sl false false (mV (a.map Sp.pad))) rfl n p 0 6 n1 n4 hp
    cases hb : (decide (p.length = n) && Sp.numbers p 0 6) with
    | false =>
      rw [hb, if_neg (by decide)] at h63
      rw [g2]
      refine CallK.pure (liftV h63 (by simp [bndL, AVal.bnd, mV_bnd, mI_bnd]) (by decide) _) ?_
      simp only [vec_eq, List.getD_cons_zero, List.getD_cons_succ, z4, z4', gc, List.set_cons_succ, List.set_cons_zero, Xm, Xl, go_sem, Nat.reduceEqDiff, Nat.reduceAdd, Nat.reduceLT, Nat.reduceLeDiff, reduceIte, reduceCtorEq]
      exact ⟨ta, leafCCT' (cut true 7 (.sl false false (mV (a.map Sp.pad)) :: I n :: .sl false false (mV bs) :: mI X)) (cut true 4 [I 0, I 0, I 0, I 0]) (.tup [.agg (.sl false false (mV (a.map Sp.pad)) :: I n :: .sl false false (mV bs) :: mI X), vec [0, 0, 0, 0], B false]) rfl rfl ⟨by simp [Xm], fun h => by cases h⟩ ⟨by decide, fun h => by cases h⟩ ⟨by rw [gc]; exact .inl ⟨rfl, tb⟩, .inl ⟨rfl, rfl⟩, rfl, trivial⟩ ⟨rfl, .inl ⟨by rw [hpr]; exact hb, _, ta, by simp [Xm], tb, rfl⟩⟩⟩
    | true =>
      rw [hb, if_pos rfl] at h63
      have pl : p.length = n := by rw [Bool.and_eq_true, decide_eq_true_eq] at hb; exact hb.1
      obtain ⟨P, hP⟩ : ∃ P, Sp.pad p = P := ⟨_, rfl⟩
      have Pl : P.length = 4 := by rw [← hP]; exact Sp.pad_len (by omega)
      have Pm : (mI P).length = 4 := by rw [mI_length, Pl]
      have Pc : cut true 4 (mI P) = vec P := cut_vec Pl
      have acP := allI_cell P
      rw [hP] at h63
      rw [g2]
      refine CallK.pure (liftV h63 (by simp [bndL, AVal.bnd, mV_bnd, mI_bnd]) (by simp [AVal.bnd, bndL, vec, mI_bnd]) _) ?_
      simp only [vec_eq, List.getD_cons_zero, List.getD_cons_succ, gc, Pc, Pm, Pl, List.set_cons_succ, List.set_cons_zero, Xm, Xl, go_sem, Nat.reduceEqDiff, Nat.reduceAdd, Nat.reduceLT, Nat.reduceLeDiff, reduceIte, reduceCtorEq]
      exact ⟨acP, ta, acP, leafCCT' (cut true 7 (.sl false false (mV (a.map Sp.pad)) :: I n :: .sl false false (mV bs) :: mI X)) (cut true 4 (mI P)) (.tup [taskV (a.map Sp.pad) n bs X, vec P, B true]) rfl rfl ⟨by simp [Xm], fun h => by cases h⟩ ⟨by rw [Pm]; omega, fun h => by cases h⟩ ⟨by rw [gc]; exact .inl ⟨rfl, tb⟩, by rw [Pc]; exact vle_vec _, rfl, trivial⟩ ⟨rfl, .inr ⟨by rw [hpr]; exact hb, bs, by rw [hn]; exact hB, by rw [hn, hX, hP]⟩⟩⟩
theorem s70 (y V : List Int) (hy : y.length = 4) (hV : V.length = 4) : Abs.Spec Try.prog 70 [.agg (mI y), .rp (mI V)] [] fun v H' => H' = [] ∧ v = B (y == V) := by
  refine Abs.Spec.walk mixed fn70 nn70 t70 q70 nt70 (by simp) ?_
  have acy := allI_cell y
  have acV := allI_cell V
  have gy : cut true 4 (mI y) = .agg (mI y) := cut_vec hy
  have gV : cut true 4 (mI V) = .agg (mI V) := cut_vec hV
  simp only [w70, gy, gV, ints_mI, hy, hV, go_sem, Nat.reduceEqDiff, Nat.reduceAdd, Nat.reduceLT, Nat.reduceLeDiff, reduceIte, reduceCtorEq]
  exact ⟨acy, leaf (B (y == V)) (by simp [vle, Fr.get]) ⟨rfl, rfl⟩⟩
end Go.Proofs.Ytipfjfmdjmaflaa
