/- Contracts: a task is opened. -/
import Derived.Test.YtipfjfmdjmaflaaKC
import Derived.Test.YtipfjfmdjmaflaaNP
import Derived.Test.YtipfjfmdjmaflaaLB
import Derived.Test.YtipfjfmdjmaflaaNA
namespace Go.Proofs.Ytipfjfmdjmaflaa
open Go.Abs AVal
set_option linter.unusedSimpArgs false
attribute [local go_sem] W_skip W_keep KQ_canon canon Fr.norm W_seq W_block W_scope W_exit W_ret W_ops W_draw KQ_nil KQ_norm_seq KQ_exit_seq KQ_ret_seq KQ_norm_block KQ_ret_block KQ_exit_block KQ_exit_loop KQ_ret_loop O_nil O_cons S_call S_mv SE_mv SD_mv S_pick SE_pick SD_pick S_bin SE_bin SD_bin S_eqb SE_eqb SD_eqb S_eqv SE_eqv SD_eqv S_eqnil SE_eqnil SD_eqnil S_un SE_un SD_un S_conv SE_conv SD_conv S_mkfn SE_mkfn SD_mkfn S_load SE_load SD_load S_nilck SE_nilck SD_nilck S_slS SE_slS SD_slS S_slP SE_slP SD_slP S_fldA SE_fldA SD_fldA S_fld SE_fld SD_fld S_ixS SE_ixS SD_ixS S_ixP SE_ixP SD_ixP S_ixV SE_ixV SD_ixV S_ixStr SE_ixStr SD_ixStr S_ext SE_ext SD_ext S_len SE_len SD_len S_lenStr SE_lenStr SD_lenStr S_lenc SE_lenc SD_lenc S_mn SE_mn SD_mn S_mx SE_mx SD_mx S_build SE_build SD_build S_alloc SD_alloc S_box SD_box S_bslice SD_bslice S_mksl SD_mksl S_store SD_store S_append SD_append S_copy SD_copy S_clr SD_clr S_mlen SE_mlen SD_mlen S_mget SE_mget SD_mget S_mval SE_mval SD_mval S_mentry SE_mentry SD_mentry S_mkmap SD_mkmap S_mset SD_mset S_mrange SD_mrange S_mnext mlenA mgetA mvalA mentryA msetA mrangeA cells_mp isCell_mp cellsOk_mp aq_some aa_some al_some alA_some aqd_some aad_some ald_some ape_some D_done D_both D_early D_step SE_call SD_call IOpd.ev Fr.get Fr.put Fr.putd entryFr pickA binA binI isSh shI eqbA eqvA ints ints_mI Option.map_some eqnilA unA convA loadA nilckA intA slSA slPA fldAA fldVA ixSA ixPA ixVA ixStrA extA lenA lenStrA mnA mxA AVal.fits fillA fillOk buildA opa srcA appA stoA copA clrA rdFree zeros List.length_nil List.length_cons List.length_map List.map_cons List.map_nil Option.map_some Option.map_none if_true if_false ite_true ite_false true_and and_true and_self implies_true forall_const true_implies Bool.false_eq_true Bool.not_true Bool.not_false decide_eq_true_eq decide_eq_false_iff_not eq_self List.getElem?_cons_zero List.getElem?_cons_succ List.getElem?_nil List.set_cons_zero List.set_cons_succ List.nil_append List.cons_append List.append_nil List.replicate_zero List.replicate_succ Nat.zero_add false_implies rng_lt rng_end rng_get cells_I cells_B cells_sl cut_one Int.toNat_natCast Int.natCast_nonneg List.headD_cons Int.lt_irrefl not_false_eq_true decide_false decide_true mI_length mI_cells mI_sz mI_isCell mI_mid mI_append mI_take mI_drop cells_val cells_own cells_agg isCell_I isCell_B isCell_nil isCell_sl isCell_own isCell_ptr isCell_fn isCell_rp isCell_yld cellsOk_I cellsOk_B cellsOk_nil cellsOk_sl cellsOk_own cellsOk_ptr cellsOk_fn cellsOk_rp cellsOk_yld cellsOk_agg cells_nil cells_ptr cells_fn cells_rp List.all_cons List.all_nil Bool.and_true Nat.mul_one Nat.zero_mul Nat.one_mul List.take_zero List.take_nil List.drop_nil List.drop_zero List.not_mem_nil Nat.le_refl Nat.zero_le mS_length mS_cells mS_sz mS_isCell mS_mid mS_append mS_take mS_drop cells_sI isCell_sI cellsOk_sI sI_eq succ_le_self' List.take_succ_cons List.drop_succ_cons List.take_length beq_self_eq_true List.mem_cons or_false forall_eq mI_put mI_rep O_guard' D_earlyG' D_stepG' W_cond' G_tt G_tf G_ft G_ff GE_tt GE_tf GE_ft GE_ff GS_tt GS_tf GS_ft GS_ff G_u GE_u GS_u IC_t IC_f xft xff xtt xtf z00 z20 z22 z02 zz tn0
/-- What one move leads to, without numbers below 0. -/
def nearL (X : List Int) (bs : List (List Int)) : List (List Int) := (bs.map (plusV 1 X)).filter posV
theorem nearL_snoc (X : List Int) (l : List (List Int)) (m : List Int) : nearL X (l ++ [m]) = nearL X l ++ (if posV (plusV 1 X m) then [plusV 1 X m] else []) := by
  unfold nearL; rw [List.map_append, List.filter_append]; simp [List.filter_cons]
def taskV (rows : List (List Int)) (n : Int) (bs : List (List Int)) (X : List Int) : AVal := .agg (.sl false false (mV rows) :: I n :: .sl false false (mV bs) :: mI X)
theorem taskV_eq (rows : List (List Int)) (n : Int) (bs : List (List Int)) (X : List Int) : taskV rows n bs X = .agg (.sl false false (mV rows) :: I n :: .sl false false (mV bs) :: mI X) := rfl
def zT : AVal := .agg [nilSl, I 0, nilSl, I 0, I 0, I 0, I 0]
/-- The answer of open. -/
def openR (a : List (List Int)) (x : List Int) (most : Int) (v : AVal) : Prop :=
  (Sp.vecOk a x 0 most = false ∧ v = .tup [zT, I 2]) ∨
  (Sp.vecOk a x 0 most = true ∧ ∃ bs, IsB (a.map Sp.pad) (a.getD 0 []).length bs ∧ v = .tup [taskV (a.map Sp.pad) (a.getD 0 []).length bs (Sp.pad x), I (if bs.any posV then 5 else 0)])
set_option maxRecDepth 20000 in
set_option maxHeartbeats 4000000 in
theorem s98 (a : List (List Int)) (x : List Int) (most : Int) (ha : ∀ l ∈ a, l.length < 9223372036854775808) (hl : a.length < 9223372036854775808) (hx : x.length < 9223372036854775808) :
    Abs.Spec Try.prog 98 [.sl false false (mS a), .sl false false (mI x), I most] [] fun v H' => H' = [] ∧ openR a x most v := by
  refine Abs.Spec.walk mixed fn98 nn98 t98 q98 nt98 (by simp) ?_
  simp only [w98, go_sem, Nat.reduceEqDiff, Nat.reduceAdd, Nat.reduceLT, Nat.reduceLeDiff, reduceIte, reduceCtorEq]
  refine CallK.by (CallV.of_spec (first := []) (cap := []) (Spec.liftE (s62 false false a ha hl) (by simp [bndL, AVal.bnd, mS_bnd]) (fun v hr => ?_) _)) fun v H' ⟨hr, hH⟩ => ?_
  · rcases hr with ⟨-, rfl⟩ | ⟨-, vs, n, rfl⟩ <;> simp [AVal.bnd, bndL, matV, mV_bnd]
  subst hH
  rcases hr with ⟨hm, hv⟩ | ⟨hm, vs, n, hv⟩
  rotate_left
  · subst hv
    simp only [matV_eq, List.getD_cons_zero, List.getD_cons_succ, go_sem, Nat.reduceEqDiff, Nat.reduceAdd, Nat.reduceLT, Nat.reduceLeDiff, reduceIte, reduceCtorEq]
    exact leafCT (cut true 7 [nilSl, I 0, nilSl, I 0, I 0, I 0, I 0]) (.tup [zT, I 2]) rfl ⟨by decide, fun h => by cases h⟩ ⟨.inl ⟨rfl, rfl⟩, rfl, trivial⟩ ⟨rfl, .inl ⟨by unfold Sp.vecOk; rw [hm]; rfl, rfl⟩⟩
  · subst hv
    obtain ⟨r1, r2, n1, n4⟩ := mat_rows hm
    obtain ⟨n, hn⟩ : ∃ n, (a.getD 0 []).length = n := ⟨_, rfl⟩
    have hmc : cut true 2 [sl false false (mV (a.map Sp.pad)), I (n : Int)] = matV (a.map Sp.pad) n := rfl
    have h63 := s63 false false (.sl false false (mV (a.map Sp.pad))) rfl n x 0 most (by omega) (by omega) hx
    have hvo : Sp.vecOk a x 0 most = (decide (x.length = n) && Sp.numbers x 0 most) := by unfold Sp.vecOk; rw [hm, hn, Bool.true_and]
    rw [hn] at n1 n4 ⊢
    simp only [matV_eq, List.getD_cons_zero, List.getD_cons_succ, hmc, go_sem, Nat.reduceEqDiff, Nat.reduceAdd, Nat.reduceLT, Nat.reduceLeDiff, reduceIte, reduceCtorEq]
    cases hb : (decide (x.length = n) && Sp.numbers x 0 most) with
    | false =>
      rw [hb, if_neg (by decide)] at h63
      refine CallK.pure (liftV h63 (by simp [bndL, AVal.bnd, mV_bnd, mI_bnd]) (by simp [AVal.bnd, bndL, vec, mI_bnd]) _) ?_
      simp only [vec_eq, List.getD_cons_zero, List.getD_cons_succ, go_sem, Nat.reduceEqDiff, Nat.reduceAdd, Nat.reduceLT, Nat.reduceLeDiff, reduceIte, reduceCtorEq]
      exact ⟨rfl, leafCT (cut true 7 [nilSl, I 0, nilSl, I 0, I 0, I 0, I 0]) (.tup [zT, I 2]) rfl ⟨by decide, fun h => by cases h⟩ ⟨.inl ⟨rfl, rfl⟩, rfl, trivial⟩ ⟨rfl, .inl ⟨by rw [hvo]; exact hb, rfl⟩⟩⟩
    | true =>
      rw [hb, if_pos rfl] at h63
      have xl : x.length = n := by rw [Bool.and_eq_true, decide_eq_true_eq] at hb; exact hb.1
      have Xl : (Sp.pad x).length = 4 := Sp.pad_len (by omega)
      obtain ⟨X, hX⟩ : ∃ X, Sp.pad x = X := ⟨_, rfl⟩
      rw [hX] at h63 Xl
      have Xm : (mI X).length = 4 := by rw [mI_length, Xl]
      have Xc : cut true 4 (mI X) = vec X := cut_vec Xl
      have acX := allI_cell X
      have h85 : ∀ H, CallV Try.prog (.fn (.func 85) [] []) [matV (a.map Sp.pad) n] H fun v H' => (∃ bs, IsB (a.map Sp.pad) n bs ∧ v = .sl false false (mV bs)) ∧ H' = H := fun H =>
        CallV.of_spec (first := []) (cap := []) (Spec.liftE (s85f (a.map Sp.pad) n (by omega) r2 r1) (by simp [bndL, matV, AVal.bnd, mV_bnd]) (fun v ⟨bs, _, h⟩ => by subst h; simp [AVal.bnd, mV_bnd]) H)
      refine CallK.pure (liftV h63 (by simp [bndL, AVal.bnd, mV_bnd, mI_bnd]) (by simp [AVal.bnd, bndL, vec, mI_bnd]) _) ?_
      simp only [vec_eq, List.getD_cons_zero, List.getD_cons_succ, Xm, Xc, hmc, go_sem, Nat.reduceEqDiff, Nat.reduceAdd, Nat.reduceLT, Nat.reduceLeDiff, reduceIte, reduceCtorEq]
      refine ⟨acX, CallKD.grow (h85 _) fun v H' ⟨⟨bs, hB, hv⟩, hH⟩ => ?_, CallKD.grow (h85 _) fun v H' ⟨⟨bs, hB, hv⟩, hH⟩ => ?_⟩
      all_goals
        subst hv hH
        refine ⟨.refl _, ?_⟩
        simp only [matV_eq, vec_eq, List.getD_cons_zero, List.getD_cons_succ, Xm, Xc, hmc, List.set_cons_succ, List.set_cons_zero, go_sem, Nat.reduceEqDiff, Nat.reduceAdd, Nat.reduceLT, Nat.reduceLeDiff, reduceIte, reduceCtorEq]
        have gT : cut true 7 (.sl false false (mV (a.map Sp.pad)) :: I n :: .sl false false (mV bs) :: mI X) = taskV (a.map Sp.pad) n bs X := by
          show AVal.agg (List.take 7 _) = _
          rw [List.take_of_length_le (by simp [Xm])]; rfl
        have hB4 : ∀ y ∈ bs, y.length = 4 := fun y hy => (hB.ok y hy).1
        have hBl := hB.len (by omega)
        have hk := s103 false false bs hB4 (.fn (.func 130) [] []) posV (fun y hy => (CallV.of_spec (first := []) (cap := []) (s130 y (hB4 y hy))).mono fun v H' ⟨a, b⟩ => ⟨b, a⟩) (fun H => by simp [vle, vle.vleL]) (by omega)
        refine ⟨by simp [acX], CallK.pure (liftV hk (by simp [bndL, AVal.bnd, mV_bnd]) rfl _) ?_⟩
        have tc : (taskV (a.map Sp.pad) n bs X).cells = .sl false false (mV (a.map Sp.pad)) :: I n :: .sl false false (mV bs) :: mI X := rfl
        have hres : (mI X).length + 1 + 1 + 1 = 7 := by omega
        have e1 : ∀ e, (∀ v, v = (AVal.tup [taskV (a.map Sp.pad) n bs X, I e]) → e = (if bs.any posV then 5 else 0) → openR a x most v) := fun e v hv he => .inr ⟨by rw [hvo]; exact hb, bs, by rw [hn]; exact hB, by rw [hn, hX, ← he]; exact hv⟩
        have tb : bndL 0 (AVal.sl false false (mV (a.map Sp.pad)) :: I n :: .sl false false (mV bs) :: mI X) = true := by simp [bndL, AVal.bnd, mV_bnd, mI_bnd]
        cases hp : bs.any posV with
        | true =>
          simp only [gT, Xm, tc, go_sem, Nat.reduceEqDiff, Nat.reduceAdd, Nat.reduceLT, Nat.reduceLeDiff, reduceIte, reduceCtorEq]
          exact ⟨by show (true && (true && (true && (mI X).all AVal.isCell))) = true; rw [acX]; rfl, leafCT (cut true 7 (.sl false false (mV (a.map Sp.pad)) :: I n :: .sl false false (mV bs) :: mI X)) (.tup [taskV (a.map Sp.pad) n bs X, I 5]) rfl ⟨by simp [Xm], fun h => by cases h⟩ ⟨by rw [gT]; exact .inl ⟨rfl, tb⟩, rfl, trivial⟩ ⟨rfl, e1 5 _ rfl (by rw [hp]; rfl)⟩⟩
        | false =>
          simp only [gT, Xm, tc, go_sem, Nat.reduceEqDiff, Nat.reduceAdd, Nat.reduceLT, Nat.reduceLeDiff, reduceIte, reduceCtorEq]
          exact ⟨by show (true && (true && (true && (mI X).all AVal.isCell))) = true; rw [acX]; rfl, leafCT (cut true 7 (.sl false false (mV (a.map Sp.pad)) :: I n :: .sl false false (mV bs) :: mI X)) (.tup [taskV (a.map Sp.pad) n bs X, I 0]) rfl ⟨by simp [Xm], fun h => by cases h⟩ ⟨by rw [gT]; exact .inl ⟨rfl, tb⟩, rfl, trivial⟩ ⟨rfl, e1 0 _ rfl (by rw [hp]; rfl)⟩⟩
end Go.Proofs.Ytipfjfmdjmaflaa
