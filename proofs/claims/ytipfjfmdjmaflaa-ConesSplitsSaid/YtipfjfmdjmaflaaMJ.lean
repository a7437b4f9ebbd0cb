/- Contracts: Split. -/
import Derived.Test.YtipfjfmdjmaflaaMI
namespace Go.Proofs.Ytipfjfmdjmaflaa
open Go.Abs AVal
set_option linter.unusedSimpArgs false
attribute [local go_sem] W_skip W_keep KQ_canon canon Fr.norm W_seq W_block W_scope W_exit W_ret W_ops W_draw KQ_nil KQ_norm_seq KQ_exit_seq KQ_ret_seq KQ_norm_block KQ_ret_block KQ_exit_block KQ_exit_loop KQ_ret_loop O_nil O_cons S_call S_mv SE_mv SD_mv S_pick SE_pick SD_pick S_bin SE_bin SD_bin S_eqb SE_eqb SD_eqb S_eqv SE_eqv SD_eqv S_eqnil SE_eqnil SD_eqnil S_un SE_un SD_un S_conv SE_conv SD_conv S_mkfn SE_mkfn SD_mkfn S_load SE_load SD_load S_nilck SE_nilck SD_nilck S_slS SE_slS SD_slS S_slP SE_slP SD_slP S_fldA SE_fldA SD_fldA S_fld SE_fld SD_fld S_ixS SE_ixS SD_ixS S_ixP SE_ixP SD_ixP S_ixV SE_ixV SD_ixV S_ixStr SE_ixStr SD_ixStr S_ext SE_ext SD_ext S_len SE_len SD_len S_lenStr SE_lenStr SD_lenStr S_lenc SE_lenc SD_lenc S_mn SE_mn SD_mn S_mx SE_mx SD_mx S_build SE_build SD_build S_alloc SD_alloc S_box SD_box S_bslice SD_bslice S_mksl SD_mksl S_store SD_store S_append SD_append S_copy SD_copy S_clr SD_clr aq_some aa_some al_some aqd_some aad_some ald_some ape_some D_done D_both D_early D_step SE_call SD_call IOpd.ev Fr.get Fr.put Fr.putd entryFr pickA binA binI isSh shI eqbA eqvA ints ints_mI Option.map_some eqnilA unA convA loadA nilckA intA slSA slPA fldAA fldVA ixSA ixPA ixVA ixStrA extA lenA lenStrA mnA mxA AVal.fits fillA fillOk buildA opa srcA appA stoA copA clrA rdFree zeros List.length_nil List.length_cons List.length_map List.map_cons List.map_nil Option.map_some Option.map_none if_true if_false ite_true ite_false true_and and_true and_self implies_true forall_const true_implies Bool.false_eq_true Bool.not_true Bool.not_false decide_eq_true_eq decide_eq_false_iff_not eq_self List.getElem?_cons_zero List.getElem?_cons_succ List.getElem?_nil List.set_cons_zero List.set_cons_succ List.nil_append List.cons_append List.append_nil List.replicate_zero List.replicate_succ Nat.zero_add false_implies rng_lt rng_end rng_get cells_I cells_B cells_sl cut_one Int.toNat_natCast Int.natCast_nonneg List.headD_cons Int.lt_irrefl not_false_eq_true decide_false decide_true mI_length mI_cells mI_sz mI_isCell mI_mid mI_append mI_take mI_drop cells_val cells_own cells_agg isCell_I isCell_B isCell_nil isCell_sl isCell_own isCell_ptr isCell_fn isCell_rp isCell_yld cellsOk_I cellsOk_B cellsOk_nil cellsOk_sl cellsOk_own cellsOk_ptr cellsOk_fn cellsOk_rp cellsOk_yld cellsOk_agg cells_nil cells_ptr cells_fn cells_rp List.all_cons List.all_nil Bool.and_true Nat.mul_one Nat.zero_mul Nat.one_mul List.take_zero List.take_nil List.drop_nil List.drop_zero List.not_mem_nil Nat.le_refl Nat.zero_le mS_length mS_cells mS_sz mS_isCell mS_mid mS_append mS_take mS_drop cells_sI isCell_sI cellsOk_sI sI_eq succ_le_self' List.take_succ_cons List.drop_succ_cons List.take_length beq_self_eq_true List.mem_cons or_false forall_eq mI_put mI_rep O_guard' D_earlyG' D_stepG' W_cond' G_tt G_tf G_ft G_ff GE_tt GE_tf GE_ft GE_ff GS_tt GS_tf GS_ft GS_ff G_u GE_u GS_u IC_t IC_f xft xff xtt xtf z00 z20 z22 z02 zz tn0

/-- Whether one fits, for IndexFunc. -/
theorem s97 (y v : List Int) (hy : y.length = 4) (hv : v.length = 4) : Abs.Spec Try.prog 97 [vec y, .rp (mI v)] [] fun r H' => H' = [] ∧ r = B (Sp.fitG y v) := by
  refine Abs.Spec.walk mixed fn97 nn97 t97 q97 nt97 (by simp) ?_
  have hyl : (mI y).length = 4 := by rw [mI_length, hy]
  have hvl : (mI v).length = 4 := by rw [mI_length, hv]
  have hyc : cut true 4 (mI y) = vec y := cut_vec hy
  have hvc : cut true 4 (mI v) = vec v := cut_vec hv
  simp only [w97, hyl, hvl, hyc, hvc, vec_eq, go_sem, Nat.reduceEqDiff, Nat.reduceAdd, Nat.reduceLT, Nat.reduceLeDiff, reduceIte, reduceCtorEq]
  refine ⟨allI_cell y, ?_⟩
  refine CallK.pure (liftV (s65 y v hy hv) (by simp [bndL, vec_bnd]) rfl _) ?_
  simp only [go_sem, Nat.reduceEqDiff, Nat.reduceAdd, Nat.reduceLT, Nat.reduceLeDiff, reduceIte, reduceCtorEq]
  exact leaf (B _) rfl ⟨rfl, rfl⟩
/-- What Split answers. -/
def splitC (a : List (List Int)) (x : List Int) (v : AVal) : Prop :=
  (Sp.vecOk a x (-100) 100 = false ∧ v = .tup [.sl false false (mS []), I 2]) ∨
  (Sp.vecOk a x (-100) 100 = true ∧ Sp.moveB (a.map Sp.pad) (Sp.pad x) = false ∧ v = .tup [.sl false false (mS []), I 4]) ∨
  (Sp.vecOk a x (-100) 100 = true ∧ Sp.moveB (a.map Sp.pad) (Sp.pad x) = true ∧ ∃ l : List (List Int), l.length ≤ 400 ∧ Sp.SplitOk (a.map Sp.pad) (a.getD 0 []).length (Sp.pad x) l ∧ v = .tup [.sl false false (mS (Sp.sortV (l.map fun y => y.take (a.getD 0 []).length))), I 0])
set_option maxRecDepth 20000 in
set_option maxHeartbeats 4000000 in
theorem s51 (nn t nn' t' : Bool) (a : List (List Int)) (x : List Int) (ha : ∀ l ∈ a, l.length < 9223372036854775808) (hl : a.length < 9223372036854775808) (hx : x.length < 9223372036854775808) :
    Abs.Spec Try.prog 51 [.sl nn t (mS a), .sl nn' t' (mI x)] [] fun v H' => H' = [] ∧ splitC a x v := by
  refine Abs.Spec.walk mixed fn51 nn51 t51 q51 nt51 (by simp) ?_
  simp only [w51, go_sem, Nat.reduceEqDiff, Nat.reduceAdd, Nat.reduceLT, Nat.reduceLeDiff, reduceIte, reduceCtorEq]
  refine CallK.by (CallV.of_spec (s62 nn t a ha hl)) fun v H' ⟨h1, h2⟩ => ?_
  subst h1
  rcases h2 with ⟨hm, rfl⟩ | ⟨hm, vs, n, rfl⟩
  rotate_left
  · have hb : Sp.vecOk a x (-100) 100 = false := by rw [Sp.vecOk, hm]; rfl
    simp only [matV_eq, List.getD_cons_zero, List.getD_cons_succ, go_sem, Nat.reduceEqDiff, Nat.reduceAdd, Nat.reduceLT, Nat.reduceLeDiff, reduceIte, reduceCtorEq]
    exact leaf2 (.tup [.sl false false (mS []), I 2]) ⟨⟨rfl, rfl, rfl⟩, rfl, trivial⟩ ⟨rfl, .inl ⟨hb, rfl⟩⟩
  obtain ⟨r1, r2, r3, r4⟩ := mat_rows hm
  obtain ⟨-, rpad, n1, n4⟩ := Sp.mat_cols hm rfl
  obtain ⟨n, hn⟩ : ∃ n, (a.getD 0 []).length = n := ⟨_, rfl⟩
  have hmc : cut true 2 [sl false false (mV (a.map Sp.pad)), I (n : Int)] = matV (a.map Sp.pad) n := rfl
  have n1' : 1 ≤ n := by omega
  have n4' : n ≤ 4 := by omega
  rw [hn]
  simp only [matV_eq, List.getD_cons_zero, List.getD_cons_succ, hmc, go_sem, Nat.reduceEqDiff, Nat.reduceAdd, Nat.reduceLT, Nat.reduceLeDiff, reduceIte, reduceCtorEq]
  refine CallK.pure (liftV (s63 nn' t' (.sl false false (mV (a.map Sp.pad))) rfl n x (-100) 100 (by omega) (by omega) hx) (by simp [bndL, matV, AVal.bnd, mV_bnd, mI_bnd]) (by split <;> simp [AVal.bnd, bndL, vec, mI_bnd]) _) ?_
  by_cases hok : (decide (x.length = n) && Sp.numbers x (-100) 100) = true
  rotate_left
  · have hv : Sp.vecOk a x (-100) 100 = false := by rw [Sp.vecOk, hm, hn, Bool.true_and]; simpa using hok
    have hzc : cut true 4 (mI [0, 0, 0, 0]) = vec [0, 0, 0, 0] := rfl
    rw [if_neg hok]
    simp only [List.getD_cons_zero, List.getD_cons_succ, vec_eq, go_sem, Nat.reduceEqDiff, Nat.reduceAdd, Nat.reduceLT, Nat.reduceLeDiff, reduceIte, reduceCtorEq]
    refine ⟨rfl, ?_⟩
    exact leaf2 (.tup [.sl false false (mS []), I 2]) ⟨⟨rfl, rfl, rfl⟩, rfl, trivial⟩ ⟨rfl, .inl ⟨hv, rfl⟩⟩
  have hv : Sp.vecOk a x (-100) 100 = true := by rw [Sp.vecOk, hm, hn, Bool.true_and]; exact hok
  rw [if_pos hok]
  rw [Bool.and_eq_true, decide_eq_true_eq] at hok
  obtain ⟨xl, xn⟩ := hok
  have xb : Sp.inB 100 x := Sp.inB_numbers.2 xn
  obtain ⟨X, hX⟩ : ∃ X, Sp.pad x = X := ⟨_, rfl⟩
  have Xl : X.length = 4 := by rw [← hX]; exact Sp.pad_len (by omega)
  have Xb : Sp.inB 100 X := by
    rw [← hX]; intro z hz
    rcases List.mem_append.1 hz with hz | hz
    · exact xb z hz
    · rw [List.eq_of_mem_replicate hz]; omega
  have Xp : ∀ j, n ≤ j → X.getD j 0 = 0 := fun j hj => by rw [← hX]; exact Sp.pad_getD xl hj
  have Xm : (mI X).length = 4 := by rw [mI_length, Xl]
  have Xc : cut true 4 (mI X) = vec X := cut_vec Xl
  rw [hX]
  simp only [List.getD_cons_zero, List.getD_cons_succ, vec_eq, Xm, Xc, hmc, matV_eq, go_sem, Nat.reduceEqDiff, Nat.reduceAdd, Nat.reduceLT, Nat.reduceLeDiff, reduceIte, reduceCtorEq]
  refine ⟨allI_cell X, ?_⟩
  refine CallK.pure (liftV (s67 (a.map Sp.pad) n r1 X 100 (by decide) (by decide) Xl Xb) (by simp [bndL, vec, matV, AVal.bnd, mV_bnd, mI_bnd]) rfl _) ?_
  by_cases hmv : Sp.moveB (a.map Sp.pad) X = true
  rotate_left
  · have hmv : Sp.moveB (a.map Sp.pad) X = false := by simpa using hmv
    simp only [hmv, go_sem, Nat.reduceEqDiff, Nat.reduceAdd, Nat.reduceLT, Nat.reduceLeDiff, reduceIte, reduceCtorEq]
    exact leaf2 (.tup [.sl false false (mS []), I 4]) ⟨⟨rfl, rfl, rfl⟩, rfl, trivial⟩ ⟨rfl, .inr (.inl ⟨hv, by rw [hX]; exact hmv, rfl⟩)⟩
  simp only [hmv, hmc, matV_eq, go_sem, Nat.reduceEqDiff, Nat.reduceAdd, Nat.reduceLT, Nat.reduceLeDiff, reduceIte, reduceCtorEq]
  refine CallK.by (CallV.of_spec (first := []) (cap := []) (Spec.liftE (s85f (a.map Sp.pad) n (by omega) r2 r1) (by simp [bndL, matV, AVal.bnd, mV_bnd]) (fun v ⟨bs, _, h⟩ => by subst h; simp [AVal.bnd, mV_bnd]) _)) fun v H' ⟨⟨bs, hB, hv'⟩, hH⟩ => ?_
  subst hv' hH
  have hBl := hB.len (by omega)
  have hB4 : ∀ y ∈ bs, y.length = 4 := fun y hy => (hB.ok y hy).1
  have hB' : IsB (a.map Sp.pad) (a.getD 0 []).length bs := by rw [hn]; exact hB
  have hsz : Sp.size X ≤ 400 := Sp.size_le (by decide) Xb
  simp only [go_sem, Nat.reduceEqDiff, Nat.reduceAdd, Nat.reduceLT, Nat.reduceLeDiff, reduceIte, reduceCtorEq]
  refine W_loop (fun q : { q : List Int × List (List Int) // Sp.Part (a.map Sp.pad) n X q.1 q.2 } => ([(6, ptr 0 0), (8, ptr 1 0), (9, .sl false false (mV bs)), (10, .own 2 0 q.1.2.length q.1.2.length 4)], [.cells [.sl false false (mV (a.map Sp.pad)), I n], .cells (mI q.1.1), .cells (mI q.1.2.flatten)])) (fun q => (Sp.size q.1.1).toNat) ⟨(X, []), Sp.Part.start Xl Xp hmv⟩ [some 0, some 1, none] (Wk.mk0 rfl (by simp [imgs, Blk.alive]) (by simp [hle, csle, vle, vle.vleL, imgs, Blk.alive, mI_bnd, mV_bnd, bndL, AVal.bnd, mI_nil]) (by simp [fle, vle, Fr.get, mV_bnd])) ?_
  rintro ⟨⟨v, l⟩, hq⟩
  dsimp only at hq ⊢
  have vm : (mI v).length = 4 := by rw [mI_length, hq.len]
  have vc : cut true 4 (mI v) = vec v := cut_vec hq.len
  by_cases hz : v = Sp.z4
  · have hz1 : (true ^^ v == [0, 0, 0, 0]) = false := by rw [hz]; rfl
    have hl4 : ∀ y ∈ l, y.length = 4 := fun y hy => (hq.each y hy).1.mv.len
    have hsp := hq.done hz
    have hln : l.length ≤ 400 := by have := hq.few; have := Sp.size_nn v; omega
    simp only [w51L0, w51T1, vm, vc, vec_eq, hz1, hmc, matV_eq, go_sem, Nat.reduceEqDiff, Nat.reduceAdd, Nat.reduceLT, Nat.reduceLeDiff, reduceIte, reduceCtorEq]
    refine ⟨hq.len, ?_⟩
    have k1 := (s84 (a.map Sp.pad) n n1' n4' l hl4 (by omega)).mono (R' := fun v' H' => v' = .sl false false (mS (Sp.sortV (l.map fun x => x.take n))) ∧ H' = []) fun v H' h => ⟨h.2, h.1⟩
    have k2 := Spec.give (args := [matV (a.map Sp.pad) n, .own 2 0 l.length l.length 4]) (H := [.cells [.sl false false (mV (a.map Sp.pad)), I n], .cells (mI v), .cells (mI l.flatten)]) (ρ := []) k1 rfl (Wk.nil ⟨.inl ⟨rfl, by simp [bndL, AVal.bnd, mV_bnd]⟩, vle_mV hl4 rfl (by simp) rfl, trivial⟩) (by simp [AVal.bnd, mS_bnd])
    refine CallK.by (CallV.of_spec (first := []) (cap := []) k2) fun v' H' ⟨e1, e2⟩ => ?_
    subst e1 e2
    simp only [go_sem, Nat.reduceEqDiff, Nat.reduceAdd, Nat.reduceLT, Nat.reduceLeDiff, reduceIte, reduceCtorEq]
    exact leaf2 (.tup [.sl false false (mS (Sp.sortV (l.map fun y => y.take n))), I 0]) ⟨⟨mS_bnd, fun h => h, fun h => h, rfl⟩, rfl, trivial⟩ ⟨rfl, .inr (.inr ⟨hv, by rw [hX]; exact hmv, l, hln, by rw [hX, hn]; exact hsp, by rw [hn]⟩)⟩
  have hz1 : (true ^^ v == [0, 0, 0, 0]) = true := by
    have : (v == [0, 0, 0, 0]) = false := beq_eq_false_iff_ne.2 hz
    rw [this]; rfl
  have hq0 : Sp.Part (a.map Sp.pad) (a.getD 0 []).length X v l := by rw [hn]; exact hq
  obtain ⟨y0, hy0, hf0⟩ := hq0.some hm hB' hz
  have vb : Sp.inB 100 v := Sp.fit_inB Xl hq.len Xb hq.fit
  have fg : ∀ y ∈ bs, Sp.fitG y v = Sp.fitR y v := fun y hy => Sp.fitG_fitR (by rw [hB4 y hy, hq.len]) (Sp.inB_mono (hB.ok y hy).2 (by decide)) (Sp.inB_mono vb (by decide))
  have hp0 : 0 ≤ Sp.idx (fun y => Sp.fitG y v) bs := Sp.idx_pos ⟨y0, hy0, by rw [fg y0 hy0]; exact hf0⟩
  obtain ⟨i, y, hi, hget, hpy, -⟩ := idx_at hp0
  obtain ⟨pre, suf, hbs, hpl⟩ : ∃ pre suf, bs = pre ++ y :: suf ∧ pre.length = i := by
    obtain ⟨h1, h2⟩ := List.getElem?_eq_some_iff.1 hget
    exact ⟨bs.take i, bs.drop (i + 1), by rw [← h2, ← List.drop_eq_getElem_cons h1, List.take_append_drop], by rw [List.length_take]; omega⟩
  have hym : y ∈ bs := by rw [hbs]; simp
  have hy4 := hB4 y hym
  have hyM : Sp.Mini (a.map Sp.pad) n y := by rw [← hn]; exact (Sp.mem_bs hm hB').1 hym
  have hyf : Sp.fitR y v = true := by rw [← fg y hym]; exact hpy
  have yb : Sp.inB 100 y := Sp.fit_inB hq.len hy4 vb hyf
  obtain ⟨hst, hlt⟩ := hq.step Xl hyM hyf
  have hk96 := s96 false false bs hB4 (.fn (.func 97) [] [.rp (mI v)]) (fun y => Sp.fitG y v) (fun y hy => (CallV.of_spec (first := []) (s97 y v (hB4 y hy) hq.len)).mono fun v H' ⟨a, b⟩ => ⟨b, a⟩) (fun H => by simp [vle, vle.vleL, mI_bnd]) (by omega)
  rw [hi, ← hpl] at hk96
  have yc : cut true 4 (mI y) = vec y := cut_vec hy4
  have ym : (mI y).length = 4 := by rw [mI_length, hy4]
  have hln := hq.few
  have hsv := Sp.size_nn v
  obtain ⟨U, hU⟩ : ∃ U, plusV (-1) v y = U := ⟨_, rfl⟩
  have Ul : U.length = 4 := by rw [← hU]; exact plusV_len hq.len hy4
  have Uc : cut true 4 (mI U) = vec U := cut_vec Ul
  have Um : (mI U).length = 4 := by rw [mI_length, Ul]
  simp only [w51L0, vm, vc, vec_eq, hz1, go_sem, Nat.reduceEqDiff, Nat.reduceAdd, Nat.reduceLT, Nat.reduceLeDiff, reduceIte, reduceCtorEq]
  refine ⟨hq.len, ?_⟩
  refine CallK.pure (CallV.of_spec (first := []) (cap := []) (Spec.lend (args' := [.sl false false (mV bs), .fn (.func 97) [] [.rp (mI v)]]) hk96 rfl ?_)) ?_
  · have v0 : ¬ mI v = [] := fun e => by rw [e] at vm; simp at vm
    have v1 : List.take 4 (mI v) = mI v := List.take_of_length_le (by omega)
    simp [vle, vle.vleL, mV_bnd, mI_bnd, vm, v0, v1]
  subst hbs
  have c3 : (pre.length : Int) < (pre ++ y :: suf).length := by simp; omega
  have hl4 : ∀ z ∈ l, z.length = 4 := fun z hz => (hq.each z hz).1.mv.len
  have fl := flat_len hl4
  have dz : mI y ++ List.drop 4 [[I 0, I 0, I 0, I 0]].flatten = mI y := List.append_nil _
  have tz : List.take 4 (mI y) = mI y := List.take_of_length_le (by omega)
  have tl : l.flatten.take (l.length * 4) = l.flatten := List.take_of_length_le (by omega)
  have fe : mI l.flatten ++ mI y = mI (l ++ [y]).flatten := by simp [mI]
  have y4 : (4 : Nat) ≤ 4 := Nat.le_refl 4
  simp only [mV_mid, mV_length, c3, yc, ym, vec_eq, vc, dz, tz, tl, fe, go_sem, Nat.reduceEqDiff, Nat.reduceAdd, Nat.reduceLT, Nat.reduceLeDiff, reduceIte, reduceCtorEq]
  have vl := hq.len
  refine ⟨⟨by omega, by omega⟩, by omega, ?_⟩
  refine CallKD.pure (liftV (s68 v y (-1) hq.len hy4 (.inr rfl) (Sp.inB_mono vb (by decide)) (Sp.inB_mono yb (by decide))) (by simp [bndL, vec_bnd, AVal.bnd, mI_bnd]) (by simp [AVal.bnd, vec, mI_bnd])) ?_
  rw [hU] at hst hlt ⊢
  simp only [Um, Uc, vec_eq, go_sem, Nat.reduceEqDiff, Nat.reduceAdd, Nat.reduceLT, Nat.reduceLeDiff, reduceIte, reduceCtorEq]
  refine ⟨⟨allI_cell U, by omega⟩, ?_⟩
  rw [List.drop_of_length_le (by omega : v.length ≤ 4), List.append_nil]
  have hsu := Sp.size_nn U
  refine round1 rfl ⟨(U, l ++ [y]), hst⟩ [some 0, some 1, some 4] (by dsimp only; omega) (Wk.mk0 rfl (by simp [imgs, Blk.alive]) (by simp [hle, csle, vle, vle.vleL, imgs, Blk.alive, mI_bnd, mV_bnd, bndL, AVal.bnd]) (by simp [fle, vle, Fr.get, mV_bnd]))
end Go.Proofs.Ytipfjfmdjmaflaa
