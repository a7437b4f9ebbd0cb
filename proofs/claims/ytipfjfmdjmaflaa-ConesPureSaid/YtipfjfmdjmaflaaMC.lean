/- Contracts: ConesMinimal. -/
import Derived.Test.YtipfjfmdjmaflaaMB
import Derived.Test.YtipfjfmdjmaflaaLY
namespace Go.Proofs.Ytipfjfmdjmaflaa
open Go.Abs AVal
set_option linter.unusedSimpArgs false
attribute [local go_sem] W_skip W_keep KQ_canon canon Fr.norm W_seq W_block W_scope W_exit W_ret W_ops W_draw KQ_nil KQ_norm_seq KQ_exit_seq KQ_ret_seq KQ_norm_block KQ_ret_block KQ_exit_block KQ_exit_loop KQ_ret_loop O_nil O_cons S_call S_mv SE_mv SD_mv S_pick SE_pick SD_pick S_bin SE_bin SD_bin S_eqb SE_eqb SD_eqb S_eqv SE_eqv SD_eqv S_eqnil SE_eqnil SD_eqnil S_un SE_un SD_un S_conv SE_conv SD_conv S_mkfn SE_mkfn SD_mkfn S_load SE_load SD_load S_nilck SE_nilck SD_nilck S_slS SE_slS SD_slS S_slP SE_slP SD_slP S_fldA SE_fldA SD_fldA S_fld SE_fld SD_fld S_ixS SE_ixS SD_ixS S_ixP SE_ixP SD_ixP S_ixV SE_ixV SD_ixV S_ixStr SE_ixStr SD_ixStr S_ext SE_ext SD_ext S_len SE_len SD_len S_lenStr SE_lenStr SD_lenStr S_lenc SE_lenc SD_lenc S_mn SE_mn SD_mn S_mx SE_mx SD_mx S_build SE_build SD_build S_alloc SD_alloc S_box SD_box S_bslice SD_bslice S_mksl SD_mksl S_store SD_store S_append SD_append S_copy SD_copy S_clr SD_clr aq_some aa_some al_some aqd_some aad_some ald_some ape_some D_done D_both D_early D_step SE_call SD_call IOpd.ev Fr.get Fr.put Fr.putd entryFr pickA binA binI isSh shI eqbA eqvA ints ints_mI Option.map_some eqnilA unA convA loadA nilckA intA slSA slPA fldAA fldVA ixSA ixPA ixVA ixStrA extA lenA lenStrA mnA mxA AVal.fits fillA fillOk buildA opa srcA appA stoA copA clrA rdFree zeros List.length_nil List.length_cons List.length_map List.map_cons List.map_nil Option.map_some Option.map_none if_true if_false ite_true ite_false true_and and_true and_self implies_true forall_const true_implies Bool.false_eq_true Bool.not_true Bool.not_false decide_eq_true_eq decide_eq_false_iff_not eq_self List.getElem?_cons_zero List.getElem?_cons_succ List.getElem?_nil List.set_cons_zero List.set_cons_succ List.nil_append List.cons_append List.append_nil List.replicate_zero List.replicate_succ Nat.zero_add false_implies rng_lt rng_end rng_get cells_I cells_B cells_sl cut_one Int.toNat_natCast Int.natCast_nonneg List.headD_cons Int.lt_irrefl not_false_eq_true decide_false decide_true mI_length mI_cells mI_sz mI_isCell mI_mid mI_append mI_take mI_drop cells_val cells_own cells_agg isCell_I isCell_B isCell_nil isCell_sl isCell_own isCell_ptr isCell_fn isCell_rp isCell_yld cellsOk_I cellsOk_B cellsOk_nil cellsOk_sl cellsOk_own cellsOk_ptr cellsOk_fn cellsOk_rp cellsOk_yld cellsOk_agg cells_nil cells_ptr cells_fn cells_rp List.all_cons List.all_nil Bool.and_true Nat.mul_one Nat.zero_mul Nat.one_mul List.take_zero List.take_nil List.drop_nil List.drop_zero List.not_mem_nil Nat.le_refl Nat.zero_le mS_length mS_cells mS_sz mS_isCell mS_mid mS_append mS_take mS_drop cells_sI isCell_sI cellsOk_sI sI_eq succ_le_self' List.take_succ_cons List.drop_succ_cons List.take_length beq_self_eq_true List.mem_cons or_false forall_eq mI_put mI_rep O_guard' D_earlyG' D_stepG' W_cond' G_tt G_tf G_ft G_ff GE_tt GE_tf GE_ft GE_ff GS_tt GS_tf GS_ft GS_ff G_u GE_u GS_u IC_t IC_f xft xff xtt xtf z00 z20 z22 z02 zz tn0

theorem getD_mem {L : List (List Int)} {i : Nat} (h : i < L.length) : L.getD i [] ∈ L := by
  rw [List.getD_eq_getElem?_getD, List.getElem?_eq_getElem h]; exact List.getElem_mem _
theorem asc_getD {L : List (List Int)} (h : L.Pairwise fun x y => Sp.cmpL x y < 0) {i j : Nat} (hij : i < j) (hj : j < L.length) : Sp.cmpL (L.getD i []) (L.getD j []) < 0 := by
  rw [List.getD_eq_getElem?_getD, List.getD_eq_getElem?_getD, List.getElem?_eq_getElem (by omega), List.getElem?_eq_getElem hj]
  exact List.pairwise_iff_getElem.1 h i j (by omega) hj hij
theorem asc_ne {L : List (List Int)} (h : L.Pairwise fun x y => Sp.cmpL x y < 0) {i j : Nat} (hi : i < L.length) (hj : j < L.length) (hij : i ≠ j) : L.getD i [] ≠ L.getD j [] := by
  intro e
  rcases Nat.lt_or_gt_of_ne hij with hl | hl
  · have := asc_getD h hl hj; rw [e, Sp.cmpL_self] at this; omega
  · have := asc_getD h hl hi; rw [e, Sp.cmpL_self] at this; omega
set_option maxRecDepth 20000 in
set_option maxHeartbeats 4000000 in
theorem s8 (a : List (List Int)) (ha : ∀ l ∈ a, l.length < 9223372036854775808) (hl : a.length < 9223372036854775808) :
    Abs.Spec Try.prog 8 [.sl false false (mS a)] [] fun v H' => H' = [] ∧ v = B true := by
  obtain ⟨ha', hl'⟩ := tab6_len ha hl
  refine Abs.Spec.walk mixed fn8 nn8 t8 q8 nt8 (by simp) ?_
  simp only [w8, go_sem, Nat.reduceEqDiff, Nat.reduceAdd, Nat.reduceLT, Nat.reduceLeDiff, reduceIte, reduceCtorEq]
  refine CallK.by (CallV.of_spec (s18 false false a ha hl)) fun v H' ⟨h1, h2⟩ => ?_
  subst h1 h2
  simp only [go_sem, Nat.reduceEqDiff, Nat.reduceAdd, Nat.reduceLT, Nat.reduceLeDiff, reduceIte, reduceCtorEq]
  refine CallK.by (CallV.of_spec (s39 false false _ ha' hl')) fun v H' ⟨h1, hr⟩ => ?_
  subst h1
  rcases hr with ⟨hm, hv⟩ | ⟨hm, hv⟩
  · subst hv
    simp only [List.getD_cons_zero, List.getD_cons_succ, go_sem, Nat.reduceEqDiff, Nat.reduceAdd, Nat.reduceLT, Nat.reduceLeDiff, reduceIte, reduceCtorEq]
    refine CallK.by (CallV.of_spec s25) fun v H' ⟨h1, h2⟩ => ?_
    subst h1 h2
    simp only [go_sem, Nat.reduceEqDiff, Nat.reduceAdd, Nat.reduceLT, Nat.reduceLeDiff, reduceIte, reduceCtorEq]
    exact leaf (B true) rfl ⟨rfl, rfl⟩
  rw [Sp.mat_table.1] at hm
  rw [Sp.mat_table.2 hm] at hv
  obtain ⟨bs, hB, hv⟩ := hv
  subst hv
  obtain ⟨L, hL⟩ : ∃ L, Sp.ansL (a.getD 0 []).length bs = L := ⟨_, rfl⟩
  rw [show Sp.sortV (bs.map fun x => x.take (a.getD 0 []).length) = L from hL]
  have f1 := Sp.ans_len hm hB
  have f2 := Sp.ans_asc hm hB
  have f3 := fun x => Sp.ans_num (x := x) hm hB
  have f4 := fun x => Sp.ans_some (x := x) hm hB
  have f5 := fun x => Sp.ans_times (x := x) hm hB
  have f6 := fun x => Sp.ans_back (x := x) hm hB
  have f7 := fun x y => Sp.ans_fit (x := x) (y := y) hm hB
  have f8 : ∀ x ∈ Sp.ansL (a.getD 0 []).length bs, x.length = (a.getD 0 []).length := fun x hx => ((Sp.mem_ans hm hB).1 hx).1
  rw [hL] at f1 f2 f3 f4 f5 f6 f7 f8
  obtain ⟨-, -, n1, n4⟩ := Sp.mat_cols hm rfl
  have hrow0 : 0 < a.length := (Sp.mat_spec hm).1
  have g0 := mS_getD hrow0
  have c0 : (0 : Int) < a.length := by omega
  obtain ⟨n, hn⟩ : ∃ n, (a.getD 0 []).length = n := ⟨_, rfl⟩
  rw [hn] at f8 n1 n4
  simp only [List.getD_cons_zero, List.getD_cons_succ, go_sem, Nat.reduceEqDiff, Nat.reduceAdd, Nat.reduceLT, Nat.reduceLeDiff, reduceIte, reduceCtorEq]
  refine CallK.by (CallV.of_spec (s40 false false a ha hl)) fun v H' ⟨h1, h2⟩ => ?_
  subst h1 h2
  have c1 : ¬ (400 : Int) < L.length := by omega
  simp only [hm, c1, go_sem, Nat.reduceEqDiff, Nat.reduceAdd, Nat.reduceLT, Nat.reduceLeDiff, reduceIte, reduceCtorEq]
  refine W_loop (fun q : { i : Nat // i ≤ L.length } => ([(0, .sl false false (mS a)), (3, .sl false false (mS L)), (36, .sl false false (mS L)), (37, I L.length), (38, I q.1)], [])) (fun q => L.length - q.1) ⟨0, by omega⟩ [] (Wk.nil (by simp [fle, vle, Fr.get, mS_bnd])) ?_
  rintro ⟨i, hi⟩
  dsimp only
  by_cases hil : i < L.length
  rotate_left
  · have c2 : ¬ (i : Int) < L.length := by omega
    simp only [w8L0, w8T5, c2, go_sem, Nat.reduceEqDiff, Nat.reduceAdd, Nat.reduceLT, Nat.reduceLeDiff, reduceIte, reduceCtorEq]
    refine CallK.by (CallV.of_spec s25) fun v H' ⟨h1, h2⟩ => ?_
    subst h1 h2
    simp only [go_sem, Nat.reduceEqDiff, Nat.reduceAdd, Nat.reduceLT, Nat.reduceLeDiff, reduceIte, reduceCtorEq]
    exact leaf (B true) rfl ⟨rfl, rfl⟩
  have c2 : (i : Int) < L.length := by omega
  have gi := mS_getD hil
  have xm := getD_mem hil
  obtain ⟨x, hx⟩ : ∃ x, L.getD i [] = x := ⟨_, rfl⟩
  rw [hx] at gi xm
  have xl := f8 x xm
  have gl : (mI (a.getD 0 [])).length = n := by rw [mI_length, hn]
  have gx : (mI x).length = n := by rw [mI_length, xl]
  simp only [w8L0, c0, c2, gi, g0, gl, gx, go_sem, Nat.reduceEqDiff, Nat.reduceAdd, Nat.reduceLT, Nat.reduceLeDiff, reduceIte, reduceCtorEq]
  have nF : ((n : Int) != (n : Int)) = false := bne_self_eq_false _
  have xb : Sp.numbers x (-1000) 1000 = true := Sp.inB_numbers.1 (Sp.inB_mono (f3 x xm) (by decide))
  have x9 : x.length < 9223372036854775808 := by omega
  refine ⟨Int.le_refl _, ?_⟩
  simp only [nF, go_sem, Nat.reduceEqDiff, Nat.reduceAdd, Nat.reduceLT, Nat.reduceLeDiff, reduceIte, reduceCtorEq]
  refine CallK.pure (liftV (s24 false false x (-1000) 1000 x9) (by simp [bndL, AVal.bnd, mI_bnd]) rfl _) ?_
  simp only [xb, go_sem, Nat.reduceEqDiff, Nat.reduceAdd, Nat.reduceLT, Nat.reduceLeDiff, reduceIte, reduceCtorEq]
  let St : { j : Nat // j ≤ n } → Fr × AHeap := fun q => ([(0, .sl false false (mS a)), (3, .sl false false (mS L)), (5, I i), (6, .sl false false (mI x)), (7, ptr 0 0), (8, B ((x.take q.1).any fun z => z != 0)), (36, .sl false false (mS L)), (37, I L.length), (38, I i), (69, .sl false false (mI x)), (70, I n), (71, I q.1)], [.cells [.own 1 0 q.1 q.1 1], .cells (mI ((x.take q.1).map fun z => -z))])
  refine (fun (hb : ∀ q, W { P := Try.prog, B := 0, n := 128, rg := true } (retA 0 r8 fun v H' => H' = [] ∧ v = B true) c8L1 (Kont.loop [] St (fun q => n - q.1) q :: [Kont.block 2, Kont.seq c8T2, Kont.block 1, Kont.seq c8T4,
      Kont.loop [] (fun q : { i : Nat // i ≤ L.length } => ([(0, .sl false false (mS a)), (3, .sl false false (mS L)), (36, .sl false false (mS L)), (37, I L.length), (38, I q.1)], [])) (fun q => L.length - q.val) ⟨i, hi⟩, Kont.block 0, Kont.seq c8T5]) (St q).1 (St q).2 []) => ?main) ?hb
  case main =>
    refine G.splitP (fun h0 => ?_) fun h0 => ?_
    · have hp : i - 1 < L.length := by omega
      have gp := mS_getD hp
      have hc := asc_getD f2 (show i - 1 < i by omega) hil
      rw [hx] at hc
      obtain ⟨p, hpx⟩ : ∃ p, L.getD (i - 1) [] = p := ⟨_, rfl⟩
      have pl := f8 p (by rw [← hpx]; exact getD_mem hp)
      rw [hpx] at gp hc
      have e1 : IntKind.i64.wrap ((i : Int) - 1) = ((i - 1 : Nat) : Int) := by rw [wrap64 (by omega) (by omega)]; omega
      have c3 : ((i - 1 : Nat) : Int) < L.length := by omega
      have hc' : ¬ Sp.cmpL p x ≥ 0 := by omega
      simp only [e1, gp, c3, go_sem, Nat.reduceEqDiff, Nat.reduceAdd, Nat.reduceLT, Nat.reduceLeDiff, reduceIte, reduceCtorEq]
      refine CallK.pure (liftV (s41 false false false false p x (by omega) x9) (by simp [bndL, AVal.bnd, mI_bnd]) rfl _) ?_
      simp only [hc', decide_false, xl, go_sem, Nat.reduceEqDiff, Nat.reduceAdd, Nat.reduceLT, Nat.reduceLeDiff, reduceIte, reduceCtorEq]
      refine W_loop St (fun q => n - q.1) ⟨0, by omega⟩ [some 0, none] (Wk.mk0 rfl (by simp [imgs, Blk.alive, St]) (by simp [hle, csle, vle, vle.vleL, imgs, Blk.alive, nilSl, mI_nil, St]) (by simp [fle, vle, Fr.get, mS_bnd, mI_bnd, St])) ?_
      exact hb
    · simp only [xl, go_sem, Nat.reduceEqDiff, Nat.reduceAdd, Nat.reduceLT, Nat.reduceLeDiff, reduceIte, reduceCtorEq]
      refine W_loop St (fun q => n - q.1) ⟨0, by omega⟩ [some 0, none] (Wk.mk0 rfl (by simp [imgs, Blk.alive, St]) (by simp [hle, csle, vle, vle.vleL, imgs, Blk.alive, nilSl, mI_nil, St]) (by simp [fle, vle, Fr.get, mS_bnd, mI_bnd, St])) ?_
      exact hb
  rintro ⟨j, hj⟩
  dsimp only [St]
  by_cases hjn : j < n
  · have d1 : (j : Int) < n := by omega
    have gj : (mI x).getD j any = I (x.getD j 0) := by
      simp [mI, List.getD_eq_getElem?_getD, show j < x.length by omega]
    have tj := Sp.take_snoc (l := x) (k := j) (by omega)
    have xj := Sp.inB_getD (f3 x xm) j
    have ng : IntKind.i64.wrap (0 - x.getD j 0) = -(x.getD j 0) := by rw [wrap64 (by omega) (by omega)]; omega
    have hw : IntKind.i64.wrap ((j : Int) + 1) = (j : Int) + 1 := wrap64 (by omega) (by omega)
    have ea : (x.take (j + 1)).any (fun z => z != 0) = ((x.take j).any (fun z => z != 0) || (x.getD j 0 != 0)) := by rw [tj]; simp
    have em : mI (((x.take j).map fun z => -z).take j) ++ [I (-(x.getD j 0))] = mI ((x.take (j + 1)).map fun z => -z) := by
      rw [tj, List.take_of_length_le (by simp; omega)]; simp [mI]
    simp only [w8L1, d1, gj, ng, go_sem, Nat.reduceEqDiff, Nat.reduceAdd, Nat.reduceLT, Nat.reduceLeDiff, reduceIte, reduceCtorEq]
    refine ⟨by omega, ⟨by rw [List.length_take]; omega, by omega⟩, ?_⟩
    refine G.split (fun h => ?_) fun h => ?_
    · simp only [hw, em, go_sem, Nat.reduceEqDiff, Nat.reduceAdd, Nat.reduceLT, Nat.reduceLeDiff, reduceIte, reduceCtorEq]
      refine round1 rfl ⟨j + 1, by omega⟩ [some 0, some 3] (by dsimp only; omega) (Wk.mk0 rfl (by simp [imgs, Blk.alive]) (by simp [hle, csle, vle, vle.vleL, imgs, Blk.alive, mI_bnd, St]) (by simp [fle, vle, Fr.get, mS_bnd, mI_bnd, St, ea, h]))
    · simp only [hw, em, go_sem, Nat.reduceEqDiff, Nat.reduceAdd, Nat.reduceLT, Nat.reduceLeDiff, reduceIte, reduceCtorEq]
      refine round1 rfl ⟨j + 1, by omega⟩ [some 0, some 3] (by dsimp only; omega) (Wk.mk0 rfl (by simp [imgs, Blk.alive]) (by simp [hle, csle, vle, vle.vleL, imgs, Blk.alive, mI_bnd, St]) (by simp [fle, vle, Fr.get, mS_bnd, mI_bnd, St, ea, h]))
  have d1 : ¬ (j : Int) < n := by omega
  have ej : j = n := by omega
  subst ej
  have tx : x.take j = x := List.take_of_length_le (by omega)
  have bk := f6 x xm
  have bl : (x.map fun z => -z).length = j := by rw [List.length_map, xl]
  obtain ⟨y, hy⟩ : ∃ y, (x.map fun z => -z) = y := ⟨_, rfl⟩
  obtain ⟨tv, td⟩ := f5 x xm
  rw [hy] at bk bl
  have fs := f4 x xm
  simp only [w8L1, w8T2, d1, tx, fs, hy, go_sem, Nat.reduceEqDiff, Nat.reduceAdd, Nat.reduceLT, Nat.reduceLeDiff, reduceIte, reduceCtorEq]
  refine CallK.pure (liftV (s18 false false a ha hl) (by simp [bndL, AVal.bnd, mS_bnd]) (by simp [AVal.bnd, mS_bnd]) _) ?_
  rw [Sp.mat_table.2 hm]
  simp only [go_sem, Nat.reduceEqDiff, Nat.reduceAdd, Nat.reduceLT, Nat.reduceLeDiff, reduceIte, reduceCtorEq]
  refine CallK.pure (liftV (s38' false false x (by omega)) (by simp [bndL, AVal.bnd, mI_bnd]) (by simp [AVal.bnd, mI_bnd]) _) ?_
  simp only [go_sem, Nat.reduceEqDiff, Nat.reduceAdd, Nat.reduceLT, Nat.reduceLeDiff, reduceIte, reduceCtorEq]
  have ht : timesA a x = .tup [.sl false false (mI (timesV a x)), I 0] := by rw [timesA, if_pos tv]
  have hs17 := s17 false false false false a x ha hl x9
  rw [ht] at hs17
  refine CallK.pure (liftV hs17 (by simp [bndL, AVal.bnd, mI_bnd, mS_bnd]) (by simp [AVal.bnd, bndL, mI_bnd]) _) ?_
  have hz : (timesV a x).any (fun z => z != 0) = false := by
    rw [List.any_eq_false]
    intro z hz
    obtain ⟨r, hr, rfl⟩ := List.mem_map.1 hz
    simp [td r hr]
  simp only [List.getD_cons_zero, List.getD_cons_succ, go_sem, Nat.reduceEqDiff, Nat.reduceAdd, Nat.reduceLT, Nat.reduceLeDiff, reduceIte, reduceCtorEq]
  refine CallK.pure (liftV (s42 false false (timesV a x) _ (fun z => z != 0) (fun z _ => liftV (s43 z) rfl rfl _) (fun H => by simp [vle, vle.vleL]) (by simp [timesV]; omega)) (by simp [bndL, AVal.bnd, mI_bnd]) rfl _) ?_
  simp only [hz, go_sem, Nat.reduceEqDiff, Nat.reduceAdd, Nat.reduceLT, Nat.reduceLeDiff, reduceIte, reduceCtorEq]
  have hany : L.any (fun z => z == y) = true := by
    rw [List.any_eq_true]; exact ⟨y, bk, by simp⟩
  have k1 := (s44 false false L (.fn (.func 45) [] [.rp [sI y]]) (fun z => z == y) (fun z hz => CallV.of_spec (first := []) ((s45 z y (by rw [f8 z hz]; omega)).mono fun v H' h => ⟨h.2, h.1⟩)) (fun H => by simp [vle, vle.vleL, bndL, AVal.bnd, mI_bnd, sI]) (by omega)).mono (R' := fun v' H' => v' = B (L.any fun z => z == y) ∧ H' = []) fun v H' h => ⟨h.2, h.1⟩
  have k2 := Spec.give (args := [.sl false false (mS L), .fn (.func 45) [] [ptr 0 0]]) (H := [.cells [sI y]]) (ρ := []) k1 rfl (Wk.nil (by simp [fle, vle, vle.vleL, Fr.get, entryFr, bndL, AVal.bnd, mI_bnd, mS_bnd, sI])) rfl
  have k3 := Spec.give (args := [.sl false false (mS L), .fn (.func 45) [] [ptr 0 0]]) (H := [.cells [.own 1 0 j j 1], .cells (mI y)]) (ρ := [some 0]) (R := fun H' => H' = [.dead]) k2 rfl
    (Wk.mk0 rfl (by simp [imgs, Blk.alive]) ⟨.inr ⟨vle_mI rfl (by simp [imgs, Blk.alive]) bl.symm (List.take_of_length_le (by rw [mI_length]; omega)), trivial⟩, trivial⟩ (by simp [fle, vle, vle.vleL, Fr.get, entryFr, bndL, AVal.bnd, mI_bnd, mS_bnd])) rfl
  refine CallK.by (CallV.of_spec (first := []) (cap := []) k3) fun v H' ⟨e1, e2⟩ => ?_
  subst e1 e2
  simp only [hany, go_sem, Nat.reduceEqDiff, Nat.reduceAdd, Nat.reduceLT, Nat.reduceLeDiff, reduceIte, reduceCtorEq]
  refine W_loop (fun q : { k : Nat // k ≤ L.length } => ([(0, .sl false false (mS a)), (3, .sl false false (mS L)), (5, I i), (6, .sl false false (mI x)), (36, .sl false false (mS L)), (37, I L.length), (38, I i), (110, .sl false false (mS L)), (111, I L.length), (112, I q.1)], [])) (fun q => L.length - q.1) ⟨0, by omega⟩ [] (Wk.nil (by simp [fle, vle, Fr.get, mS_bnd, mI_bnd])) ?_
  rintro ⟨k, hk⟩
  dsimp only
  have hw : IntKind.i64.wrap ((i : Int) + 1) = (i : Int) + 1 := wrap64 (by omega) (by omega)
  have hwk : IntKind.i64.wrap ((k : Int) + 1) = (k : Int) + 1 := wrap64 (by omega) (by omega)
  by_cases hkl : k < L.length
  rotate_left
  · have d3 : ¬ (k : Int) < L.length := by omega
    simp only [w8L3, w8T4, d3, hw, go_sem, Nat.reduceEqDiff, Nat.reduceAdd, Nat.reduceLT, Nat.reduceLeDiff, reduceIte, reduceCtorEq]
    refine round0 rfl ⟨i + 1, by omega⟩ (by dsimp only; omega) rfl ?_
    simp [fle, vle, Fr.get, mS_bnd]
  have d3 : (k : Int) < L.length := by omega
  have gk := mS_getD hkl
  have km := getD_mem hkl
  have hki : k ≠ i → Sp.fitR (L.getD k []) x = false := fun hne => by
    cases hf : Sp.fitR (L.getD k []) x with
    | false => rfl
    | true => exact absurd ((f7 x _ xm km hf).trans hx.symm) (asc_ne f2 hkl hil hne)
  obtain ⟨z, hz⟩ : ∃ z, L.getD k [] = z := ⟨_, rfl⟩
  rw [hz] at gk km hki
  have zl := f8 z km
  simp only [w8L3, d3, gk, go_sem, Nat.reduceEqDiff, Nat.reduceAdd, Nat.reduceLT, Nat.reduceLeDiff, reduceIte, reduceCtorEq]
  refine G.split (fun h => ?_) fun h => ?_
  · have hne : k ≠ i := fun e => by subst e; simp at h
    simp only [go_sem, Nat.reduceEqDiff, Nat.reduceAdd, Nat.reduceLT, Nat.reduceLeDiff, reduceIte, reduceCtorEq]
    refine CallK.pure (liftV (s26 false false false false z x (by omega) (by omega)) (by simp [bndL, AVal.bnd, mI_bnd]) rfl _) ?_
    have hf := hki hne
    simp only [hf, hwk, go_sem, Nat.reduceEqDiff, Nat.reduceAdd, Nat.reduceLT, Nat.reduceLeDiff, reduceIte, reduceCtorEq]
    refine round0 rfl ⟨k + 1, by omega⟩ (by dsimp only; omega) rfl ?_
    simp [fle, vle, Fr.get, mS_bnd, mI_bnd]
  · simp only [hwk, go_sem, Nat.reduceEqDiff, Nat.reduceAdd, Nat.reduceLT, Nat.reduceLeDiff, reduceIte, reduceCtorEq]
    refine round0 rfl ⟨k + 1, by omega⟩ (by dsimp only; omega) rfl ?_
    simp [fle, vle, Fr.get, mS_bnd, mI_bnd]
end Go.Proofs.Ytipfjfmdjmaflaa
