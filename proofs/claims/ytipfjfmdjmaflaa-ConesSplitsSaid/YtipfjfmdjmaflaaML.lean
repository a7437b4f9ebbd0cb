/- Contracts: CheckSplit. -/
import Derived.Test.YtipfjfmdjmaflaaMJ
namespace Go.Proofs.Ytipfjfmdjmaflaa
open Go.Abs AVal
set_option linter.unusedSimpArgs false
attribute [local go_sem] W_skip W_keep KQ_canon canon Fr.norm W_seq W_block W_scope W_exit W_ret W_ops W_draw KQ_nil KQ_norm_seq KQ_exit_seq KQ_ret_seq KQ_norm_block KQ_ret_block KQ_exit_block KQ_exit_loop KQ_ret_loop O_nil O_cons S_call S_mv SE_mv SD_mv S_pick SE_pick SD_pick S_bin SE_bin SD_bin S_eqb SE_eqb SD_eqb S_eqv SE_eqv SD_eqv S_eqnil SE_eqnil SD_eqnil S_un SE_un SD_un S_conv SE_conv SD_conv S_mkfn SE_mkfn SD_mkfn S_load SE_load SD_load S_nilck SE_nilck SD_nilck S_slS SE_slS SD_slS S_slP SE_slP SD_slP S_fldA SE_fldA SD_fldA S_fld SE_fld SD_fld S_ixS SE_ixS SD_ixS S_ixP SE_ixP SD_ixP S_ixV SE_ixV SD_ixV S_ixStr SE_ixStr SD_ixStr S_ext SE_ext SD_ext S_len SE_len SD_len S_lenStr SE_lenStr SD_lenStr S_lenc SE_lenc SD_lenc S_mn SE_mn SD_mn S_mx SE_mx SD_mx S_build SE_build SD_build S_alloc SD_alloc S_box SD_box S_bslice SD_bslice S_mksl SD_mksl S_store SD_store S_append SD_append S_copy SD_copy S_clr SD_clr aq_some aa_some al_some aqd_some aad_some ald_some ape_some D_done D_both D_early D_step SE_call SD_call IOpd.ev Fr.get Fr.put Fr.putd entryFr pickA binA binI isSh shI eqbA eqvA ints ints_mI Option.map_some eqnilA unA convA loadA nilckA intA slSA slPA fldAA fldVA ixSA ixPA ixVA ixStrA extA lenA lenStrA mnA mxA AVal.fits fillA fillOk buildA opa srcA appA stoA copA clrA rdFree zeros List.length_nil List.length_cons List.length_map List.map_cons List.map_nil Option.map_some Option.map_none if_true if_false ite_true ite_false true_and and_true and_self implies_true forall_const true_implies Bool.false_eq_true Bool.not_true Bool.not_false decide_eq_true_eq decide_eq_false_iff_not eq_self List.getElem?_cons_zero List.getElem?_cons_succ List.getElem?_nil List.set_cons_zero List.set_cons_succ List.nil_append List.cons_append List.append_nil List.replicate_zero List.replicate_succ Nat.zero_add false_implies rng_lt rng_end rng_get cells_I cells_B cells_sl cut_one Int.toNat_natCast Int.natCast_nonneg List.headD_cons Int.lt_irrefl not_false_eq_true decide_false decide_true mI_length mI_cells mI_sz mI_isCell mI_mid mI_append mI_take mI_drop cells_val cells_own cells_agg isCell_I isCell_B isCell_nil isCell_sl isCell_own isCell_ptr isCell_fn isCell_rp isCell_yld cellsOk_I cellsOk_B cellsOk_nil cellsOk_sl cellsOk_own cellsOk_ptr cellsOk_fn cellsOk_rp cellsOk_yld cellsOk_agg cells_nil cells_ptr cells_fn cells_rp List.all_cons List.all_nil Bool.and_true Nat.mul_one Nat.zero_mul Nat.one_mul List.take_zero List.take_nil List.drop_nil List.drop_zero List.not_mem_nil Nat.le_refl Nat.zero_le mS_length mS_cells mS_sz mS_isCell mS_mid mS_append mS_take mS_drop cells_sI isCell_sI cellsOk_sI sI_eq succ_le_self' List.take_succ_cons List.drop_succ_cons List.take_length beq_self_eq_true List.mem_cons or_false forall_eq mI_put mI_rep O_guard' D_earlyG' D_stepG' W_cond' G_tt G_tf G_ft G_ff GE_tt GE_tf GE_ft GE_ff GS_tt GS_tf GS_ft GS_ff G_u GE_u GS_u IC_t IC_f xft xff xtt xtf z00 z20 z22 z02 zz tn0

theorem s107 (nn t : Bool) (xs : List (List Int)) (h4 : ∀ x ∈ xs, x.length = 4) (y : List Int) (hy : y.length = 4) (hl : xs.length < 9223372036854775808) :
    Abs.Spec Try.prog 107 [.sl nn t (mV xs), vec y] [] fun v H' => H' = [] ∧ v = I (Sp.idx (fun z => y == z) xs) := by
  refine Abs.Spec.walk mixed fn107 nn107 t107 q107 nt107 (by simp) ?_
  have hyl : (mI y).length = 4 := by rw [mI_length, hy]
  have hyc : cut true 4 (mI y) = vec y := cut_vec hy
  simp only [w107, mV_length, vec_eq, hyl, go_sem, Nat.reduceEqDiff, Nat.reduceAdd, Nat.reduceLT, Nat.reduceLeDiff, reduceIte, reduceCtorEq]
  refine ⟨allI_cell y, ?_⟩
  refine W_loop (fun q : { q : List (List Int) × List (List Int) // q.1 ++ q.2 = xs ∧ ∀ x ∈ q.1, (y == x) = false } => ([(0, sl nn t (mV xs)), (3, ptr 0 0), (7, I xs.length), (8, I q.1.1.length)], [.cells (mI y)])) (fun q => q.1.2.length) ⟨([], xs), rfl, by simp⟩ [some 0] (Wk.mk0 rfl (by simp [imgs, Blk.alive]) (by simp [hle, csle, mI_bnd]) (by simp [fle, vle, Fr.get, mV_bnd])) ?_
  rintro ⟨⟨pre, suf⟩, hp, hinv⟩
  dsimp only at hp hinv
  subst hp
  cases suf with
  | nil =>
    simp only [w107L0, w107T1, go_sem, Nat.reduceEqDiff, Nat.reduceAdd, Nat.reduceLT, Nat.reduceLeDiff, reduceIte, reduceCtorEq]
    exact leaf (I _) rfl ⟨rfl, by rw [Sp.idx_none hinv]⟩
  | cons x suf =>
    have hx4 := h4 x (by simp)
    have hxl : (mI x).length = 4 := by rw [mI_length, hx4]
    have hxc : cut true 4 (mI x) = vec x := cut_vec hx4
    have fx : ∀ b, (false ^^ b) = b := Bool.false_xor
    simp only [w107L0, mV_mid, mV_length, hyl, hyc, hxl, hxc, vec_eq, fx, go_sem, Nat.reduceEqDiff, Nat.reduceAdd, Nat.reduceLT, Nat.reduceLeDiff, reduceIte, reduceCtorEq]
    refine ⟨⟨hy, hx4⟩, ?_⟩
    refine IC.split (fun h => ?_) fun h => ?_
    · simp only [go_sem, Nat.reduceEqDiff, Nat.reduceAdd, Nat.reduceLT, Nat.reduceLeDiff, reduceIte, reduceCtorEq]
      exact leaf (I _) rfl ⟨rfl, by rw [Sp.idx_mid _ pre _ hinv]; simp [Sp.idx, h]⟩
    · simp only [go_sem, Nat.reduceEqDiff, Nat.reduceAdd, Nat.reduceLT, Nat.reduceLeDiff, reduceIte, reduceCtorEq]
      refine round1 rfl ⟨(pre ++ [x], suf), by simp, fun y hy => by rcases List.mem_append.1 hy with hy | hy; exact hinv y hy; simp at hy; subst hy; exact h⟩ [some 0] (by simp) (Wk.mk0 rfl (by simp [imgs, Blk.alive]) (by simp [hle, csle, mI_bnd]) (by simp [fle, vle, Fr.get, rng_idx' hl, mV_bnd]))
theorem s73 (nn t : Bool) (xs : List (List Int)) (h4 : ∀ x ∈ xs, x.length = 4) (y : List Int) (hy : y.length = 4) (hl : xs.length < 9223372036854775808) :
    Abs.Spec Try.prog 73 [.sl nn t (mV xs), vec y] [] fun v H' => H' = [] ∧ v = B (xs.any fun z => y == z) := by
  refine Abs.Spec.walk mixed fn73 nn73 t73 q73 nt73 (by simp) ?_
  have hyl : (mI y).length = 4 := by rw [mI_length, hy]
  have hyc : cut true 4 (mI y) = vec y := cut_vec hy
  simp only [w73, vec_eq, hyl, hyc, go_sem, Nat.reduceEqDiff, Nat.reduceAdd, Nat.reduceLT, Nat.reduceLeDiff, reduceIte, reduceCtorEq]
  refine ⟨allI_cell y, ?_⟩
  refine CallK.pure (liftV (s107 nn t xs h4 y hy hl) (by simp [bndL, vec, AVal.bnd, mI_bnd, mV_bnd]) rfl _) ?_
  simp only [go_sem, Nat.reduceEqDiff, Nat.reduceAdd, Nat.reduceLT, Nat.reduceLeDiff, reduceIte, reduceCtorEq]
  exact leaf (B _) rfl ⟨rfl, by rw [← idx_any]⟩
/-- Whether some vectors are basic moves that fit together into a move. -/
def checkL (B : List (List Int)) (X : List Int) : List Int → List (List Int) → Bool
  | S, [] => S == X
  | S, s :: l => if (B.contains s && Sp.fitR (Sp.pad s) X) && Sp.fitR (plusV 1 S (Sp.pad s)) X then checkL B X (plusV 1 S (Sp.pad s)) l else false
def checkA (a : List (List Int)) (x : List Int) (l : List (List Int)) : AVal := if Sp.vecOk a x (-100) 100 then .tup [B (checkL (Sp.basL a) (Sp.pad x) Sp.z4 l), I 0] else .tup [B false, I 2]
theorem any_bas {a : List (List Int)} {bs : List (List Int)} (hm : Sp.mat a = true) (hB : IsB (a.map Sp.pad) (a.getD 0 []).length bs) {s : List Int} (hs : s.length = (a.getD 0 []).length) : (bs.any fun z => Sp.pad s == z) = (Sp.basL a).contains s := by
  rw [Bool.eq_iff_iff, List.any_eq_true, List.contains_iff_mem, Sp.mem_basL hm]
  constructor
  · rintro ⟨z, hz, e⟩
    have e : Sp.pad s = z := by simpa using e
    subst e
    exact ⟨hs, (Sp.mem_bs hm hB).1 hz⟩
  · rintro ⟨-, hM⟩
    exact ⟨_, (Sp.mem_bs hm hB).2 hM, by simp⟩
set_option maxRecDepth 20000 in
set_option maxHeartbeats 4000000 in
theorem s53 (nn t nn' t' nl tl : Bool) (a : List (List Int)) (x : List Int) (l : List (List Int)) (ha : ∀ l ∈ a, l.length < 9223372036854775808) (hl : a.length < 9223372036854775808) (hx : x.length < 9223372036854775808) (hls : ∀ s ∈ l, s.length < 9223372036854775808) (hll : l.length < 9223372036854775808) :
    Abs.Spec Try.prog 53 [.sl nn t (mS a), .sl nn' t' (mI x), .sl nl tl (mS l)] [] fun v H' => H' = [] ∧ v = checkA a x l := by
  refine Abs.Spec.walk mixed fn53 nn53 t53 q53 nt53 (by simp) ?_
  simp only [w53, go_sem, Nat.reduceEqDiff, Nat.reduceAdd, Nat.reduceLT, Nat.reduceLeDiff, reduceIte, reduceCtorEq]
  refine CallK.by (CallV.of_spec (s62 nn t a ha hl)) fun v H' ⟨h1, h2⟩ => ?_
  subst h1
  rcases h2 with ⟨hm, rfl⟩ | ⟨hm, vs, n, rfl⟩
  rotate_left
  · have hb : Sp.vecOk a x (-100) 100 = false := by rw [Sp.vecOk, hm]; rfl
    simp only [matV_eq, List.getD_cons_zero, List.getD_cons_succ, go_sem, Nat.reduceEqDiff, Nat.reduceAdd, Nat.reduceLT, Nat.reduceLeDiff, reduceIte, reduceCtorEq]
    exact leaf2 (.tup [B false, I 2]) ⟨rfl, rfl, trivial⟩ ⟨rfl, by rw [checkA, hb]; rfl⟩
  obtain ⟨r1, r2, r3, r4⟩ := mat_rows hm
  obtain ⟨-, rpad, n1, n4⟩ := Sp.mat_cols hm rfl
  obtain ⟨n, hn⟩ : ∃ n, (a.getD 0 []).length = n := ⟨_, rfl⟩
  have hmc : cut true 2 [sl false false (mV (a.map Sp.pad)), I (n : Int)] = matV (a.map Sp.pad) n := rfl
  have n1' : 1 ≤ n := by omega
  have n4' : n ≤ 4 := by omega
  rw [hn]
  simp only [matV_eq, List.getD_cons_zero, List.getD_cons_succ, hmc, go_sem, Nat.reduceEqDiff, Nat.reduceAdd, Nat.reduceLT, Nat.reduceLeDiff, reduceIte, reduceCtorEq]
  refine CallK.pure (liftV (s63 nn' t' (.sl false false (mV (a.map Sp.pad))) rfl n x (-100) 100 (by omega) (by omega) hx) (by simp [bndL, matV, AVal.bnd, mV_bnd, mI_bnd]) (by split <;> simp [AVal.bnd, bndL, vec, mI_bnd]) _) ?_
  by_cases hok : (decide (x.length = n) && Sp.numbers x (-100) 100) = true
  rotate_left
  · have hv : Sp.vecOk a x (-100) 100 = false := by rw [Sp.vecOk, hm, hn, Bool.true_and]; simpa using hok
    rw [if_neg hok]
    simp only [List.getD_cons_zero, List.getD_cons_succ, vec_eq, go_sem, Nat.reduceEqDiff, Nat.reduceAdd, Nat.reduceLT, Nat.reduceLeDiff, reduceIte, reduceCtorEq]
    refine ⟨rfl, ?_⟩
    exact leaf2 (.tup [B false, I 2]) ⟨rfl, rfl, trivial⟩ ⟨rfl, by rw [checkA, hv]; rfl⟩
  have hv : Sp.vecOk a x (-100) 100 = true := by rw [Sp.vecOk, hm, hn, Bool.true_and]; exact hok
  rw [if_pos hok]
  rw [Bool.and_eq_true, decide_eq_true_eq] at hok
  obtain ⟨xl, xn⟩ := hok
  have xb : Sp.inB 100 x := Sp.inB_numbers.2 xn
  have hA : checkA a x l = .tup [B (checkL (Sp.basL a) (Sp.pad x) Sp.z4 l), I 0] := by rw [checkA, if_pos hv]
  rw [hA]
  obtain ⟨X, hX⟩ : ∃ X, Sp.pad x = X := ⟨_, rfl⟩
  have padB : ∀ {z : List Int}, Sp.inB 100 z → Sp.inB 100 (Sp.pad z) := fun {z} hz w hw => by
    rcases List.mem_append.1 hw with hw | hw
    · exact hz w hw
    · rw [List.eq_of_mem_replicate hw]; omega
  have Xl : X.length = 4 := by rw [← hX]; exact Sp.pad_len (by omega)
  have Xb : Sp.inB 100 X := by rw [← hX]; exact padB xb
  have Xm : (mI X).length = 4 := by rw [mI_length, Xl]
  have Xc : cut true 4 (mI X) = vec X := cut_vec Xl
  rw [hX]
  simp only [List.getD_cons_zero, List.getD_cons_succ, vec_eq, Xm, Xc, hmc, matV_eq, go_sem, Nat.reduceEqDiff, Nat.reduceAdd, Nat.reduceLT, Nat.reduceLeDiff, reduceIte, reduceCtorEq]
  refine ⟨allI_cell X, ?_⟩
  refine CallK.by (CallV.of_spec (first := []) (cap := []) (Spec.liftE (s85f (a.map Sp.pad) n (by omega) r2 r1) (by simp [bndL, matV, AVal.bnd, mV_bnd]) (fun v ⟨bs, _, h⟩ => by subst h; simp [AVal.bnd, mV_bnd]) _)) fun v H' ⟨⟨bs, hB, hv'⟩, hH⟩ => ?_
  subst hv' hH
  have hBl := hB.len (by omega)
  have hB4 : ∀ y ∈ bs, y.length = 4 := fun y hy => (hB.ok y hy).1
  have hB' : IsB (a.map Sp.pad) (a.getD 0 []).length bs := by rw [hn]; exact hB
  have z4e : [I 0, I 0, I 0, I 0] = mI Sp.z4 := rfl
  simp only [z4e, go_sem, Nat.reduceEqDiff, Nat.reduceAdd, Nat.reduceLT, Nat.reduceLeDiff, reduceIte, reduceCtorEq]
  refine W_loop (fun q : { q : (List (List Int) × List (List Int)) × List Int // q.1.1 ++ q.1.2 = l ∧ q.2.length = 4 ∧ Sp.inB 100 q.2 ∧ checkL (Sp.basL a) X q.2 q.1.2 = checkL (Sp.basL a) X Sp.z4 l } => ([(8, ptr 0 0), (10, ptr 1 0), (11, .sl false false (mV bs)), (12, ptr 2 0), (34, .sl nl tl (mS l)), (35, I l.length), (36, I q.1.1.1.length)], [.cells [.sl false false (mV (a.map Sp.pad)), I n], .cells (mI X), .cells (mI q.1.2)])) (fun q => q.1.1.2.length) ⟨(([], l), Sp.z4), rfl, rfl, Sp.z4_in _ (by decide), rfl⟩ [some 0, some 1, some 2] (Wk.mk0 rfl (by simp [imgs, Blk.alive]) (by simp [hle, csle, vle, vle.vleL, imgs, Blk.alive, mI_bnd, mV_bnd, bndL, AVal.bnd]) (by simp [fle, vle, Fr.get, mV_bnd, mS_bnd])) ?_
  rintro ⟨⟨⟨pre, suf⟩, S⟩, hp, Sl, Sb, hinv⟩
  dsimp only at hp Sl Sb hinv ⊢
  subst hp
  have Sm : (mI S).length = 4 := by rw [mI_length, Sl]
  have Sc : cut true 4 (mI S) = vec S := cut_vec Sl
  have fx : ∀ b, (false ^^ b) = b := Bool.false_xor
  cases suf with
  | nil =>
    simp only [w53L0, w53T1, Sm, Sc, Xm, Xc, vec_eq, fx, go_sem, Nat.reduceEqDiff, Nat.reduceAdd, Nat.reduceLT, Nat.reduceLeDiff, reduceIte, reduceCtorEq]
    refine ⟨⟨Sl, Xl⟩, ?_⟩
    exact leaf2 (.tup [B (S == X), I 0]) ⟨rfl, rfl, trivial⟩ ⟨rfl, by rw [List.append_nil] at hinv; rw [← hinv]; rfl⟩
  | cons s suf =>
    have sl9 := hls s (by simp)
    simp only [w53L0, hmc, go_sem, Nat.reduceEqDiff, Nat.reduceAdd, Nat.reduceLT, Nat.reduceLeDiff, reduceIte, reduceCtorEq]
    refine CallK.pure (liftV (s63 false false (.sl false false (mV (a.map Sp.pad))) rfl n s (-100) 100 (by omega) (by omega) sl9) (by simp [bndL, matV, AVal.bnd, mV_bnd, mI_bnd]) (by split <;> simp [AVal.bnd, bndL, vec, mI_bnd]) _) ?_
    have bad : (Sp.basL a).contains s = false → checkL (Sp.basL a) X Sp.z4 (pre ++ s :: suf) = false := fun h => by
      rw [← hinv]; unfold checkL; rw [h, Bool.false_and, Bool.false_and, if_neg (by decide)]
    by_cases sok : (decide (s.length = n) && Sp.numbers s (-100) 100) = true
    rotate_left
    · have hc : (Sp.basL a).contains s = false := by
        cases hc : (Sp.basL a).contains s with
        | false => rfl
        | true =>
          exfalso
          have hmem := List.contains_iff_mem.1 hc
          have h1 := ((Sp.mem_basL hm).1 hmem).1
          have h2 := Sp.inB_numbers.1 (Sp.inB_mono (Sp.ans_num hm (Sp.basB_is _ _) hmem) (show (16 : Int) ≤ 100 by decide))
          exact sok (by rw [h2, Bool.and_true]; exact decide_eq_true (h1.trans hn))
      rw [if_neg sok]
      simp only [List.getD_cons_zero, List.getD_cons_succ, vec_eq, go_sem, Nat.reduceEqDiff, Nat.reduceAdd, Nat.reduceLT, Nat.reduceLeDiff, reduceIte, reduceCtorEq]
      refine ⟨rfl, ?_⟩
      exact leaf2 (.tup [B false, I 0]) ⟨rfl, rfl, trivial⟩ ⟨rfl, by rw [bad hc]⟩
    rw [if_pos sok]
    rw [Bool.and_eq_true, decide_eq_true_eq] at sok
    obtain ⟨sl, sn⟩ := sok
    have sb : Sp.inB 100 s := Sp.inB_numbers.2 sn
    have hany := any_bas hm hB' (s := s) (by rw [hn]; exact sl)
    have st : checkL (Sp.basL a) X S (s :: suf) = if ((Sp.basL a).contains s && Sp.fitR (Sp.pad s) X) && Sp.fitR (plusV 1 S (Sp.pad s)) X then checkL (Sp.basL a) X (plusV 1 S (Sp.pad s)) suf else false := rfl
    obtain ⟨Y, hY⟩ : ∃ Y, Sp.pad s = Y := ⟨_, rfl⟩
    have Yl : Y.length = 4 := by rw [← hY]; exact Sp.pad_len (by omega)
    have Yb : Sp.inB 100 Y := by rw [← hY]; exact padB sb
    have Ym : (mI Y).length = 4 := by rw [mI_length, Yl]
    have Yc : cut true 4 (mI Y) = vec Y := cut_vec Yl
    rw [hY] at hany st
    obtain ⟨U, hU⟩ : ∃ U, plusV 1 S Y = U := ⟨_, rfl⟩
    have Ul : U.length = 4 := by rw [← hU]; exact plusV_len Sl Yl
    have Ub : Sp.inB 1000 U := by
      intro z hz
      obtain ⟨k, hk, rfl⟩ := List.getElem_of_mem hz
      have g := plusV_get (k := 1) Sl Yl k
      rw [hU, List.getD_eq_getElem?_getD, List.getElem?_eq_getElem hk, Option.getD_some] at g
      have g1 := Sp.inB_getD Sb k
      have g2 := Sp.inB_getD Yb k
      omega
    have Um : (mI U).length = 4 := by rw [mI_length, Ul]
    have Uc : cut true 4 (mI U) = vec U := cut_vec Ul
    rw [hU] at st
    rw [hY]
    have fYX : Sp.fitG Y X = Sp.fitR Y X := Sp.fitG_fitR (by omega) (Sp.inB_mono Yb (by decide)) (Sp.inB_mono Xb (by decide))
    have fUX : Sp.fitG U X = Sp.fitR U X := Sp.fitG_fitR (by omega) Ub (Sp.inB_mono Xb (by decide))
    simp only [List.getD_cons_zero, List.getD_cons_succ, vec_eq, Ym, Yc, go_sem, Nat.reduceEqDiff, Nat.reduceAdd, Nat.reduceLT, Nat.reduceLeDiff, reduceIte, reduceCtorEq]
    refine ⟨allI_cell Y, ?_⟩
    refine CallK.pure (liftV (s73 false false bs hB4 Y Yl (by omega)) (by simp [bndL, vec, AVal.bnd, mI_bnd, mV_bnd]) rfl _) ?_
    rw [hany]
    cases hc : (Sp.basL a).contains s with
    | false =>
      simp only [go_sem, Nat.reduceEqDiff, Nat.reduceAdd, Nat.reduceLT, Nat.reduceLeDiff, reduceIte, reduceCtorEq]
      exact leaf2 (.tup [B false, I 0]) ⟨rfl, rfl, trivial⟩ ⟨rfl, by rw [bad hc]⟩
    | true =>
      rw [hc, Bool.true_and] at st
      simp only [Ym, Yc, Xm, Xc, vec_eq, go_sem, Nat.reduceEqDiff, Nat.reduceAdd, Nat.reduceLT, Nat.reduceLeDiff, reduceIte, reduceCtorEq]
      refine CallK.pure (liftV (s65 Y X Yl Xl) (by simp [bndL, vec_bnd]) rfl _) ?_
      rw [fYX]
      cases hf : Sp.fitR Y X with
      | false =>
        rw [hf, Bool.false_and, if_neg (by decide)] at st
        simp only [go_sem, Nat.reduceEqDiff, Nat.reduceAdd, Nat.reduceLT, Nat.reduceLeDiff, reduceIte, reduceCtorEq]
        exact leaf2 (.tup [B false, I 0]) ⟨rfl, rfl, trivial⟩ ⟨rfl, by rw [← hinv, st]⟩
      | true =>
        rw [hf, Bool.true_and] at st
        simp only [Ym, Yc, Xm, Xc, Sm, Sc, vec_eq, go_sem, Nat.reduceEqDiff, Nat.reduceAdd, Nat.reduceLT, Nat.reduceLeDiff, reduceIte, reduceCtorEq]
        refine CallK.pure (liftV (s68 S Y 1 Sl Yl (.inl rfl) (Sp.inB_mono Sb (by decide)) (Sp.inB_mono Yb (by decide))) (by simp [bndL, vec_bnd, AVal.bnd, mI_bnd]) (by simp [AVal.bnd, vec, mI_bnd]) _) ?_
        rw [hU]
        have ds : U ++ List.drop 4 S = U := by rw [List.drop_of_length_le (by omega), List.append_nil]
        simp only [ds, Um, Uc, Xm, Xc, vec_eq, go_sem, Nat.reduceEqDiff, Nat.reduceAdd, Nat.reduceLT, Nat.reduceLeDiff, reduceIte, reduceCtorEq]
        refine ⟨⟨allI_cell U, by omega⟩, ?_⟩
        refine CallK.pure (liftV (s65 U X Ul Xl) (by simp [bndL, vec_bnd]) rfl _) ?_
        rw [fUX]
        cases hg : Sp.fitR U X with
        | false =>
          rw [hg, if_neg (by decide)] at st
          simp only [go_sem, Nat.reduceEqDiff, Nat.reduceAdd, Nat.reduceLT, Nat.reduceLeDiff, reduceIte, reduceCtorEq]
          exact leaf2 (.tup [B false, I 0]) ⟨rfl, rfl, trivial⟩ ⟨rfl, by rw [← hinv, st]⟩
        | true =>
          rw [hg, if_pos rfl] at st
          have hw := rng_idx' hll
          simp only [hw, go_sem, Nat.reduceEqDiff, Nat.reduceAdd, Nat.reduceLT, Nat.reduceLeDiff, reduceIte, reduceCtorEq]
          refine round1 rfl ⟨((pre ++ [s], suf), U), by simp, Ul, Sp.fit_inB Xl Ul Xb hg, by rw [← hinv, st]⟩ [some 0, some 1, some 2] (by simp) (Wk.mk0 rfl (by simp [imgs, Blk.alive]) (by simp [hle, csle, vle, vle.vleL, imgs, Blk.alive, mI_bnd, mV_bnd, bndL, AVal.bnd]) (by simp [fle, vle, Fr.get, mV_bnd, mS_bnd]))
end Go.Proofs.Ytipfjfmdjmaflaa
