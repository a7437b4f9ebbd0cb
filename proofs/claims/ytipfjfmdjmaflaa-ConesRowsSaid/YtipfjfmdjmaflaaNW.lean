/- ConesRows: a row that is a multiple of another one, or 0, changes neither basic moves nor families. -/
import Derived.Test.YtipfjfmdjmaflaaNS
import Derived.Test.YtipfjfmdjmaflaaNV
import Derived.Test.YtipfjfmdjmaflaaMD
import Derived.Test.YtipfjfmdjmaflaaMB
namespace Go.Proofs.Ytipfjfmdjmaflaa
open Go.Abs AVal
set_option linter.unusedSimpArgs false
attribute [local go_sem] W_skip W_keep KQ_canon canon Fr.norm W_seq W_block W_scope W_exit W_ret W_ops W_draw KQ_nil KQ_norm_seq KQ_exit_seq KQ_ret_seq KQ_norm_block KQ_ret_block KQ_exit_block KQ_exit_loop KQ_ret_loop O_nil O_cons S_call S_mv SE_mv SD_mv S_pick SE_pick SD_pick S_bin SE_bin SD_bin S_eqb SE_eqb SD_eqb S_eqv SE_eqv SD_eqv S_eqnil SE_eqnil SD_eqnil S_un SE_un SD_un S_conv SE_conv SD_conv S_mkfn SE_mkfn SD_mkfn S_load SE_load SD_load S_nilck SE_nilck SD_nilck S_slS SE_slS SD_slS S_slP SE_slP SD_slP S_fldA SE_fldA SD_fldA S_fld SE_fld SD_fld S_ixS SE_ixS SD_ixS S_ixP SE_ixP SD_ixP S_ixV SE_ixV SD_ixV S_ixStr SE_ixStr SD_ixStr S_ext SE_ext SD_ext S_len SE_len SD_len S_lenStr SE_lenStr SD_lenStr S_lenc SE_lenc SD_lenc S_mn SE_mn SD_mn S_mx SE_mx SD_mx S_build SE_build SD_build S_alloc SD_alloc S_box SD_box S_bslice SD_bslice S_mksl SD_mksl S_store SD_store S_append SD_append S_copy SD_copy S_clr SD_clr S_mlen SE_mlen SD_mlen S_mget SE_mget SD_mget S_mval SE_mval SD_mval S_mentry SE_mentry SD_mentry S_mkmap SD_mkmap S_mset SD_mset S_mrange SD_mrange S_mnext mlenA mgetA mvalA mentryA msetA mrangeA cells_mp isCell_mp cellsOk_mp aq_some aa_some al_some alA_some aqd_some aad_some ald_some ape_some D_done D_both D_early D_step SE_call SD_call IOpd.ev Fr.get Fr.put Fr.putd entryFr pickA binA binI isSh shI eqbA eqvA ints ints_mI Option.map_some eqnilA unA convA loadA nilckA intA slSA slPA fldAA fldVA ixSA ixPA ixVA ixStrA extA lenA lenStrA mnA mxA AVal.fits fillA fillOk buildA opa srcA appA stoA copA clrA rdFree zeros List.length_nil List.length_cons List.length_map List.map_cons List.map_nil Option.map_some Option.map_none if_true if_false ite_true ite_false true_and and_true and_self implies_true forall_const true_implies Bool.false_eq_true Bool.not_true Bool.not_false decide_eq_true_eq decide_eq_false_iff_not eq_self List.getElem?_cons_zero List.getElem?_cons_succ List.getElem?_nil List.set_cons_zero List.set_cons_succ List.nil_append List.cons_append List.append_nil List.replicate_zero List.replicate_succ Nat.zero_add false_implies rng_lt rng_end rng_get cells_I cells_B cells_sl cut_one Int.toNat_natCast Int.natCast_nonneg List.headD_cons Int.lt_irrefl not_false_eq_true decide_false decide_true mI_length mI_cells mI_sz mI_isCell mI_mid mI_append mI_take mI_drop cells_val cells_own cells_agg isCell_I isCell_B isCell_nil isCell_sl isCell_own isCell_ptr isCell_fn isCell_rp isCell_yld cellsOk_I cellsOk_B cellsOk_nil cellsOk_sl cellsOk_own cellsOk_ptr cellsOk_fn cellsOk_rp cellsOk_yld cellsOk_agg cells_nil cells_ptr cells_fn cells_rp List.all_cons List.all_nil Bool.and_true Nat.mul_one Nat.zero_mul Nat.one_mul List.take_zero List.take_nil List.drop_nil List.drop_zero List.not_mem_nil Nat.le_refl Nat.zero_le mS_length mS_cells mS_sz mS_isCell mS_mid mS_append mS_take mS_drop cells_sI isCell_sI cellsOk_sI sI_eq succ_le_self' List.take_succ_cons List.drop_succ_cons List.take_length beq_self_eq_true List.mem_cons or_false forall_eq mI_put mI_rep O_guard' D_earlyG' D_stepG' W_cond' G_tt G_tf G_ft G_ff GE_tt GE_tf GE_ft GE_ff GS_tt GS_tf GS_ft GS_ff G_u GE_u GS_u IC_t IC_f xft xff xtt xtf z00 z20 z22 z02 zz tn0

/-! ### Plain: two tables with the same moves. -/
section
variable {a b : List (List Int)}
structure SameT (a b : List (List Int)) : Prop where
  ma : Sp.mat a = true
  mb : Sp.mat b = true
  n : (a.getD 0 []).length = (b.getD 0 []).length
  mv : ∀ y, Sp.moveB (a.map Sp.pad) y = Sp.moveB (b.map Sp.pad) y
theorem SameT.mini (h : SameT a b) (n : Nat) (y : List Int) : Sp.Mini (a.map Sp.pad) n y ↔ Sp.Mini (b.map Sp.pad) n y := by
  have hv : ∀ z, Sp.Mv (a.map Sp.pad) n z ↔ Sp.Mv (b.map Sp.pad) n z := fun z => ⟨fun k => ⟨k.len, k.pad, k.ne, by rw [← h.mv]; exact k.mv⟩, fun k => ⟨k.len, k.pad, k.ne, by rw [h.mv]; exact k.mv⟩⟩
  exact ⟨fun k => ⟨(hv y).1 k.mv, fun z hz => k.min z ((hv z).2 hz)⟩, fun k => ⟨(hv y).2 k.mv, fun z hz => k.min z ((hv z).1 hz)⟩⟩
theorem SameT.fam (h : SameT a b) (n : Nat) (X Y : List Int) : Sp.Fam (a.map Sp.pad) n X Y ↔ Sp.Fam (b.map Sp.pad) n X Y :=
  ⟨fun k => ⟨k.len, k.pad, k.pos, by rw [← h.mv]; exact k.mv⟩, fun k => ⟨k.len, k.pad, k.pos, by rw [h.mv]; exact k.mv⟩⟩
theorem SameT.basL (h : SameT a b) : Sp.basL a = Sp.basL b := by
  have h1 := Sp.ans_asc h.ma (Sp.basB_is _ _)
  have h2 := Sp.ans_asc h.mb (Sp.basB_is _ _)
  have e : ∀ y, y ∈ Sp.basL a ↔ y ∈ Sp.basL b := fun y => by rw [Sp.mem_basL h.ma, Sp.mem_basL h.mb, h.n, h.mini]
  exact Sp.asc_unique (h1.imp fun h => by omega) (h2.imp fun h => by omega) (Sp.perm_of (h1.imp fun h e => by subst e; rw [Sp.cmpL_self] at h; omega) (h2.imp fun h e => by subst e; rw [Sp.cmpL_self] at h; omega) e)
theorem SameT.famL (h : SameT a b) (x : List Int) (F : List (List Int)) : FamL a x F ↔ FamL b x F := by
  unfold FamL
  rw [h.n]
  exact and_congr Iff.rfl (forall_congr' fun y => iff_congr Iff.rfl (and_congr Iff.rfl (h.fam _ _ _)))
theorem SameT.vec (h : SameT a b) (x : List Int) (lo hi : Int) : Sp.vecOk a x lo hi = Sp.vecOk b x lo hi := by unfold Sp.vecOk; rw [h.ma, h.mb, h.n]
theorem SameT.count (h : SameT a b) (x : List Int) (v : AVal) : countR a x v ↔ countR b x v := by
  unfold countR
  rw [h.vec, h.basL]
  have : ∀ F, FamL a x F ↔ FamL b x F := h.famL x
  simp only [this]
theorem SameT.symm (h : SameT a b) : SameT b a := ⟨h.mb, h.ma, h.n.symm, fun y => (h.mv y).symm⟩
end
theorem countR.uniq {a : List (List Int)} {x : List Int} {v v' : AVal} (h : countR a x v) (h' : countR a x v') : v = v' := by
  rcases h with ⟨h1, rfl⟩ | ⟨h1, h2, rfl⟩ | ⟨h1, h2, F, hF, -, rfl⟩ <;> rcases h' with ⟨k1, rfl⟩ | ⟨k1, k2, rfl⟩ | ⟨k1, k2, F', hF', -, rfl⟩ <;> first | rfl | exact absurd (h1.symm.trans k1) (by decide) | exact absurd (h2.symm.trans k2) (by decide) | rw [hF.uniq hF']
/-- The answer of Count. -/
noncomputable def cntA (a : List (List Int)) (x : List Int) : AVal := by
  classical exact if h : ∃ v, countR a x v then h.choose else .tup [I 0, I 0]
theorem cntA_of {a : List (List Int)} {x : List Int} {v : AVal} (h : countR a x v) : v = cntA a x := by
  have hex : ∃ v, countR a x v := ⟨v, h⟩
  unfold cntA
  rw [dif_pos hex]
  exact h.uniq hex.choose_spec
theorem cntA_shape (a : List (List Int)) (x : List Int) : ∃ m e, cntA a x = .tup [I m, I e] := by
  unfold cntA
  split
  · rename_i h
    rcases h.choose_spec with ⟨-, h⟩ | ⟨-, -, h⟩ | ⟨-, -, F, -, -, h⟩ <;> exact ⟨_, _, h⟩
  · exact ⟨_, _, rfl⟩
theorem SameT.cnt {a b : List (List Int)} (h : SameT a b) (x : List Int) : cntA a x = cntA b x := by
  have : countR a x = countR b x := funext fun v => propext (h.count x v)
  unfold cntA
  rw [this]
theorem countR.shape {a : List (List Int)} {x : List Int} {v : AVal} (h : countR a x v) : ∃ m e, v = .tup [I m, I e] := by
  rcases h with ⟨-, rfl⟩ | ⟨-, -, rfl⟩ | ⟨-, -, F, -, -, rfl⟩ <;> exact ⟨_, _, rfl⟩
theorem dp_mul (k : Int) : ∀ r x : List Int, Sp.dp (r.map (k * ·)) x = k * Sp.dp r x
  | [], x => by simp [Sp.dp]
  | _ :: _, [] => by simp [Sp.dp]
  | a :: r, b :: x => by
    simp only [List.map_cons, Sp.dp, dp_mul k r x]
    grind
theorem pad_mul (k : Int) (r : List Int) : Sp.pad (r.map (k * ·)) = (Sp.pad r).map (k * ·) := by
  unfold Sp.pad; simp
/-- A row and a multiple of it. -/
theorem same_two {r : List Int} {k : Int} (hm : Sp.mat [r] = true) (ho : Sp.numbers (r.map (k * ·)) (-2) 2 = true) : SameT [r] [r, r.map (k * ·)] ∧ SameT [r] [r.map (k * ·), r] := by
  have hm' := hm
  unfold Sp.mat at hm
  simp only [Bool.and_eq_true, decide_eq_true_eq, List.all_eq_true, List.mem_singleton, forall_eq] at hm
  obtain ⟨-, -, -, h1, h4, hn⟩ := hm
  have e : ∀ y, Sp.dp (Sp.pad r) y = 0 → Sp.dp (Sp.pad (r.map (k * ·))) y = 0 := fun y hy => by rw [pad_mul, dp_mul, hy]; simp
  have key : ∀ y, (Sp.moveB [Sp.pad r] y = true ↔ Sp.moveB [Sp.pad r, Sp.pad (r.map (k * ·))] y = true) ∧ (Sp.moveB [Sp.pad r] y = true ↔ Sp.moveB [Sp.pad (r.map (k * ·)), Sp.pad r] y = true) := fun y => by
    simp only [Sp.moveB_all, List.mem_cons, List.not_mem_nil, or_false, forall_eq_or_imp, forall_eq]
    exact ⟨⟨fun h => ⟨h, e y h⟩, fun h => h.1⟩, ⟨fun h => ⟨e y h, h⟩, fun h => h.2⟩⟩
  refine ⟨⟨hm', ?_, rfl, fun y => ?_⟩, ⟨hm', ?_, by simp, fun y => ?_⟩⟩
  · unfold Sp.mat; simp [h1, h4, hn, ho]
  · rw [Bool.eq_iff_iff]; exact (key y).1
  · unfold Sp.mat; simp [h1, h4, hn, ho]
  · rw [Bool.eq_iff_iff]; exact (key y).2
/-- Count, whatever it answers. -/
theorem s58d (a : List (List Int)) (x : List Int) (ha : ∀ l ∈ a, l.length < 9223372036854775808) (hl : a.length < 9223372036854775808) (hx : x.length < 9223372036854775808) :
    Abs.Spec Try.prog 58 [.sl false false (mS a), .sl false false (mI x)] [] fun v H' => H' = [] ∧ v = cntA a x ∧ countR a x v :=
  (s58 a x ha hl hx).mono fun v H' ⟨h1, h2⟩ => ⟨h1, cntA_of h2, h2⟩
set_option maxRecDepth 20000 in
set_option maxHeartbeats 4000000 in
theorem law14 (r : List Int) (by' : Int) (first : Bool) (x : List Int) (hr : r.length < 9223372036854775808) (hx : x.length < 9223372036854775808) :
    Abs.Spec Try.prog 14 [.sl false false (mI r), I by', B first, .sl false false (mI x)] [] fun v H' => H' = [] ∧ v = B true := by
  have e19 : ∀ xs : List Int, xs.length < 9223372036854775808 → ∀ H, CallV Try.prog (.fn (.func 19) [] []) [.sl false false (mI xs)] H fun v H' => v = .sl false false (mI (xs.take 6)) ∧ H' = H := fun xs h H => liftV (s19 false false xs h) (by simp [bndL, AVal.bnd, mI_bnd]) (by simp [AVal.bnd, mI_bnd]) H
  have e25 : ∀ H, CallV Try.prog (.fn (.func 25) [] []) [] H fun v H' => v = B true ∧ H' = H := fun H => liftV s25 rfl rfl H
  refine Abs.Spec.walk mixed fn14 nn14 t14 q14 nt14 (by simp) ?_
  have ml : ∀ xs ys : List Int, mS [xs, ys] = [.sl false false (mI xs), .sl false false (mI ys)] := fun _ _ => rfl
  have m1 : ∀ xs : List Int, [.sl false false (mI xs)] = mS [xs] := fun _ => rfl
  simp only [w14, go_sem, Nat.reduceEqDiff, Nat.reduceAdd, Nat.reduceLT, Nat.reduceLeDiff, reduceIte, reduceCtorEq]
  rw [m1]
  have h40 := s40 false false [r] (by simpa using hr) (by simp)
  refine CallK.pure (CallV.of_spec (first := []) (cap := []) (Spec.lend (args' := [.sl false false (mS [r])]) h40 rfl ⟨vle_mS (cs := mS [r]) rfl (by simp) rfl rfl, trivial⟩)) ?_
  cases hm : Sp.mat [r] with
  | false =>
    simp only [go_sem, Nat.reduceEqDiff, Nat.reduceAdd, Nat.reduceLT, Nat.reduceLeDiff, reduceIte, reduceCtorEq]
    refine CallK.pure (e19 r hr _) ?_
    simp only [go_sem, Nat.reduceEqDiff, Nat.reduceAdd, Nat.reduceLT, Nat.reduceLeDiff, reduceIte, reduceCtorEq]
    have hm6 : Sp.mat [r.take 6] = false := by
      have := (Sp.mat_table (a := [r])).1
      rw [hm] at this
      exact this
    have h39 := s39d false false [r.take 6] (by simp; omega) (by simp)
    have hbA : basA [r.take 6] = .tup [.sl false false (mS []), I 2] := by unfold basA; rw [if_neg (by rw [hm6]; decide)]
    rw [hbA] at h39
    refine CallK.by (CallV.of_spec (first := []) (cap := []) (Spec.give (args := [.own 1 0 1 1 1]) (H := [Blk.cells (mS [r]), Blk.cells (mS [r.take 6])]) (ρ := []) (R := fun H' => H' = []) (h39.mono fun v' H' h => ⟨h.2, h.1⟩) rfl (Wk.nil ⟨vle_mS (cs := mS [r.take 6]) rfl (by simp) rfl rfl, trivial⟩) (by simp [AVal.bnd, bndL, mS_bnd]))) fun v H' ⟨hv, hH⟩ => ?_
    subst hv
    simp only [List.getD_cons_zero, List.getD_cons_succ, go_sem, Nat.reduceEqDiff, Nat.reduceAdd, Nat.reduceLT, Nat.reduceLeDiff, reduceIte, reduceCtorEq]
    refine CallK.pure (e25 _) ?_
    simp only [go_sem, Nat.reduceEqDiff, Nat.reduceAdd, Nat.reduceLT, Nat.reduceLeDiff, reduceIte, reduceCtorEq]
    exact leaf (B true) rfl ⟨rfl, rfl⟩
  | true =>
    have hm' := hm
    unfold Sp.mat at hm'
    simp only [Bool.and_eq_true, decide_eq_true_eq, List.all_eq_true, List.mem_singleton, forall_eq] at hm'
    obtain ⟨-, -, -, r1, r4, hn⟩ := hm'
    have rb : Sp.inB 2 r := Sp.inB_numbers.2 hn
    simp only [w14T0, go_sem, Nat.reduceEqDiff, Nat.reduceAdd, Nat.reduceLT, Nat.reduceLeDiff, reduceIte, reduceCtorEq]
    obtain ⟨k, hk⟩ : ∃ k, IntKind.i64.wrap (IntKind.i64.wrap ((IntKind.u64.wrap by').tmod 5) - 2) = k := ⟨_, rfl⟩
    have kb : -2 ≤ k ∧ k ≤ 2 := by
      have h0 : 0 ≤ IntKind.u64.wrap by' := by
        unfold IntKind.wrap
        simp [IntKind.bits, IntKind.signed]
        omega
      have h1 := Int.tmod_nonneg 5 h0
      have h2 := Int.tmod_lt_of_pos (IntKind.u64.wrap by') (show (0 : Int) < 5 by decide)
      rw [wrap64 (x := (IntKind.u64.wrap by').tmod 5) (by omega) (by omega), wrap64 (by omega) (by omega)] at hk
      omega
    rw [hk]
    refine ⟨by decide, ?_⟩
    refine W_loop (fun i : { i : Nat // i ≤ r.length } => ([(0, .sl false false (mI r)), (1, I k), (2, B first), (3, .sl false false (mI x)), (11, .own 0 0 i.1 i.1 1), (44, .sl false false (mI r)), (45, I r.length), (46, I i.1)], [.cells (mI ((r.take i.1).map (k * ·)))])) (fun i => r.length - i.1) ⟨0, Nat.zero_le _⟩ [none] (Wk.mk0 rfl (by simp [imgs, Blk.alive]) (by simp [hle, mI]) (by simp [fle, vle, Fr.get, mI_bnd])) ?_
    rintro ⟨i, hi⟩
    dsimp only
    have tl : ((r.take i).map (k * ·)).length = i := by simp; omega
    by_cases hil : i < r.length
    · have d1 : (i : Int) < r.length := by omega
      have gi := mI_get hil
      have bi := Sp.inB_getD rb i
      have bm : -4 ≤ r.getD i 0 * k ∧ r.getD i 0 * k ≤ 4 := by
        rcases (by omega : k = -2 ∨ k = -1 ∨ k = 0 ∨ k = 1 ∨ k = 2) with h | h | h | h | h <;> rw [h] <;> omega
      have e2 : IntKind.i64.wrap (r.getD i 0 * k) = k * r.getD i 0 := by rw [wrap64 (by omega) (by omega), Int.mul_comm]
      have ei : IntKind.i64.wrap ((i : Int) + 1) = ((i + 1 : Nat) : Int) := by rw [wrap64 (by omega) (by omega)]; omega
      have et : mI (List.take i (List.map (fun x => k * x) (List.take i r))) ++ [.val (.int .i64 (k * r.getD i 0))] = mI ((r.take (i + 1)).map (k * ·)) := by
        rw [List.take_of_length_le (by rw [tl]; exact Nat.le_refl _), List.take_add_one, List.getElem?_eq_getElem hil, List.getD_eq_getElem?_getD, List.getElem?_eq_getElem hil, List.map_append]
        exact (List.map_append (f := I) (l₁ := (List.take i r).map (k * ·)) (l₂ := [k * r[i]])).symm
      simp only [w14L1, w14T2, d1, decide_true, gi, e2, ei, tl, go_sem, Nat.reduceEqDiff, Nat.reduceAdd, Nat.reduceLT, Nat.reduceLeDiff, reduceIte, reduceCtorEq]
      rw [et]
      exact ⟨by omega, round1 rfl ⟨i + 1, hil⟩ [some 2] (by dsimp only; omega) (Wk.mk0 rfl (by simp [imgs, Blk.alive]) (by simp only [hle, csle]; simp [mI_bnd]) (by simp [fle, vle, Fr.get, mI_bnd]))⟩
    · have d1 : ¬ (i : Int) < r.length := by omega
      obtain rfl : i = r.length := by omega
      obtain ⟨o, ho⟩ : ∃ o, r.map (k * ·) = o := ⟨_, rfl⟩
      have ol : o.length = r.length := by rw [← ho, List.length_map]
      simp only [w14L1, w14T3, d1, decide_false, go_sem, Nat.reduceEqDiff, Nat.reduceAdd, Nat.reduceLT, Nat.reduceLeDiff, reduceIte, reduceCtorEq]
      rw [ho]
      refine W_view [] [(0, .sl false false (mI r)), (2, B first), (3, .sl false false (mI x)), (11, .sl false false (mI o))] [] (Wk.nil ⟨⟨mI_bnd, fun h => h, fun h => h, rfl⟩, rfl, ⟨mI_bnd, fun h => h, fun h => h, rfl⟩, vle_mI rfl (by simp) ol.symm (List.take_of_length_le (by rw [mI_length]; omega)), trivial⟩) ?_
      simp only [go_sem, Nat.reduceEqDiff, Nat.reduceAdd, Nat.reduceLT, Nat.reduceLeDiff, reduceIte, reduceCtorEq]
      refine CallK.pure (liftV (s24 false false o (-2) 2 (by omega)) (by simp [bndL, AVal.bnd, mI_bnd]) rfl _) ?_
      cases hno : Sp.numbers o (-2) 2 with
      | false =>
        simp only [go_sem, Nat.reduceEqDiff, Nat.reduceAdd, Nat.reduceLT, Nat.reduceLeDiff, reduceIte, reduceCtorEq]
        refine CallK.pure (e25 _) ?_
        simp only [go_sem, Nat.reduceEqDiff, Nat.reduceAdd, Nat.reduceLT, Nat.reduceLeDiff, reduceIte, reduceCtorEq]
        exact leaf (B true) rfl ⟨rfl, rfl⟩
      | true =>
        have hs := same_two (k := k) hm (by rw [ho]; exact hno)
        rw [ho] at hs
        have r6 : r.take 6 = r := List.take_of_length_le (by omega)
        simp only [w14T4, go_sem, Nat.reduceEqDiff, Nat.reduceAdd, Nat.reduceLT, Nat.reduceLeDiff, reduceIte, reduceCtorEq]
        refine CallK.pure (e19 r hr _) ?_
        rw [r6]
        simp only [go_sem, Nat.reduceEqDiff, Nat.reduceAdd, Nat.reduceLT, Nat.reduceLeDiff, reduceIte, reduceCtorEq]
        have go : ∀ (b : List (List Int)) (H : AHeap) (fr : Fr), SameT [r] b → (∀ l ∈ b, l.length ≤ 4) → b.length = 2 → fr.get 0 = .sl false false (mI r) → fr.get 3 = .sl false false (mI x) → vle H [] [] 3 (fr.get 14) (.sl false false (mS b)) → W ⟨Try.prog, 0, 123, true⟩ (retA 0 r14 fun v H' => H' = [] ∧ v = B true) c14T5 [] fr H [] := fun b H fr hS hb4 hb2 f0 f3 f14 => by
          simp only [w14T5, go_sem, Nat.reduceEqDiff, Nat.reduceAdd, Nat.reduceLT, Nat.reduceLeDiff, reduceIte, reduceCtorEq]
          refine W_view [] [(0, .sl false false (mI r)), (3, .sl false false (mI x)), (14, .sl false false (mS b))] [] (Wk.nil ⟨?_, ?_, f14, trivial⟩) ?_
          · rw [f0]; exact ⟨mI_bnd, fun h => h, fun h => h, rfl⟩
          · rw [f3]; exact ⟨mI_bnd, fun h => h, fun h => h, rfl⟩
          simp only [go_sem, Nat.reduceEqDiff, Nat.reduceAdd, Nat.reduceLT, Nat.reduceLeDiff, reduceIte, reduceCtorEq]
          have hbl : ∀ l ∈ b, l.length < 9223372036854775808 := fun l hl => by have := hb4 l hl; omega
          have tb : Sp.table6 b = b := Sp.mat_table.2 hS.mb
          have hA1 : basA [r] = .tup [.sl false false (mS (Sp.basL [r])), I 0] := by unfold basA; rw [if_pos hm]
          have hA2 : basA b = .tup [.sl false false (mS (Sp.basL [r])), I 0] := by unfold basA; rw [if_pos hS.mb, hS.basL]
          have h39 := s39d false false [r] (by simpa using hr) (by simp)
          have h39b := s39d false false b hbl (by omega)
          have h18 := s18 false false b hbl (by omega)
          rw [hA1] at h39
          rw [hA2] at h39b
          rw [tb] at h18
          obtain ⟨m, e, hme⟩ := cntA_shape [r] (x.take 6)
          have x6 : (x.take 6).length < 9223372036854775808 := by rw [List.length_take]; omega
          have h58 := (s58d [r] (x.take 6) (by simpa using hr) (by simp) x6).mono (R' := fun v' H' => v' = .tup [I m, I e] ∧ H' = []) fun v' H' h => ⟨h.2.1.trans hme, h.1⟩
          have h58b := (s58d b (x.take 6) hbl (by omega) x6).mono (R' := fun v' H' => H' = [] ∧ v' = .tup [I m, I e]) fun v' H' h => ⟨h.1, h.2.1.trans ((hS.cnt _).symm.trans hme)⟩
          have hbL : ∀ l ∈ Sp.basL [r], l.length < 9223372036854775808 := fun l hl => by
            have := ((Sp.mem_basL hm).1 hl).1
            simp at this; omega
          have hbLl : (Sp.basL [r]).length ≤ 400 := Sp.ans_len hm (Sp.basB_is _ _)
          refine CallK.pure (e19 r hr _) ?_
          rw [r6]
          simp only [go_sem, Nat.reduceEqDiff, Nat.reduceAdd, Nat.reduceLT, Nat.reduceLeDiff, reduceIte, reduceCtorEq]
          refine CallK.by (CallV.of_spec (first := []) (cap := []) (Spec.give (args := [.own 0 0 1 1 1]) (H := [Blk.cells (mS [r])]) (ρ := []) (R := fun H' => H' = []) (h39.mono fun v' H' h => ⟨h.2, h.1⟩) rfl (Wk.nil ⟨vle_mS (cs := mS [r]) rfl (by simp) rfl rfl, trivial⟩) (by simp [AVal.bnd, bndL, mS_bnd]))) fun v H' ⟨hv, hH⟩ => ?_
          subst hv hH
          simp only [Blk.gone, List.getD_cons_zero, List.getD_cons_succ, go_sem, Nat.reduceEqDiff, Nat.reduceAdd, Nat.reduceLT, Nat.reduceLeDiff, reduceIte, reduceCtorEq]
          refine CallK.pure (liftV h18 (by simp [bndL, AVal.bnd, mS_bnd]) (by simp [AVal.bnd, mS_bnd]) _) ?_
          simp only [go_sem, Nat.reduceEqDiff, Nat.reduceAdd, Nat.reduceLT, Nat.reduceLeDiff, reduceIte, reduceCtorEq]
          refine CallK.pure (liftV h39b (by simp [bndL, AVal.bnd, mS_bnd]) (by simp [AVal.bnd, bndL, mS_bnd]) _) ?_
          simp only [List.getD_cons_zero, List.getD_cons_succ, go_sem, Nat.reduceEqDiff, Nat.reduceAdd, Nat.reduceLT, Nat.reduceLeDiff, reduceIte, reduceCtorEq]
          refine CallK.pure (e19 r hr _) ?_
          rw [r6]
          simp only [go_sem, Nat.reduceEqDiff, Nat.reduceAdd, Nat.reduceLT, Nat.reduceLeDiff, reduceIte, reduceCtorEq]
          refine CallK.pure (e19 x hx _) ?_
          simp only [go_sem, Nat.reduceEqDiff, Nat.reduceAdd, Nat.reduceLT, Nat.reduceLeDiff, reduceIte, reduceCtorEq]
          refine CallK.by (CallV.of_spec (first := []) (cap := []) (Spec.give (args := [.own 1 0 1 1 1, .sl false false (mI (x.take 6))]) (H := [.dead, Blk.cells (mS [r])]) (ρ := []) (R := fun H' => H' = []) h58 rfl (Wk.nil ⟨vle_mS (cs := mS [r]) rfl (by simp) rfl rfl, ⟨mI_bnd, fun h => h, fun h => h, rfl⟩, trivial⟩) (by simp [AVal.bnd, bndL]))) fun v H' ⟨hv, hH⟩ => ?_
          subst hv hH
          simp only [Blk.gone, List.getD_cons_zero, List.getD_cons_succ, go_sem, Nat.reduceEqDiff, Nat.reduceAdd, Nat.reduceLT, Nat.reduceLeDiff, reduceIte, reduceCtorEq]
          refine CallK.pure (e19 x hx _) ?_
          simp only [go_sem, Nat.reduceEqDiff, Nat.reduceAdd, Nat.reduceLT, Nat.reduceLeDiff, reduceIte, reduceCtorEq]
          refine CallK.pure (liftV h58b (by simp [bndL, AVal.bnd, mS_bnd, mI_bnd]) (by simp [AVal.bnd, bndL]) _) ?_
          have be : (e == e) = true := by simp
          have bm : (m == m) = true := by simp
          simp only [List.getD_cons_zero, List.getD_cons_succ, go_sem, Nat.reduceEqDiff, Nat.reduceAdd, Nat.reduceLT, Nat.reduceLeDiff, reduceIte, reduceCtorEq]
          refine CallK.pure (liftV (s48 false false false false (Sp.basL [r]) (Sp.basL [r]) hbL (by omega)) (by simp [bndL, AVal.bnd, mS_bnd]) rfl _) ?_
          simp only [go_sem, Nat.reduceEqDiff, Nat.reduceAdd, Nat.reduceLT, Nat.reduceLeDiff, reduceIte, reduceCtorEq]
          refine CallK.pure (e25 _) ?_
          simp only [go_sem, Nat.reduceEqDiff, Nat.reduceAdd, Nat.reduceLT, Nat.reduceLeDiff, reduceIte, reduceCtorEq]
          exact leaf (B true) rfl ⟨rfl, rfl⟩
        cases first with
        | true =>
          simp only [go_sem, Nat.reduceEqDiff, Nat.reduceAdd, Nat.reduceLT, Nat.reduceLeDiff, reduceIte, reduceCtorEq]
          refine CallK.pure (e19 r hr _) ?_
          rw [r6]
          simp only [go_sem, Nat.reduceEqDiff, Nat.reduceAdd, Nat.reduceLT, Nat.reduceLeDiff, reduceIte, reduceCtorEq]
          exact go [o, r] _ _ hs.2 (by simp; omega) rfl rfl rfl (vle_mS (cs := mS [o, r]) rfl (by simp) rfl rfl)
        | false =>
          simp only [go_sem, Nat.reduceEqDiff, Nat.reduceAdd, Nat.reduceLT, Nat.reduceLeDiff, reduceIte, reduceCtorEq]
          exact go [r, o] _ _ hs.1 (by simp; omega) rfl rfl rfl (vle_mS (cs := mS [r, o]) rfl (by simp) rfl rfl)
end Go.Proofs.Ytipfjfmdjmaflaa
