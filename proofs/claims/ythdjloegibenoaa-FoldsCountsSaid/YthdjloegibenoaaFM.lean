/- Contracts of folds: taking the last leaf away; the statement FoldsCreases. -/
import Derived.Test.YthdjloegibenoaaFL
namespace Go.Proofs.Ythdjloegibenoaa
open Go.Abs AVal
set_option linter.unusedSimpArgs false
attribute [local go_sem] W_skip W_keep KQ_canon canon Fr.norm W_seq W_block W_exit W_ret W_ops W_draw KQ_nil KQ_norm_seq KQ_exit_seq KQ_ret_seq KQ_norm_block KQ_ret_block KQ_exit_block KQ_exit_loop KQ_ret_loop O_nil O_cons S_call S_mv SE_mv SD_mv S_pick SE_pick SD_pick S_bin SE_bin SD_bin S_eqb SE_eqb SD_eqb S_eqv SE_eqv SD_eqv S_eqnil SE_eqnil SD_eqnil S_un SE_un SD_un S_conv SE_conv SD_conv S_mkfn SE_mkfn SD_mkfn S_load SE_load SD_load S_nilck SE_nilck SD_nilck S_slS SE_slS SD_slS S_slP SE_slP SD_slP S_fldA SE_fldA SD_fldA S_fld SE_fld SD_fld S_ixS SE_ixS SD_ixS S_ixP SE_ixP SD_ixP S_ixV SE_ixV SD_ixV S_ixStr SE_ixStr SD_ixStr S_ext SE_ext SD_ext S_len SE_len SD_len S_lenStr SE_lenStr SD_lenStr S_lenc SE_lenc SD_lenc S_mn SE_mn SD_mn S_mx SE_mx SD_mx S_build SE_build SD_build S_alloc SD_alloc S_box SD_box S_bslice SD_bslice S_mksl SD_mksl S_store SD_store S_append SD_append S_copy SD_copy S_clr SD_clr aq_some aa_some al_some aqd_some aad_some ald_some ape_some D_done D_both D_early D_step SE_call SD_call IOpd.ev Fr.get Fr.put Fr.putd entryFr pickA binA binI isSh shI eqbA eqvA ints ints_mI Option.map_some eqnilA unA convA loadA nilckA intA slSA slPA fldAA fldVA ixSA ixPA ixVA ixStrA extA lenA lenStrA mnA mxA AVal.fits fillA fillOk buildA opa srcA appA stoA copA clrA rdFree zeros List.length_nil List.length_cons List.length_map List.map_cons List.map_nil Option.map_some Option.map_none if_true if_false ite_true ite_false true_and and_true and_self implies_true forall_const true_implies Bool.false_eq_true Bool.not_true Bool.not_false decide_eq_true_eq decide_eq_false_iff_not eq_self List.getElem?_cons_zero List.getElem?_cons_succ List.getElem?_nil List.set_cons_zero List.set_cons_succ List.nil_append List.cons_append List.append_nil List.replicate_zero List.replicate_succ Nat.zero_add false_implies rng_lt rng_end rng_get cells_I cells_B cells_sl cut_one Int.toNat_natCast Int.natCast_nonneg List.headD_cons Int.lt_irrefl not_false_eq_true decide_false decide_true mI_length mI_cells mI_sz mI_isCell mI_mid mI_append mI_take mI_drop cells_val cells_own cells_agg isCell_I isCell_B isCell_nil isCell_sl isCell_own isCell_ptr isCell_fn isCell_rp isCell_yld cellsOk_I cellsOk_B cellsOk_nil cellsOk_sl cellsOk_own cellsOk_ptr cellsOk_fn cellsOk_rp cellsOk_yld cellsOk_agg cells_nil cells_ptr cells_fn cells_rp List.all_cons List.all_nil Bool.and_true Nat.mul_one Nat.zero_mul Nat.one_mul List.take_zero List.take_nil List.drop_nil List.drop_zero List.not_mem_nil Nat.le_refl Nat.zero_le mS_length mS_cells mS_sz mS_isCell mS_mid mS_append mS_take mS_drop cells_sI isCell_sI cellsOk_sI sI_eq succ_le_self' List.take_succ_cons List.drop_succ_cons List.take_length beq_self_eq_true List.mem_cons or_false forall_eq mI_put mI_rep O_guard' D_earlyG' D_stepG' W_cond' G_tt G_tf G_ft G_ff GE_tt GE_tf GE_ft GE_ff GS_tt GS_tf GS_ft GS_ff G_u GE_u GS_u IC_t IC_f xft xff xtt xtf z00 z20 z22 z02 zz tn0

theorem s69 (nn t : Bool) (D : List Int) (x : Int) (hl : D.length < 9223372036854775808) : Abs.Spec Try.prog 69 [I x, .rp [.sl nn t (mI D)]] [] fun v H' => H' = [] ∧ v = B (decide (x = (D.length : Int) - 1)) := by
  refine Abs.Spec.walk mixed fn69 nn69 t69 q69 nt69 (by simp) ?_
  have hw : IntKind.i64.wrap ((D.length : Int) - 1) = (D.length : Int) - 1 := wrap64 (by omega) (by omega)
  simp only [w69, hw, go_sem, Nat.reduceEqDiff, Nat.reduceAdd, Nat.reduceLT, Nat.reduceLeDiff, reduceIte, reduceCtorEq]
  exact leaf (B _) rfl ⟨rfl, by congr 1⟩

/-- The leaves before the last. -/
def openR (D : List Int) : List Int := D.filter fun x => decide (x < (D.length : Int) - 1)
/-- The leaves but the last. -/
def openP (m : Int) (D : List Int) : List Int := D.filter fun x => !decide (x = m)

theorem s46 (nn t : Bool) (D : List Int) (hl : D.length ≤ 1000) : Abs.Spec Try.prog 46 [.sl nn t (mI D)] [] fun v H' => H' = [] ∧ v = .sl false false (mI (openR D)) := by
  refine Abs.Spec.walk mixed fn46 nn46 t46 q46 nt46 (by simp) ?_
  simp only [w46, go_sem, Nat.reduceEqDiff, Nat.reduceAdd, Nat.reduceLT, Nat.reduceLeDiff, reduceIte, reduceCtorEq]
  refine W_loop (fun q : { q : Nat × List Int // q.1 ≤ D.length ∧ q.2.length ≤ q.1 ∧ q.2 = (D.take q.1).filter fun x => decide (x < (D.length : Int) - 1) } => ([(0, .sl nn t (mI D)), (3, own 0 0 q.1.2.length q.1.2.length 1), (6, .sl nn t (mI D)), (7, I D.length), (8, I q.1.1)], [.cells (mI q.1.2)])) (fun q => D.length - q.1.1)
    ⟨(0, []), by omega, by simp, rfl⟩ [none] (Wk.mk0 rfl (by simp [imgs, Blk.alive]) (by simp [hle, mI]) (by simp [fle, vle, Fr.get, mI_bnd])) ?_
  rintro ⟨⟨i, out⟩, hi, hol, hout⟩
  dsimp only at hi hol hout ⊢
  by_cases hil : i < D.length
  · have hz : decide ((i : Int) < D.length) = true := decide_eq_true (by omega)
    have hil' : (i : Int) < D.length := by omega
    have hwk : IntKind.i64.wrap ((i : Int) + 1) = ((i + 1 : Nat) : Int) := by rw [wrap64 (by omega) (by omega)]; rfl
    obtain ⟨y, hy⟩ : ∃ y, D.getD i 0 = y := ⟨_, rfl⟩
    have hy' : D[i] = y := by rw [← hy, List.getD_eq_getElem?_getD, List.getElem?_eq_getElem hil]; rfl
    have hw1 : IntKind.i64.wrap ((D.length : Int) - 1) = (D.length : Int) - 1 := wrap64 (by omega) (by omega)
    have hnl : ¬ out.length + 1 ≤ out.length := by omega
    have htake : (mI out).take out.length = mI out := List.take_of_length_le (by rw [mI_length]; exact Nat.le_refl _)
    have htk : D.take (i + 1) = D.take i ++ [y] := by rw [List.take_add_one, List.getElem?_eq_getElem hil, hy']; rfl
    by_cases hlt : y < (D.length : Int) - 1
    · have hzy : decide (y < (D.length : Int) - 1) = true := decide_eq_true hlt
      simp only [w46L0, hz, hil', mI_get, hil, hy, mI_hd, hw1, hwk, hnl, htake, hzy, go_sem, Nat.reduceEqDiff, Nat.reduceAdd, Nat.reduceLT, Nat.reduceLeDiff, reduceIte, reduceCtorEq]
      refine ⟨by omega, ?_⟩
      refine round1 rfl ⟨(i + 1, out ++ [y]), by omega, by simp; omega, by rw [htk, List.filter_append, ← hout]; simp [hzy]⟩ [some 2] (by dsimp only; omega) ?_
      dsimp only
      rw [List.length_append]
      exact Wk.one rfl (by rw [mI_snoc]) mI_bnd (by simp [fle, vle, Fr.get, mI_bnd])
    · have hzy : decide (y < (D.length : Int) - 1) = false := decide_eq_false hlt
      simp only [w46L0, hz, hil', mI_get, hil, hy, mI_hd, hw1, hwk, hnl, htake, hzy, go_sem, Nat.reduceEqDiff, Nat.reduceAdd, Nat.reduceLT, Nat.reduceLeDiff, reduceIte, reduceCtorEq]
      refine round1 rfl ⟨(i + 1, out), by omega, by dsimp only; omega, by dsimp only; rw [htk, List.filter_append, ← hout]; simp [hlt]⟩ [some 0] (by dsimp only; omega) ?_
      dsimp only
      exact Wk.one rfl rfl mI_bnd (by simp [fle, vle, Fr.get, mI_bnd])
  · have hz : decide ((i : Int) < D.length) = false := decide_eq_false (by omega)
    obtain rfl : i = D.length := by omega
    rw [List.take_length] at hout
    simp only [w46L0, hz, w46T1, go_sem, Nat.reduceEqDiff, Nat.reduceAdd, Nat.reduceLT, Nat.reduceLeDiff, reduceIte, reduceCtorEq]
    refine leaf (.sl false false (mI (openR D))) ?_ ⟨rfl, rfl⟩
    rw [openR, ← hout]
    exact vle_mI rfl (by simp) rfl (List.take_of_length_le (by rw [mI_length]; exact Nat.le_refl _))

/-- The call of Open's test, where it looks into the cell that holds the pile. -/
theorem k69 (nn t : Bool) (D : List Int) (x : Int) (hl : D.length < 9223372036854775808) (H : AHeap) : CallV Try.prog (.fn (.func 69) [] [.ptr 0 0]) [I x] (.cells [.sl nn t (mI D)] :: H) fun v H' => v = B (decide (x = (D.length : Int) - 1)) ∧ H' = .cells [.sl nn t (mI D)] :: H :=
  CallV.of_spec (first := []) (Spec.lend (args' := [I x, .rp [.sl nn t (mI D)]]) (s69 nn t D x hl) rfl (by simp [vle, vle.vleL, bndL, AVal.bnd, mI_bnd]))

/-- Where the number stands. -/
def idxI (p : Int → Bool) (xs : List Int) : Int := if xs.all (fun x => !p x) then -1 else (xs.findIdx p : Nat)
theorem idxI_hit {p : Int → Bool} {xs : List Int} {i : Nat} (hi : i < xs.length) (hp : p xs[i] = true) (h : ∀ x ∈ xs.take i, p x = false) : idxI p xs = i := by
  have : xs.all (fun x => !p x) = false := by
    rw [List.all_eq_false]
    exact ⟨xs[i], List.getElem_mem hi, by simp [hp]⟩
  rw [idxI, if_neg (by rw [this]; simp)]
  congr 1
  rw [List.findIdx_eq hi]
  refine ⟨hp, fun j hj => ?_⟩
  refine h _ ?_
  rw [List.mem_take_iff_getElem]
  exact ⟨j, by omega, rfl⟩

theorem s77 (nn t : Bool) (xs : List Int) (fv : AVal) (p : Int → Bool) (hf : ∀ x ∈ xs, CallV Try.prog fv [I x] [] fun v H' => v = B (p x) ∧ H' = []) (hv : ∀ H, vle H [] [] 3 fv fv) (hl : xs.length < 9223372036854775808) :
    Abs.Spec Try.prog 77 [.sl nn t (mI xs), fv] [] fun v H' => H' = [] ∧ v = I (idxI p xs) := by
  refine Abs.Spec.walk mixed fn77 nn77 t77 q77 nt77 (by simp) ?_
  simp only [w77, go_sem, Nat.reduceEqDiff, Nat.reduceAdd, Nat.reduceLT, Nat.reduceLeDiff, reduceIte, reduceCtorEq]
  refine W_loop (fun q : { i : Nat // i ≤ xs.length ∧ ∀ x ∈ xs.take i, p x = false } => ([(0, sl nn t (mI xs)), (1, fv), (7, I xs.length), (8, I q.1)], [])) (fun q => xs.length - q.1) ⟨0, by omega, by simp⟩ [] (Wk.nil (by simp [fle, vle, Fr.get, mI_bnd, hv])) ?_
  rintro ⟨i, hi, hinv⟩
  dsimp only
  by_cases hil : i < xs.length
  · have hz : decide ((i : Int) < xs.length) = true := decide_eq_true (by omega)
    have hil' : (i : Int) < xs.length := by omega
    have hwk : IntKind.i64.wrap ((i : Int) + 1) = ((i + 1 : Nat) : Int) := by rw [wrap64 (by omega) (by omega)]; rfl
    obtain ⟨y, hy⟩ : ∃ y, xs.getD i 0 = y := ⟨_, rfl⟩
    have hy' : xs[i] = y := by rw [← hy, List.getD_eq_getElem?_getD, List.getElem?_eq_getElem hil]; rfl
    simp only [w77L0, hz, hil', mI_get, hil, hy, mI_hd, go_sem, Nat.reduceEqDiff, Nat.reduceAdd, Nat.reduceLT, Nat.reduceLeDiff, reduceIte, reduceCtorEq]
    refine CallK.pure (hf y (by rw [← hy']; exact List.getElem_mem _)) ?_
    cases hpy : p y with
    | true =>
      simp only [go_sem, Nat.reduceEqDiff, Nat.reduceAdd, Nat.reduceLT, Nat.reduceLeDiff, reduceIte, reduceCtorEq]
      exact leaf (I _) rfl ⟨rfl, by rw [idxI_hit hil (by rw [hy']; exact hpy) hinv]⟩
    | false =>
      simp only [hwk, go_sem, Nat.reduceEqDiff, Nat.reduceAdd, Nat.reduceLT, Nat.reduceLeDiff, reduceIte, reduceCtorEq]
      refine round0 rfl ⟨i + 1, by omega, fun x hx => ?_⟩ (by dsimp only; omega) rfl (by simp [fle, vle, Fr.get, mI_bnd, hv])
      rw [List.take_add_one, List.getElem?_eq_getElem hil, hy'] at hx
      rcases List.mem_append.1 hx with hx | hx
      · exact hinv x hx
      · simp at hx; subst hx; exact hpy
  · have hz : decide ((i : Int) < xs.length) = false := decide_eq_false (by omega)
    obtain rfl : i = xs.length := by omega
    rw [List.take_length] at hinv
    simp only [w77L0, hz, w77T1, go_sem, Nat.reduceEqDiff, Nat.reduceAdd, Nat.reduceLT, Nat.reduceLeDiff, reduceIte, reduceCtorEq]
    exact leaf (I _) rfl ⟨rfl, by rw [idxI, if_pos (List.all_eq_true.2 fun x hx => by simp [hinv x hx])]⟩

theorem idxI_miss {p : Int → Bool} {xs : List Int} (h : idxI p xs = -1) : xs.filter (fun x => !p x) = xs := by
  rw [idxI] at h
  split at h
  · rename_i h2; exact List.filter_eq_self.2 (List.all_eq_true.1 h2)
  · omega
theorem idxI_found {p : Int → Bool} {xs : List Int} (h : idxI p xs ≠ -1) : ∃ i, idxI p xs = (i : Nat) ∧ i < xs.length ∧ (xs.take (i + 1)).filter (fun x => !p x) = xs.take i := by
  rw [idxI] at h ⊢
  split at h
  · exact absurd rfl h
  · rename_i hn
    rw [if_neg hn]
    have hlt : xs.findIdx p < xs.length := List.findIdx_lt_length_of_exists (by
      simpa using hn)
    refine ⟨_, rfl, hlt, ?_⟩
    rw [List.take_add_one, List.getElem?_eq_getElem hlt, List.filter_append]
    have h1 : (xs.take (xs.findIdx p)).filter (fun x => !p x) = xs.take (xs.findIdx p) := List.filter_eq_self.2 fun x hx => by
      obtain ⟨j, hj, rfl⟩ := List.mem_take_iff_getElem.1 hx
      simp [List.not_of_lt_findIdx (show j < xs.findIdx p by omega)]
    rw [h1]
    simp [List.findIdx_getElem]

set_option maxHeartbeats 1000000 in
theorem s68 (nn t : Bool) (D : List Int) (hl : D.length ≤ 1000) : Abs.Spec Try.prog 68 [.own 1 0 D.length D.length 1, .fn (.func 69) [] [.ptr 0 0]] [.cells [.sl nn t (mI D)], .cells (mI D)] fun v H' =>
    ∃ (k : Nat) (ys : List Int), k ≤ ys.length ∧ v = .own 1 0 k D.length 1 ∧ H' = [.cells [.sl nn t (mI D)], .cells (mI ys)] ∧ ys.take k = openP ((D.length : Int) - 1) D := by
  refine Abs.Spec.walk mixed fn68 nn68 t68 q68 nt68 (by simp) ?_
  simp only [w68, go_sem, Nat.reduceEqDiff, Nat.reduceAdd, Nat.reduceLT, Nat.reduceLeDiff, reduceIte, reduceCtorEq]
  obtain ⟨p, hp⟩ : ∃ p : Int → Bool, (fun x => decide (x = (D.length : Int) - 1)) = p := ⟨_, rfl⟩
  have hq : ∀ x, decide (x = (D.length : Int) - 1) = p x := fun x => by rw [← hp]
  have ho : openP ((D.length : Int) - 1) D = D.filter fun x => !p x := by rw [openP]; simp only [hq]
  refine CallK.pure (CallV.of_spec (first := []) (cap := []) (Spec.lend (args' := [.sl false false (mI D), .fn (.func 69) [] [.rp [.sl nn t (mI D)]]]) (s77 false false D _ p (fun x hx => by rw [← hq x]; exact (CallV.of_spec (first := []) (s69 nn t D x (by omega))).mono fun v H' ⟨a, b⟩ => ⟨b, a⟩) (fun H => by simp [vle, vle.vleL, bndL, AVal.bnd, mI_bnd]) (by omega)) rfl ⟨vle_mI rfl (by simp) rfl (List.take_of_length_le (by rw [mI_length]; exact Nat.le_refl _)), by simp [vle, vle.vleL, bndL, AVal.bnd, mI_bnd], trivial⟩)) ?_
  by_cases hm : idxI p D = -1
  · rw [hm]
    have z : ((-1 : Int) == -1) = true := rfl
    simp only [z, go_sem, Nat.reduceEqDiff, Nat.reduceAdd, Nat.reduceLT, Nat.reduceLeDiff, reduceIte, reduceCtorEq]
    refine leafB' _ rfl rfl (by simp [blkOk, bndL, AVal.bnd, mI_bnd]) (by simp [Fr.get, vid]) ⟨D.length, D, by omega, rfl, rfl, by rw [List.take_length, ho, idxI_miss hm]⟩
  · obtain ⟨i0, e, hi0, hf⟩ := idxI_found hm
    rw [e]
    have z : ((i0 : Int) == -1) = false := by rw [beq_eq_false_iff_ne]; omega
    have hw : IntKind.i64.wrap ((i0 : Int) + 1) = ((i0 + 1 : Nat) : Int) := by rw [wrap64 (by omega) (by omega)]; rfl
    simp only [z, hw, go_sem, Nat.reduceEqDiff, Nat.reduceAdd, Nat.reduceLT, Nat.reduceLeDiff, reduceIte, reduceCtorEq]
    refine W_loop (fun q : { q : Nat × Nat × List Int // q.1 < q.2.1 ∧ q.2.1 ≤ D.length ∧ q.2.2.length = D.length ∧ q.2.2.take q.1 = (D.take q.2.1).filter (fun x => !p x) ∧ q.2.2.drop q.2.1 = D.drop q.2.1 } => ([(0, own 1 0 D.length D.length 1), (1, .fn (.func 69) [] [.ptr 0 0]), (5, I q.1.1), (6, I q.1.2.1)], [.cells [.sl nn t (mI D)], .cells (mI q.1.2.2)])) (fun q => D.length - q.1.2.1)
      ⟨(i0, i0 + 1, D), by simp, by dsimp only; omega, rfl, hf.symm, rfl⟩ (idρ 2) (WkB (B := 2) rfl (by simp [blkOk, bndL, AVal.bnd, mI_bnd]) (by simp [Fr.get, vid])) ?_
    rintro ⟨⟨i, j, ys⟩, hij, hj, hyl, htake, hdrop⟩
    dsimp only at hij hj hyl htake hdrop ⊢
    by_cases hjl : j < D.length
    · have hz : decide ((j : Int) < D.length) = true := decide_eq_true (by omega)
      have hjl' : (j : Int) < D.length := by omega
      have hjy : j < ys.length := by omega
      have hiy : i < ys.length := by omega
      have hil' : (i : Int) < D.length := by omega
      have hwj : IntKind.i64.wrap ((j : Int) + 1) = ((j + 1 : Nat) : Int) := by rw [wrap64 (by omega) (by omega)]; rfl
      have hwi : IntKind.i64.wrap ((i : Int) + 1) = ((i + 1 : Nat) : Int) := by rw [wrap64 (by omega) (by omega)]; rfl
      obtain ⟨y, hy⟩ : ∃ y, ys.getD j 0 = y := ⟨_, rfl⟩
      have hy' : ys[j] = y := by rw [← hy, List.getD_eq_getElem?_getD, List.getElem?_eq_getElem hjy]; rfl
      have hyD : D[j] = y := by
        have := congrArg (·[0]?) hdrop
        simp only [List.getElem?_drop, Nat.add_zero, List.getElem?_eq_getElem hjy, List.getElem?_eq_getElem hjl, Option.some.injEq] at this
        rw [← this, hy']
      have hdrop2 : ys.drop (j + 1) = D.drop (j + 1) := by
        have := congrArg (List.drop 1) hdrop
        simpa [List.drop_drop, Nat.add_comm] using this
      have htk : D.take (j + 1) = D.take j ++ [y] := by rw [List.take_add_one, List.getElem?_eq_getElem hjl, hyD]; rfl
      simp only [w68L0, hz, hjl', hjy, mI_hd, hy, go_sem, Nat.reduceEqDiff, Nat.reduceAdd, Nat.reduceLT, Nat.reduceLeDiff, reduceIte, reduceCtorEq]
      refine ⟨by omega, ?_⟩
      refine CallK.pure (k69 nn t D y (by omega) [.cells (mI ys)]) ?_
      rw [hq]
      cases hpy : p y with
      | true =>
        simp only [hwj, go_sem, Nat.reduceEqDiff, Nat.reduceAdd, Nat.reduceLT, Nat.reduceLeDiff, reduceIte, reduceCtorEq]
        exact roundB ⟨(i, j + 1, ys), by dsimp only; omega, by dsimp only; omega, hyl, by dsimp only; rw [htk, List.filter_append, ← htake]; simp [hpy], hdrop2⟩ (by dsimp only; omega) rfl rfl (by simp [blkOk, bndL, AVal.bnd, mI_bnd]) (by simp [Fr.get, vid])
      | false =>
        simp only [hil', hiy, mI_put, set_put, hwi, hwj, go_sem, Nat.reduceEqDiff, Nat.reduceAdd, Nat.reduceLT, Nat.reduceLeDiff, reduceIte, reduceCtorEq]
        repeat (refine ⟨by omega, ?_⟩)
        refine roundB ⟨(i + 1, j + 1, ys.set i y), by dsimp only; omega, by dsimp only; omega, by simp [hyl], ?_, ?_⟩ (by dsimp only; omega) rfl rfl (by simp [blkOk, bndL, AVal.bnd, mI_bnd]) (by simp [Fr.get, vid])
        · dsimp only
          rw [htk, List.filter_append, ← htake, List.take_add_one, List.getElem?_set_self hiy, List.take_set_of_le (Nat.le_refl _)]
          simp [hpy]
        · dsimp only
          rw [List.drop_set_of_lt (by omega), hdrop2]
    · have hz : decide ((j : Int) < D.length) = false := decide_eq_false (by omega)
      obtain rfl : j = D.length := by omega
      rw [List.take_length, ← ho] at htake
      have hil' : (i : Int) ≤ D.length := by omega
      simp only [w68L0, hz, w68T1, hil', go_sem, Nat.reduceEqDiff, Nat.reduceAdd, Nat.reduceLT, Nat.reduceLeDiff, reduceIte, reduceCtorEq]
      refine ⟨by omega, by omega, ⟨by omega, .inl trivial⟩, ?_⟩
      refine leafB' _ rfl rfl (by simp [blkOk, bndL, AVal.bnd, mI_bnd]) (by simp [Fr.get, vid]) ⟨i, _, ?_, rfl, rfl, ?_⟩
      · simp; omega
      · rw [List.append_assoc, List.take_append_of_le_length (by simp; omega), List.take_take, Nat.min_self, htake]

theorem s43 (nn t : Bool) (D : List Int) (hD : D.length < 9223372036854775808) : Abs.Spec Try.prog 43 [.sl nn t (mI D)] [] fun v H' => H' = [] ∧ v = if Sp.isStrip D && decide (2 ≤ D.length) then (if Sp.possP D (Sp.stripC D.length) then .tup [.sl false false (mI (openP ((D.length : Int) - 1) D)), I 0] else .tup [.sl false false (mI []), I 5]) else .tup [.sl false false (mI []), I 2] := by
  refine Abs.Spec.walk mixed fn43 nn43 t43 q43 nt43 (by simp) ?_
  have z20 : ((2 : Int) != 0) = true := rfl
  simp only [w43, go_sem, Nat.reduceEqDiff, Nat.reduceAdd, Nat.reduceLT, Nat.reduceLeDiff, reduceIte, reduceCtorEq]
  refine CallK.pure (liftV (s15 nn t D hD) (by simp [bndL, AVal.bnd, mI_bnd]) (by split <;> rfl) _) ?_
  cases hs : Sp.isStrip D with
  | false =>
    simp only [Bool.false_eq_true, if_false, Bool.false_and]
    simp only [List.getD_cons_zero, List.getD_cons_succ, z20, go_sem, Nat.reduceEqDiff, Nat.reduceAdd, Nat.reduceLT, Nat.reduceLeDiff, reduceIte, reduceCtorEq]
    exact leaf2 (.tup [.sl false false (mI []), I 2]) ⟨⟨mI_bnd, rfl, rfl⟩, rfl, trivial⟩ ⟨rfl, rfl⟩
  | true =>
    obtain ⟨h1, h7, hp⟩ := Sp.strip_pile hs
    by_cases h2 : 2 ≤ D.length
    · have hz : decide ((D.length : Int) < 2) = false := decide_eq_false (by omega)
      rw [decide_eq_true h2]
      cases hq : Sp.possP D (Sp.stripC D.length) with
      | false =>
        simp only [Bool.false_eq_true, if_false, if_true, Bool.and_self]
        simp only [List.getD_cons_zero, List.getD_cons_succ, z00, mI_length, hz, go_sem, Nat.reduceEqDiff, Nat.reduceAdd, Nat.reduceLT, Nat.reduceLeDiff, reduceIte, reduceCtorEq]
        exact leaf2 (.tup [.sl false false (mI []), I 5]) ⟨⟨mI_bnd, rfl, rfl⟩, rfl, trivial⟩ ⟨rfl, rfl⟩
      | true =>
        simp only [if_true, Bool.and_self]
        simp only [List.getD_cons_zero, List.getD_cons_succ, z00, mI_length, hz, go_sem, Nat.reduceEqDiff, Nat.reduceAdd, Nat.reduceLT, Nat.reduceLeDiff, reduceIte, reduceCtorEq]
        refine CallK.by (CallV.of_spec (first := []) (cap := []) (Abs.Spec.made (s44o nn t D h1 (by omega)) (by simp [bndL, AVal.bnd, mI_bnd]) mI_bnd _)) fun v H' ⟨e1, e2⟩ => ?_
        subst e1 e2
        simp only [go_sem, Nat.reduceEqDiff, Nat.reduceAdd, Nat.reduceLT, Nat.reduceLeDiff, reduceIte, reduceCtorEq]
        refine CallK.by (CallV.of_spec (s68 nn t D (by omega))) fun v H' ⟨k, ys, e0, e1, e2, e3⟩ => ?_
        subst e1 e2
        simp only [go_sem, Nat.reduceEqDiff, Nat.reduceAdd, Nat.reduceLT, Nat.reduceLeDiff, reduceIte, reduceCtorEq]
        rw [← e3]
        refine leaf2 (.tup [.sl false false (mI (ys.take k)), I 0]) ⟨?_, rfl, trivial⟩ ⟨rfl, rfl⟩
        exact vle_mI rfl (by simp) (by simp; omega) (by simp only [mI, List.map_take])
    · have hz : decide ((D.length : Int) < 2) = true := decide_eq_true (by omega)
      rw [decide_eq_false h2]
      simp only [Bool.false_eq_true, if_false, Bool.and_false, if_true]
      simp only [List.getD_cons_zero, List.getD_cons_succ, z00, mI_length, hz, go_sem, Nat.reduceEqDiff, Nat.reduceAdd, Nat.reduceLT, Nat.reduceLeDiff, reduceIte, reduceCtorEq]
      exact leaf2 (.tup [.sl false false (mI []), I 2]) ⟨⟨mI_bnd, rfl, rfl⟩, rfl, trivial⟩ ⟨rfl, rfl⟩

theorem openP_R {D : List Int} (hr : ∀ x ∈ D, 0 ≤ x ∧ x < D.length) : openP ((D.length : Int) - 1) D = openR D := by
  refine List.filter_congr fun x hx => ?_
  have := hr x hx
  by_cases h : x = (D.length : Int) - 1
  · simp [h]
  · rw [decide_eq_false h, decide_eq_true (show x < (D.length : Int) - 1 by omega)]; rfl

set_option maxHeartbeats 1000000 in
theorem s13 (D : List Int) (hl : D.length < 9223372036854775808) : Abs.Spec Try.prog 13 [.sl false false (mI D)] [] fun v H' => H' = [] ∧ v = B true := by
  have e18 : ∀ H, CallV Try.prog (.fn (.func 18) [] []) [] H fun v H' => v = B true ∧ H' = H := fun H => liftV s18 rfl rfl H
  have hl11 : (D.take 11).length < 9223372036854775808 := by simp; omega
  refine Abs.Spec.walk mixed fn13 nn13 t13 q13 nt13 (by simp) ?_
  simp only [w13, go_sem, Nat.reduceEqDiff, Nat.reduceAdd, Nat.reduceLT, Nat.reduceLeDiff, reduceIte, reduceCtorEq]
  refine CallK.by (CallV.of_spec (s16 false false D hl)) fun v H' ⟨h1, h2⟩ => ?_
  subst h1 h2
  simp only [go_sem, Nat.reduceEqDiff, Nat.reduceAdd, Nat.reduceLT, Nat.reduceLeDiff, reduceIte, reduceCtorEq]
  refine CallK.by (CallV.of_spec (s42 false false (D.take 11) hl11)) fun v H' ⟨h1, h2⟩ => ?_
  subst h1 h2
  rw [creV, Sp.strip_take]
  cases hs : Sp.isStrip D with
  | false =>
    rw [if_neg (by simp)]
    simp only [List.getD_cons_zero, List.getD_cons_succ, go_sem, Nat.reduceEqDiff, Nat.reduceAdd, Nat.reduceLT, Nat.reduceLeDiff, reduceIte, reduceCtorEq]
    refine CallK.by (CallV.of_spec (s16 false false D hl)) fun v H' ⟨h1, h2⟩ => ?_
    subst h1 h2
    simp only [go_sem, Nat.reduceEqDiff, Nat.reduceAdd, Nat.reduceLT, Nat.reduceLeDiff, reduceIte, reduceCtorEq]
    refine CallK.by (CallV.of_spec (s43 false false (D.take 11) hl11)) fun v H' ⟨h1, h2⟩ => ?_
    subst h1 h2
    rw [Sp.strip_take, hs, if_neg (by simp)]
    simp only [List.getD_cons_zero, List.getD_cons_succ, go_sem, Nat.reduceEqDiff, Nat.reduceAdd, Nat.reduceLT, Nat.reduceLeDiff, reduceIte, reduceCtorEq]
    refine CallK.by (CallV.of_spec (s17 false false D hl)) fun v H' ⟨h1, h2⟩ => ?_
    subst h1 h2
    rw [hs]
    have z0 : (((0 : Nat) : Int) == 0) = true := rfl
    simp only [mI_length, z00, z0, go_sem, Nat.reduceEqDiff, Nat.reduceAdd, Nat.reduceLT, Nat.reduceLeDiff, reduceIte, reduceCtorEq]
    refine CallK.pure (e18 _) ?_
    simp only [go_sem, Nat.reduceEqDiff, Nat.reduceAdd, Nat.reduceLT, Nat.reduceLeDiff, reduceIte, reduceCtorEq]
    exact leaf (B true) rfl ⟨rfl, rfl⟩
  | true =>
    obtain ⟨h1, h7, hp⟩ := Sp.strip_pile hs
    have e45 : ∀ H, CallV Try.prog (.fn (.func 45) [] []) [.sl false false (mI D)] H fun v H' => v = I (Sp.creP D) ∧ H' = H := fun H => liftV (s45 false false D (by omega) (by omega) hp.rng) (by simp [bndL, AVal.bnd, mI_bnd]) rfl H
    rw [if_pos rfl, Sp.strip_take' hs]
    by_cases h2 : 2 ≤ D.length
    · have hz : decide ((D.length : Int) < 2) = false := decide_eq_false (by omega)
      cases hq : Sp.possP D (Sp.stripC D.length) with
      | false =>
        rw [if_neg (by simp)]
        simp only [List.getD_cons_zero, List.getD_cons_succ, go_sem, Nat.reduceEqDiff, Nat.reduceAdd, Nat.reduceLT, Nat.reduceLeDiff, reduceIte, reduceCtorEq]
        refine CallK.by (CallV.of_spec (s16 false false D hl)) fun v H' ⟨h1, h2⟩ => ?_
        subst h1 h2
        rw [Sp.strip_take' hs]
        simp only [go_sem, Nat.reduceEqDiff, Nat.reduceAdd, Nat.reduceLT, Nat.reduceLeDiff, reduceIte, reduceCtorEq]
        refine CallK.by (CallV.of_spec (s43 false false D hl)) fun v H' ⟨h1, h2⟩ => ?_
        subst h1 h2
        rw [hs, decide_eq_true h2, hq, Bool.and_self, if_pos rfl, if_neg (by simp)]
        simp only [List.getD_cons_zero, List.getD_cons_succ, go_sem, Nat.reduceEqDiff, Nat.reduceAdd, Nat.reduceLT, Nat.reduceLeDiff, reduceIte, reduceCtorEq]
        refine CallK.by (CallV.of_spec (s17 false false D hl)) fun v H' ⟨h1, h2⟩ => ?_
        subst h1 h2
        rw [hs]
        simp only [hz, mI_length, go_sem, Nat.reduceEqDiff, Nat.reduceAdd, Nat.reduceLT, Nat.reduceLeDiff, reduceIte, reduceCtorEq]
        refine CallK.by (CallV.of_spec (s21 false false D (by omega) hp.rng)) fun v H' ⟨h1, h2⟩ => ?_
        subst h1 h2
        rw [hq]
        have z0 : (((0 : Nat) : Int) == 0) = true := rfl
        simp only [mI_length, z00, z0, go_sem, Nat.reduceEqDiff, Nat.reduceAdd, Nat.reduceLT, Nat.reduceLeDiff, reduceIte, reduceCtorEq]
        refine CallK.pure (e18 _) ?_
        simp only [go_sem, Nat.reduceEqDiff, Nat.reduceAdd, Nat.reduceLT, Nat.reduceLeDiff, reduceIte, reduceCtorEq]
        exact leaf (B true) rfl ⟨rfl, rfl⟩
      | true =>
        rw [if_pos rfl]
        simp only [List.getD_cons_zero, List.getD_cons_succ, go_sem, Nat.reduceEqDiff, Nat.reduceAdd, Nat.reduceLT, Nat.reduceLeDiff, reduceIte, reduceCtorEq]
        refine CallK.by (CallV.of_spec (s16 false false D hl)) fun v H' ⟨h1, h2⟩ => ?_
        subst h1 h2
        rw [Sp.strip_take' hs]
        simp only [go_sem, Nat.reduceEqDiff, Nat.reduceAdd, Nat.reduceLT, Nat.reduceLeDiff, reduceIte, reduceCtorEq]
        refine CallK.by (CallV.of_spec (s43 false false D hl)) fun v H' ⟨h1, h2⟩ => ?_
        subst h1 h2
        rw [hs, decide_eq_true h2, hq, Bool.and_self, if_pos rfl, if_pos rfl, openP_R hp.rng]
        simp only [List.getD_cons_zero, List.getD_cons_succ, go_sem, Nat.reduceEqDiff, Nat.reduceAdd, Nat.reduceLT, Nat.reduceLeDiff, reduceIte, reduceCtorEq]
        refine CallK.by (CallV.of_spec (s17 false false D hl)) fun v H' ⟨h1, h2⟩ => ?_
        subst h1 h2
        rw [hs]
        simp only [hz, mI_length, go_sem, Nat.reduceEqDiff, Nat.reduceAdd, Nat.reduceLT, Nat.reduceLeDiff, reduceIte, reduceCtorEq]
        refine CallK.by (CallV.of_spec (s21 false false D (by omega) hp.rng)) fun v H' ⟨h1, h2⟩ => ?_
        subst h1 h2
        rw [hq]
        simp only [go_sem, Nat.reduceEqDiff, Nat.reduceAdd, Nat.reduceLT, Nat.reduceLeDiff, reduceIte, reduceCtorEq]
        refine CallK.pure (e45 _) ?_
        simp only [go_sem, Nat.reduceEqDiff, Nat.reduceAdd, Nat.reduceLT, Nat.reduceLeDiff, reduceIte, reduceCtorEq]
        refine CallK.by (CallV.of_spec (s46 false false D (by omega))) fun v H' ⟨h1, h2⟩ => ?_
        subst h1 h2
        simp only [go_sem, Nat.reduceEqDiff, Nat.reduceAdd, Nat.reduceLT, Nat.reduceLeDiff, reduceIte, reduceCtorEq]
        refine CallK.by (CallV.of_spec (s32 false false false false (openR D) (openR D) (Nat.lt_of_le_of_lt (List.length_filter_le _ _) hl))) fun v H' ⟨h1, h2⟩ => ?_
        subst h1 h2
        rw [beq_self_eq_true]
        simp only [z00, go_sem, Nat.reduceEqDiff, Nat.reduceAdd, Nat.reduceLT, Nat.reduceLeDiff, reduceIte, reduceCtorEq]
        refine CallK.pure (e18 _) ?_
        simp only [go_sem, Nat.reduceEqDiff, Nat.reduceAdd, Nat.reduceLT, Nat.reduceLeDiff, reduceIte, reduceCtorEq]
        exact leaf (B true) rfl ⟨rfl, rfl⟩
    · have hz : decide ((D.length : Int) < 2) = true := decide_eq_true (by omega)
      have h1' : D.length = 1 := by omega
      have hD : D = [0] := by
        match D, h1' with
        | [x], _ => have := hp.rng x (by simp); simp at this; rw [show x = 0 by omega]
      have hq : Sp.possP D (Sp.stripC D.length) = true := by rw [hD]; decide +kernel
      rw [hq, if_pos rfl]
      simp only [List.getD_cons_zero, List.getD_cons_succ, go_sem, Nat.reduceEqDiff, Nat.reduceAdd, Nat.reduceLT, Nat.reduceLeDiff, reduceIte, reduceCtorEq]
      refine CallK.by (CallV.of_spec (s16 false false D hl)) fun v H' ⟨h1, h2⟩ => ?_
      subst h1 h2
      rw [Sp.strip_take' hs]
      simp only [go_sem, Nat.reduceEqDiff, Nat.reduceAdd, Nat.reduceLT, Nat.reduceLeDiff, reduceIte, reduceCtorEq]
      refine CallK.by (CallV.of_spec (s43 false false D hl)) fun v H' ⟨h1, h2⟩ => ?_
      subst h1 h2
      rw [decide_eq_false h2, Bool.and_false, if_neg (by simp)]
      simp only [List.getD_cons_zero, List.getD_cons_succ, go_sem, Nat.reduceEqDiff, Nat.reduceAdd, Nat.reduceLT, Nat.reduceLeDiff, reduceIte, reduceCtorEq]
      refine CallK.by (CallV.of_spec (s17 false false D hl)) fun v H' ⟨h1, h2⟩ => ?_
      subst h1 h2
      rw [hs]
      simp only [hz, mI_length, go_sem, Nat.reduceEqDiff, Nat.reduceAdd, Nat.reduceLT, Nat.reduceLeDiff, reduceIte, reduceCtorEq]
      refine CallK.pure (e45 _) ?_
      have z0 : (((0 : Nat) : Int) == 0) = true := rfl
      simp only [mI_length, z00, z0, go_sem, Nat.reduceEqDiff, Nat.reduceAdd, Nat.reduceLT, Nat.reduceLeDiff, reduceIte, reduceCtorEq]
      refine CallK.pure (e18 _) ?_
      simp only [go_sem, Nat.reduceEqDiff, Nat.reduceAdd, Nat.reduceLT, Nat.reduceLeDiff, reduceIte, reduceCtorEq]
      exact leaf (B true) rfl ⟨rfl, rfl⟩
end Go.Proofs.Ythdjloegibenoaa
