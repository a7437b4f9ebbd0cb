/- Contracts of folds: mountains asked for; comparing; the statement FoldsFound. -/
import Derived.Test.YthdjloegibenoaaFJ
import Derived.Test.YthdjloegibenoaaDD
namespace Go.Abs.Sp
/-- Which slice comes first: less than 0, or more. -/
def cmpL : List Int → List Int → Int
  | [], [] => 0
  | [], _ :: _ => -1
  | _ :: _, [] => 1
  | x :: a, y :: b => if x < y then -1 else if x > y then 1 else cmpL a b
theorem cmpL_self : ∀ a : List Int, cmpL a a = 0
  | [] => rfl
  | x :: a => by rw [cmpL, if_neg (by omega), if_neg (by omega), cmpL_self a]
theorem cmpL_pre : ∀ (b s t : List Int) (x y : Int), x < y → cmpL (b ++ x :: s) (b ++ y :: t) = -1
  | [], s, t, x, y, h => by simp [cmpL, h]
  | z :: b, s, t, x, y, h => by
    simp only [List.cons_append, cmpL]
    rw [if_neg (by omega), if_neg (by omega), cmpL_pre b s t x y h]
theorem deals_pre {n : Nat} : ∀ (m : Nat) (b o : List Int), o ∈ dealsR n m b → ∃ s, o = b ++ s
  | 0, b, o, h => by simp [dealsR] at h; exact ⟨[], by simp [h]⟩
  | m + 1, b, o, h => by
    simp only [dealsR, List.mem_flatMap, List.mem_range] at h
    obtain ⟨x, _, h⟩ := h
    split at h
    · cases h
    · obtain ⟨s, hs⟩ := deals_pre m _ o h
      exact ⟨(x : Int) :: s, by rw [hs]; simp⟩
theorem deals_sorted {n : Nat} : ∀ (m : Nat) (b : List Int), (dealsR n m b).Pairwise fun a c => cmpL a c ≤ 0
  | 0, b => by simp [dealsR]
  | m + 1, b => by
    unfold dealsR
    rw [List.pairwise_flatMap]
    refine ⟨fun x _ => ?_, List.pairwise_lt_range.imp fun {x y} hxy o ho p hp => ?_⟩
    · split
      · exact .nil
      · exact deals_sorted m _
    · split at ho
      · cases ho
      · split at hp
        · cases hp
        · obtain ⟨s, rfl⟩ := deals_pre m _ o ho
          obtain ⟨t, rfl⟩ := deals_pre m _ p hp
          rw [List.append_assoc, List.append_assoc]
          have := cmpL_pre b s t x y (by omega)
          simp only [List.cons_append, List.nil_append]
          rw [this]; omega
theorem first_le {l : List (List Int)} {P : List Int → Bool} {D p : List Int} (hs : l.Pairwise fun a c => cmpL a c ≤ 0) (hf : l.find? P = some D) (hp : p ∈ l) (hP : P p = true) : cmpL D p ≤ 0 := by
  induction l with
  | nil => cases hp
  | cons x l ih =>
    obtain ⟨h1, h2⟩ := List.pairwise_cons.1 hs
    rw [List.find?_cons] at hf
    cases hx : P x with
    | true =>
      rw [hx] at hf
      cases hf
      rcases List.mem_cons.1 hp with rfl | hp
      · rw [cmpL_self]; omega
      · exact h1 p hp
    | false =>
      rw [hx] at hf
      rcases List.mem_cons.1 hp with rfl | hp
      · rw [hP] at hx; cases hx
      · exact ih h2 hf hp
end Go.Abs.Sp
namespace Go.Proofs.Ythdjloegibenoaa
open Go.Abs AVal
set_option linter.unusedSimpArgs false
attribute [local go_sem] W_skip W_keep KQ_canon canon Fr.norm W_seq W_block W_exit W_ret W_ops W_draw KQ_nil KQ_norm_seq KQ_exit_seq KQ_ret_seq KQ_norm_block KQ_ret_block KQ_exit_block KQ_exit_loop KQ_ret_loop O_nil O_cons S_call S_mv SE_mv SD_mv S_pick SE_pick SD_pick S_bin SE_bin SD_bin S_eqb SE_eqb SD_eqb S_eqv SE_eqv SD_eqv S_eqnil SE_eqnil SD_eqnil S_un SE_un SD_un S_conv SE_conv SD_conv S_mkfn SE_mkfn SD_mkfn S_load SE_load SD_load S_nilck SE_nilck SD_nilck S_slS SE_slS SD_slS S_slP SE_slP SD_slP S_fldA SE_fldA SD_fldA S_fld SE_fld SD_fld S_ixS SE_ixS SD_ixS S_ixP SE_ixP SD_ixP S_ixV SE_ixV SD_ixV S_ixStr SE_ixStr SD_ixStr S_ext SE_ext SD_ext S_len SE_len SD_len S_lenStr SE_lenStr SD_lenStr S_lenc SE_lenc SD_lenc S_mn SE_mn SD_mn S_mx SE_mx SD_mx S_build SE_build SD_build S_alloc SD_alloc S_box SD_box S_bslice SD_bslice S_mksl SD_mksl S_store SD_store S_append SD_append S_copy SD_copy S_clr SD_clr aq_some aa_some al_some aqd_some aad_some ald_some ape_some D_done D_both D_early D_step SE_call SD_call IOpd.ev Fr.get Fr.put Fr.putd entryFr pickA binA binI isSh shI eqbA eqvA ints ints_mI Option.map_some eqnilA unA convA loadA nilckA intA slSA slPA fldAA fldVA ixSA ixPA ixVA ixStrA extA lenA lenStrA mnA mxA AVal.fits fillA fillOk buildA opa srcA appA stoA copA clrA rdFree zeros List.length_nil List.length_cons List.length_map List.map_cons List.map_nil Option.map_some Option.map_none if_true if_false ite_true ite_false true_and and_true and_self implies_true forall_const true_implies Bool.false_eq_true Bool.not_true Bool.not_false decide_eq_true_eq decide_eq_false_iff_not eq_self List.getElem?_cons_zero List.getElem?_cons_succ List.getElem?_nil List.set_cons_zero List.set_cons_succ List.nil_append List.cons_append List.append_nil List.replicate_zero List.replicate_succ Nat.zero_add false_implies rng_lt rng_end rng_get cells_I cells_B cells_sl cut_one Int.toNat_natCast Int.natCast_nonneg List.headD_cons Int.lt_irrefl not_false_eq_true decide_false decide_true mI_length mI_cells mI_sz mI_isCell mI_mid mI_append mI_take mI_drop cells_val cells_own cells_agg isCell_I isCell_B isCell_nil isCell_sl isCell_own isCell_ptr isCell_fn isCell_rp isCell_yld cellsOk_I cellsOk_B cellsOk_nil cellsOk_sl cellsOk_own cellsOk_ptr cellsOk_fn cellsOk_rp cellsOk_yld cellsOk_agg cells_nil cells_ptr cells_fn cells_rp List.all_cons List.all_nil Bool.and_true Nat.mul_one Nat.zero_mul Nat.one_mul List.take_zero List.take_nil List.drop_nil List.drop_zero List.not_mem_nil Nat.le_refl Nat.zero_le mS_length mS_cells mS_sz mS_isCell mS_mid mS_append mS_take mS_drop cells_sI isCell_sI cellsOk_sI sI_eq succ_le_self' List.take_succ_cons List.drop_succ_cons List.take_length beq_self_eq_true List.mem_cons or_false forall_eq mI_put mI_rep O_guard' D_earlyG' D_stepG' W_cond' G_tt G_tf G_ft G_ff GE_tt GE_tf GE_ft GE_ff GS_tt GS_tf GS_ft GS_ff G_u GE_u GS_u IC_t IC_f xft xff xtt xtf z00 z20 z22 z02 zz tn0

theorem s78 (x : Int) : Abs.Spec Try.prog 78 [I x] [] fun v H' => H' = [] ∧ v = B false := by
  refine Abs.Spec.walk mixed fn78 nn78 t78 q78 nt78 (by simp) ?_
  simp only [w78, bne_self_eq_false, go_sem, Nat.reduceEqDiff, Nat.reduceAdd, Nat.reduceLT, Nat.reduceLeDiff, reduceIte, reduceCtorEq]
  exact leaf (B _) rfl ⟨rfl, rfl⟩
def cmp1 (x y : Int) : Int := if x < y then -1 else if x > y then 1 else 0
theorem s71 (x y : Int) : Abs.Spec Try.prog 71 [I x, I y] [] fun v H' => H' = [] ∧ v = I (cmp1 x y) := by
  refine Abs.Spec.walk mixed fn71 nn71 t71 q71 nt71 (by simp) ?_
  simp only [w71, go_sem, Nat.reduceEqDiff, Nat.reduceAdd, Nat.reduceLT, Nat.reduceLeDiff, reduceIte, reduceCtorEq]
  refine CallK.by (CallV.of_spec (s78 x)) fun v H' ⟨h1, h2⟩ => ?_
  subst h1 h2
  simp only [go_sem, Nat.reduceEqDiff, Nat.reduceAdd, Nat.reduceLT, Nat.reduceLeDiff, reduceIte, reduceCtorEq]
  refine CallK.by (CallV.of_spec (s78 y)) fun v H' ⟨h1, h2⟩ => ?_
  subst h1 h2
  simp only [go_sem, Nat.reduceEqDiff, Nat.reduceAdd, Nat.reduceLT, Nat.reduceLeDiff, reduceIte, reduceCtorEq]
  refine IC.splitP (fun h => ?_) fun h => ?_
  · simp only [go_sem, Nat.reduceEqDiff, Nat.reduceAdd, Nat.reduceLT, Nat.reduceLeDiff, reduceIte, reduceCtorEq]
    exact leaf (I _) rfl ⟨rfl, by rw [cmp1, if_pos h]⟩
  · simp only [go_sem, Nat.reduceEqDiff, Nat.reduceAdd, Nat.reduceLT, Nat.reduceLeDiff, reduceIte, reduceCtorEq]
    refine IC.splitP (fun h2 => ?_) fun h2 => ?_
    · simp only [go_sem, Nat.reduceEqDiff, Nat.reduceAdd, Nat.reduceLT, Nat.reduceLeDiff, reduceIte, reduceCtorEq]
      exact leaf (I _) rfl ⟨rfl, by rw [cmp1, if_neg h, if_pos h2]⟩
    · simp only [go_sem, Nat.reduceEqDiff, Nat.reduceAdd, Nat.reduceLT, Nat.reduceLeDiff, reduceIte, reduceCtorEq]
      exact leaf (I _) rfl ⟨rfl, by rw [cmp1, if_neg h, if_neg h2]⟩
theorem s47 (nn t nn' t' : Bool) (a b : List Int) (ha : a.length < 9223372036854775808) (hb : b.length < 9223372036854775808) : Abs.Spec Try.prog 47 [.sl nn t (mI a), .sl nn' t' (mI b)] [] fun v H' => H' = [] ∧ v = I (Sp.cmpL a b) := by
  refine Abs.Spec.walk mixed fn47 nn47 t47 q47 nt47 (by simp) ?_
  simp only [w47, go_sem, Nat.reduceEqDiff, Nat.reduceAdd, Nat.reduceLT, Nat.reduceLeDiff, reduceIte, reduceCtorEq]
  refine W_loop (fun q : { i : Nat // i ≤ a.length ∧ i ≤ b.length ∧ Sp.cmpL (a.drop i) (b.drop i) = Sp.cmpL a b } => ([(0, .sl nn t (mI a)), (1, .sl nn' t' (mI b)), (9, .sl nn t (mI a)), (10, I a.length), (11, I q.1)], [])) (fun q => a.length - q.1)
    ⟨0, by omega, by omega, rfl⟩ [] (Wk.nil (by simp [fle, vle, Fr.get, mI_bnd])) ?_
  rintro ⟨i, hi, hib, hinv⟩
  dsimp only
  by_cases hil : i < a.length
  · have hz : decide ((i : Int) < a.length) = true := decide_eq_true (by omega)
    have hil' : (i : Int) < a.length := by omega
    have hwk : IntKind.i64.wrap ((i : Int) + 1) = ((i + 1 : Nat) : Int) := by rw [wrap64 (by omega) (by omega)]; rfl
    obtain ⟨x, hx⟩ : ∃ x, a.getD i 0 = x := ⟨_, rfl⟩
    have hx' : a[i] = x := by rw [← hx, List.getD_eq_getElem?_getD, List.getElem?_eq_getElem hil]; rfl
    rw [List.drop_eq_getElem_cons hil, hx'] at hinv
    by_cases hbl : i < b.length
    · have hz2 : decide ((i : Int) ≥ b.length) = false := decide_eq_false (by omega)
      have hbl' : (i : Int) < b.length := by omega
      obtain ⟨y, hy⟩ : ∃ y, b.getD i 0 = y := ⟨_, rfl⟩
      have hy' : b[i] = y := by rw [← hy, List.getD_eq_getElem?_getD, List.getElem?_eq_getElem hbl]; rfl
      rw [List.drop_eq_getElem_cons hbl, hy', Sp.cmpL] at hinv
      simp only [w47L0, hz, hil', mI_get, hil, hx, mI_hd, hz2, hbl, hbl', hy, go_sem, Nat.reduceEqDiff, Nat.reduceAdd, Nat.reduceLT, Nat.reduceLeDiff, reduceIte, reduceCtorEq]
      refine CallK.pure (liftV (s71 x y) (by simp [bndL, AVal.bnd]) rfl _) ?_
      have c1 : ((-1 : Int) != 0) = true := rfl
      have c2 : ((1 : Int) != 0) = true := rfl
      by_cases h1 : x < y
      · rw [if_pos h1] at hinv
        rw [cmp1, if_pos h1]
        simp only [c1, go_sem, Nat.reduceEqDiff, Nat.reduceAdd, Nat.reduceLT, Nat.reduceLeDiff, reduceIte, reduceCtorEq]
        exact leaf (I _) rfl ⟨rfl, by rw [hinv]⟩
      · rw [if_neg h1] at hinv
        by_cases h2 : x > y
        · rw [if_pos h2] at hinv
          rw [cmp1, if_neg h1, if_pos h2]
          simp only [c2, go_sem, Nat.reduceEqDiff, Nat.reduceAdd, Nat.reduceLT, Nat.reduceLeDiff, reduceIte, reduceCtorEq]
          exact leaf (I _) rfl ⟨rfl, by rw [hinv]⟩
        · rw [if_neg h2] at hinv
          rw [cmp1, if_neg h1, if_neg h2]
          simp only [z00, hwk, go_sem, Nat.reduceEqDiff, Nat.reduceAdd, Nat.reduceLT, Nat.reduceLeDiff, reduceIte, reduceCtorEq]
          refine round0 rfl ⟨i + 1, by omega, by omega, hinv⟩ (by dsimp only; omega) rfl ?_
          simp [fle, vle, Fr.get, mI_bnd]
    · have hz2 : decide ((i : Int) ≥ b.length) = true := decide_eq_true (by omega)
      rw [List.drop_of_length_le (show b.length ≤ i by omega), Sp.cmpL] at hinv
      simp only [w47L0, hz, hil', mI_get, hil, hx, mI_hd, hz2, go_sem, Nat.reduceEqDiff, Nat.reduceAdd, Nat.reduceLT, Nat.reduceLeDiff, reduceIte, reduceCtorEq]
      exact leaf (I _) rfl ⟨rfl, by rw [hinv]⟩
  · have hz : decide ((i : Int) < a.length) = false := decide_eq_false (by omega)
    obtain rfl : i = a.length := by omega
    rw [List.drop_length] at hinv
    simp only [w47L0, hz, w47T1, go_sem, Nat.reduceEqDiff, Nat.reduceAdd, Nat.reduceLT, Nat.reduceLeDiff, reduceIte, reduceCtorEq]
    refine IC.splitP (fun h => ?_) fun h => ?_
    · obtain ⟨y, r, hr⟩ : ∃ y r, b.drop a.length = y :: r := by
        cases hd : b.drop a.length with
        | nil => have := List.length_drop (l := b) (i := a.length); rw [hd] at this; simp at this; omega
        | cons y r => exact ⟨y, r, rfl⟩
      rw [hr, Sp.cmpL] at hinv
      simp only [go_sem, Nat.reduceEqDiff, Nat.reduceAdd, Nat.reduceLT, Nat.reduceLeDiff, reduceIte, reduceCtorEq]
      exact leaf (I _) rfl ⟨rfl, by rw [hinv]⟩
    · rw [List.drop_of_length_le (by omega), Sp.cmpL] at hinv
      simp only [go_sem, Nat.reduceEqDiff, Nat.reduceAdd, Nat.reduceLT, Nat.reduceLeDiff, reduceIte, reduceCtorEq]
      exact leaf (I _) rfl ⟨rfl, by rw [hinv]⟩

/-- What Creases answers. -/
def creV (D : List Int) : AVal := if Sp.isStrip D then (if Sp.possP D (Sp.stripC D.length) then .tup [I (Sp.creP D), I 0] else .tup [I 0, I 5]) else .tup [I 0, I 2]
theorem s42 (nn t : Bool) (D : List Int) (hD : D.length < 9223372036854775808) : Abs.Spec Try.prog 42 [.sl nn t (mI D)] [] fun v H' => H' = [] ∧ v = creV D := by
  refine Abs.Spec.walk mixed fn42 nn42 t42 q42 nt42 (by simp) ?_
  have z50 : ((2 : Int) != 0) = true := rfl
  simp only [w42, go_sem, Nat.reduceEqDiff, Nat.reduceAdd, Nat.reduceLT, Nat.reduceLeDiff, reduceIte, reduceCtorEq]
  refine CallK.by (CallV.of_spec (s15 nn t D hD)) fun v H' ⟨h1, h2⟩ => ?_
  subst h1 h2
  unfold creV
  cases hs : Sp.isStrip D with
  | false =>
    simp only [Bool.false_eq_true, if_false]
    simp only [List.getD_cons_zero, List.getD_cons_succ, z50, go_sem, Nat.reduceEqDiff, Nat.reduceAdd, Nat.reduceLT, Nat.reduceLeDiff, reduceIte, reduceCtorEq]
    exact leaf2 (.tup [I 0, I 2]) ⟨rfl, rfl, trivial⟩ ⟨rfl, rfl⟩
  | true =>
    obtain ⟨h1, h7, hp⟩ := Sp.strip_pile hs
    cases hq : Sp.possP D (Sp.stripC D.length) with
    | false =>
      simp only [Bool.false_eq_true, if_false, if_true]
      simp only [List.getD_cons_zero, List.getD_cons_succ, z00, go_sem, Nat.reduceEqDiff, Nat.reduceAdd, Nat.reduceLT, Nat.reduceLeDiff, reduceIte, reduceCtorEq]
      exact leaf2 (.tup [I 0, I 5]) ⟨rfl, rfl, trivial⟩ ⟨rfl, rfl⟩
    | true =>
      simp only [if_true]
      simp only [List.getD_cons_zero, List.getD_cons_succ, z00, go_sem, Nat.reduceEqDiff, Nat.reduceAdd, Nat.reduceLT, Nat.reduceLeDiff, reduceIte, reduceCtorEq]
      refine CallK.by (CallV.of_spec (s63 nn t D (by omega) (by omega) hp.rng)) fun v H' ⟨h1, h2⟩ => ?_
      subst h1 h2
      simp only [go_sem, Nat.reduceEqDiff, Nat.reduceAdd, Nat.reduceLT, Nat.reduceLeDiff, reduceIte, reduceCtorEq]
      exact leaf2 (.tup [I (Sp.creP D), I 0]) ⟨rfl, rfl, trivial⟩ ⟨rfl, rfl⟩

theorem fold_sorted {n : Nat} (h7 : n ≤ 7) : (foldL n).Pairwise fun a c => Sp.cmpL a c ≤ 0 := by
  rw [foldL_eq h7]
  exact (Sp.deals_sorted n []).sublist List.filter_sublist

set_option maxHeartbeats 1000000 in
theorem s14 (n set : Int) (D : List Int) (hl : D.length < 9223372036854775808) : Abs.Spec Try.prog 14 [I n, I set, .sl false false (mI D)] [] fun v H' => H' = [] ∧ v = B true := by
  have e18 : ∀ H, CallV Try.prog (.fn (.func 18) [] []) [] H fun v H' => v = B true ∧ H' = H := fun H => liftV s18 rfl rfl H
  refine Abs.Spec.walk mixed fn14 nn14 t14 q14 nt14 (by simp) ?_
  simp only [w14, go_sem, Nat.reduceEqDiff, Nat.reduceAdd, Nat.reduceLT, Nat.reduceLeDiff, reduceIte, reduceCtorEq]
  refine CallK.by (CallV.of_spec (s33 n set)) fun v H' ⟨h1, h2⟩ => ?_
  subst h1 h2
  cases hn : creOk n set with
  | false =>
    rw [if_neg (by simp)]
    simp only [List.getD_cons_zero, List.getD_cons_succ, z20, go_sem, Nat.reduceEqDiff, Nat.reduceAdd, Nat.reduceLT, Nat.reduceLeDiff, reduceIte, reduceCtorEq]
    refine CallK.pure (e18 _) ?_
    simp only [go_sem, Nat.reduceEqDiff, Nat.reduceAdd, Nat.reduceLT, Nat.reduceLeDiff, reduceIte, reduceCtorEq]
    exact leaf (B true) rfl ⟨rfl, rfl⟩
  | true =>
    obtain ⟨m, rfl, hm1, hm7, hll, hs0, hsm⟩ := creOk_nat hn
    rw [if_pos rfl, Int.toNat_natCast]
    obtain ⟨E, hE, hEm, hEc⟩ := foldF_some hm1 hm7 hs0 hsm
    rw [foldV, hE]
    obtain ⟨hEp, hEq⟩ := (mem_fold (show m ≤ 8 by omega)).1 hEm
    have hEl := hEp.len
    have hEs := Sp.pile_strip hEp hm1 hm7
    have n1 : decide ((m : Int) < 1) = false := decide_eq_false (by omega)
    have n7 : decide ((m : Int) > 7) = false := decide_eq_false (by omega)
    have ns : decide (set < 0) = false := decide_eq_false (by omega)
    have hw : IntKind.i64.wrap ((m : Int) - 1) = ((m - 1 : Nat) : Int) := by rw [wrap64 (by omega) (by omega)]; omega
    have ep := pow_small (m - 1) (by omega)
    have e64 : IntKind.i64.bits = 64 := rfl
    have hbig : decide (set ≥ 2 ^ (m - 1)) = false := decide_eq_false (by omega)
    have eself : ((m : Int) != m) = false := by simp
    have c15 : Abs.Spec Try.prog 15 [.sl false false (mI E)] [] fun v H' => H' = [] ∧ v = .tup [B true, I 0] := (s15 false false E (by omega)).mono fun v H' ⟨e1, e2⟩ => ⟨e1, by rw [e2, if_pos hEs, hEl, hEq]⟩
    have c42 : Abs.Spec Try.prog 42 [.sl false false (mI E)] [] fun v H' => H' = [] ∧ v = .tup [I set, I 0] := (s42 false false E (by omega)).mono fun v H' ⟨e1, e2⟩ => ⟨e1, by rw [e2, creV, if_pos hEs, hEl, if_pos hEq, hEc]⟩
    simp only [List.getD_cons_zero, List.getD_cons_succ, z00, n1, n7, ns, hw, e64, ep, hbig, go_sem, Nat.reduceEqDiff, Nat.reduceAdd, Nat.reduceLT, Nat.reduceLeDiff, reduceIte, reduceCtorEq]
    refine CallK.by (CallV.of_spec (s44 false false E (by omega))) fun v H' ⟨h1, h2⟩ => ?_
    subst h1 h2
    simp only [go_sem, Nat.reduceEqDiff, Nat.reduceAdd, Nat.reduceLT, Nat.reduceLeDiff, reduceIte, reduceCtorEq]
    refine CallK.by (CallV.of_spec c15) fun v H' ⟨h1, h2⟩ => ?_
    subst h1 h2
    simp only [List.getD_cons_zero, List.getD_cons_succ, go_sem, Nat.reduceEqDiff, Nat.reduceAdd, Nat.reduceLT, Nat.reduceLeDiff, reduceIte, reduceCtorEq]
    refine CallK.by (CallV.of_spec (s44 false false E (by omega))) fun v H' ⟨h1, h2⟩ => ?_
    subst h1 h2
    simp only [go_sem, Nat.reduceEqDiff, Nat.reduceAdd, Nat.reduceLT, Nat.reduceLeDiff, reduceIte, reduceCtorEq]
    refine CallK.by (CallV.of_spec c42) fun v H' ⟨h1, h2⟩ => ?_
    subst h1 h2
    have eset : (set != set) = false := by simp
    simp only [List.getD_cons_zero, List.getD_cons_succ, z00, eset, mI_length, hEl, eself, go_sem, Nat.reduceEqDiff, Nat.reduceAdd, Nat.reduceLT, Nat.reduceLeDiff, reduceIte, reduceCtorEq]
    refine CallK.by (CallV.of_spec (s16 false false D hl)) fun v H' ⟨h1, h2⟩ => ?_
    subst h1 h2
    simp only [go_sem, Nat.reduceEqDiff, Nat.reduceAdd, Nat.reduceLT, Nat.reduceLeDiff, reduceIte, reduceCtorEq]
    refine CallK.by (CallV.of_spec (s42 false false (D.take 11) (by simp; omega))) fun v H' ⟨h1, h2⟩ => ?_
    subst h1 h2
    obtain ⟨k, e, hke⟩ : ∃ k e, creV (D.take 11) = .tup [I k, I e] := by
      unfold creV
      split
      · split
        · exact ⟨_, _, rfl⟩
        · exact ⟨_, _, rfl⟩
      · exact ⟨_, _, rfl⟩
    rw [hke]
    simp only [List.getD_cons_zero, List.getD_cons_succ, go_sem, Nat.reduceEqDiff, Nat.reduceAdd, Nat.reduceLT, Nat.reduceLeDiff, reduceIte, reduceCtorEq]
    refine G.split (fun h => ?_) fun h => ?_
    · simp only [go_sem, Nat.reduceEqDiff, Nat.reduceAdd, Nat.reduceLT, Nat.reduceLeDiff, reduceIte, reduceCtorEq]
      refine CallK.pure (e18 _) ?_
      simp only [go_sem, Nat.reduceEqDiff, Nat.reduceAdd, Nat.reduceLT, Nat.reduceLeDiff, reduceIte, reduceCtorEq]
      exact leaf (B true) rfl ⟨rfl, rfl⟩
    have he0 : e = 0 := by simpa using h
    simp only [go_sem, Nat.reduceEqDiff, Nat.reduceAdd, Nat.reduceLT, Nat.reduceLeDiff, reduceIte, reduceCtorEq]
    refine G.split (fun h2 => ?_) fun h2 => ?_
    · simp only [go_sem, Nat.reduceEqDiff, Nat.reduceAdd, Nat.reduceLT, Nat.reduceLeDiff, reduceIte, reduceCtorEq]
      refine CallK.pure (e18 _) ?_
      simp only [go_sem, Nat.reduceEqDiff, Nat.reduceAdd, Nat.reduceLT, Nat.reduceLeDiff, reduceIte, reduceCtorEq]
      exact leaf (B true) rfl ⟨rfl, rfl⟩
    have hDl : D.length = m := by simp at h2; omega
    simp only [go_sem, Nat.reduceEqDiff, Nat.reduceAdd, Nat.reduceLT, Nat.reduceLeDiff, reduceIte, reduceCtorEq]
    refine G.split (fun h3 => ?_) fun h3 => ?_
    · simp only [go_sem, Nat.reduceEqDiff, Nat.reduceAdd, Nat.reduceLT, Nat.reduceLeDiff, reduceIte, reduceCtorEq]
      refine CallK.pure (e18 _) ?_
      simp only [go_sem, Nat.reduceEqDiff, Nat.reduceAdd, Nat.reduceLT, Nat.reduceLeDiff, reduceIte, reduceCtorEq]
      exact leaf (B true) rfl ⟨rfl, rfl⟩
    have hks : k = set := by simpa using h3
    have hle : Sp.cmpL E D ≤ 0 := by
      subst he0 hks
      rw [List.take_of_length_le (by omega)] at hke
      unfold creV at hke
      split at hke
      · rename_i hst
        split at hke
        · rename_i hpo
          obtain ⟨_, _, hDp⟩ := Sp.strip_pile hst
          rw [hDl] at hDp hpo
          have hDm : D ∈ foldL m := (mem_fold (by omega)).2 ⟨hDp, hpo⟩
          have hcr : Sp.creP D = k := by
            have := AVal.tup.inj hke
            simp at this; exact this
          exact Sp.first_le (fold_sorted hm7) hE hDm (by simp [hcr])
        · have := AVal.tup.inj hke
          simp at this
      · have := AVal.tup.inj hke
        simp at this
    have hdl : decide (Sp.cmpL E D ≤ 0) = true := decide_eq_true hle
    simp only [go_sem, Nat.reduceEqDiff, Nat.reduceAdd, Nat.reduceLT, Nat.reduceLeDiff, reduceIte, reduceCtorEq]
    refine CallK.by (CallV.of_spec (s47 false false false false E D (by omega) hl)) fun v H' ⟨h1, h2⟩ => ?_
    subst h1 h2
    simp only [hdl, go_sem, Nat.reduceEqDiff, Nat.reduceAdd, Nat.reduceLT, Nat.reduceLeDiff, reduceIte, reduceCtorEq]
    refine CallK.pure (e18 _) ?_
    simp only [go_sem, Nat.reduceEqDiff, Nat.reduceAdd, Nat.reduceLT, Nat.reduceLeDiff, reduceIte, reduceCtorEq]
    exact leaf (B true) rfl ⟨rfl, rfl⟩
end Go.Proofs.Ythdjloegibenoaa
