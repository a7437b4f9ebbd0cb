/- Contracts: lying. -/
import Derived.Test.YtkmmngphcodjjaaBJ
namespace Go.Proofs.Ytkmmngphcodjjaa
open Go.Abs AVal
set_option linter.unusedSimpArgs false
attribute [local go_sem] W_skip W_keep KQ_canon canon Fr.norm W_seq W_block W_exit W_ret W_ops W_draw KQ_nil KQ_norm_seq KQ_exit_seq KQ_ret_seq KQ_norm_block KQ_ret_block KQ_exit_block KQ_exit_loop KQ_ret_loop O_nil O_cons S_call S_mv SE_mv SD_mv S_pick SE_pick SD_pick S_bin SE_bin SD_bin S_eqb SE_eqb SD_eqb S_eqv SE_eqv SD_eqv S_eqnil SE_eqnil SD_eqnil S_un SE_un SD_un S_conv SE_conv SD_conv S_mkfn SE_mkfn SD_mkfn S_load SE_load SD_load S_nilck SE_nilck SD_nilck S_slS SE_slS SD_slS S_slP SE_slP SD_slP S_fldA SE_fldA SD_fldA S_fld SE_fld SD_fld S_ixS SE_ixS SD_ixS S_ixP SE_ixP SD_ixP S_ixV SE_ixV SD_ixV S_ixStr SE_ixStr SD_ixStr S_ext SE_ext SD_ext S_len SE_len SD_len S_lenStr SE_lenStr SD_lenStr S_lenc SE_lenc SD_lenc S_mn SE_mn SD_mn S_mx SE_mx SD_mx S_build SE_build SD_build S_alloc SD_alloc S_box SD_box S_bslice SD_bslice S_mksl SD_mksl S_store SD_store S_append SD_append S_copy SD_copy S_clr SD_clr aq_some aa_some al_some aqd_some aad_some ald_some ape_some D_done D_both D_early D_step SE_call SD_call IOpd.ev Fr.get Fr.put Fr.putd entryFr pickA binA binI isSh shI eqbA eqvA ints ints_mI Option.map_some eqnilA unA convA loadA nilckA intA slSA slPA fldAA fldVA ixSA ixPA ixVA ixStrA extA lenA lenStrA mnA mxA AVal.fits fillA fillOk buildA opa srcA appA stoA copA clrA rdFree zeros List.length_nil List.length_cons List.length_map List.map_cons List.map_nil Option.map_some Option.map_none if_true if_false ite_true ite_false true_and and_true and_self implies_true forall_const true_implies Bool.false_eq_true Bool.not_true Bool.not_false decide_eq_true_eq decide_eq_false_iff_not eq_self List.getElem?_cons_zero List.getElem?_cons_succ List.getElem?_nil List.set_cons_zero List.set_cons_succ List.nil_append List.cons_append List.append_nil List.replicate_zero List.replicate_succ Nat.zero_add false_implies rng_lt rng_end rng_get cells_I cells_B cells_sl cut_one Int.toNat_natCast Int.natCast_nonneg List.headD_cons Int.lt_irrefl not_false_eq_true decide_false decide_true mI_length mI_cells mI_sz mI_isCell mI_mid mI_append mI_take mI_drop cells_val cells_own cells_agg isCell_I isCell_B isCell_nil isCell_sl isCell_own isCell_ptr isCell_fn isCell_rp isCell_yld cellsOk_I cellsOk_B cellsOk_nil cellsOk_sl cellsOk_own cellsOk_ptr cellsOk_fn cellsOk_rp cellsOk_yld cellsOk_agg cells_nil cells_ptr cells_fn cells_rp List.all_cons List.all_nil Bool.and_true Nat.mul_one Nat.zero_mul Nat.one_mul List.take_zero List.take_nil List.drop_nil List.drop_zero List.not_mem_nil Nat.le_refl Nat.zero_le mS_length mS_cells mS_sz mS_isCell mS_mid mS_append mS_take mS_drop cells_sI isCell_sI cellsOk_sI sI_eq succ_le_self' List.take_succ_cons List.drop_succ_cons List.take_length beq_self_eq_true List.mem_cons or_false forall_eq mI_put mI_rep O_guard' D_earlyG' D_stepG' W_cond' G_tt G_tf G_ft G_ff GE_tt GE_tf GE_ft GE_ff GS_tt GS_tf GS_ft GS_ff G_u GE_u GS_u IC_t IC_f xft xff xtt xtf z00 z20 z22 z02 zz tn0

/-- What a lie answers. -/
def lieOk (w : List (List Int)) (i : Int) (o : List Int) : Bool := Sp.valid w && (decide (0 ≤ i) && (decide (i < w.length) && Sp.isOrder o w.length))
def lieT (w : List (List Int)) (i : Nat) (o : List Int) : List AVal := [I (Sp.pos w i ((Sp.fin w).1.getD i 0)), I (Sp.pos w i ((Sp.fin (w.set i o)).1.getD i 0))]
def lieA (w : List (List Int)) (i : Int) (o : List Int) : AVal := if lieOk w i o then .tup (lieT w i.toNat o ++ [I 0]) else .tup [I 0, I 0, I 2]

theorem own_give {f : FuncId} {w : List (List Int)} {n : Nat} {v : AVal} (h : Abs.Spec Try.prog f [.sl false false (mS w)] [] fun v' H' => H' = [] ∧ v' = v) (hv : v.bnd 0 = true) (hn : w.length = n) :
    Abs.Spec Try.prog f [.own 0 0 n n 1] [.cells (mS w)] fun v' H' => v' = v ∧ H' = [.dead] := by
  subst hn
  exact Spec.give (args := [.own 0 0 w.length w.length 1]) (H := [.cells (mS w)]) (ρ := []) (R := fun H' => H' = []) (h.mono fun v' H' h => ⟨h.2, h.1⟩) rfl (Wk.nil ⟨vle_mS (cs := mS w) rfl (by simp [mS_length]) rfl (by rw [← mS_length (xs := w), List.take_length]), trivial⟩) hv

theorem own_give1 {f : FuncId} {w : List (List Int)} {n : Nat} {v : AVal} (h : Abs.Spec Try.prog f [.sl false false (mS w)] [] fun v' H' => H' = [] ∧ v' = v) (hv : v.bnd 0 = true) (hn : w.length = n) :
    Abs.Spec Try.prog f [.own 1 0 n n 1] [.dead, .cells (mS w)] fun v' H' => v' = v ∧ H' = [.dead, .dead] := by
  subst hn
  exact Spec.give (args := [.own 1 0 w.length w.length 1]) (H := [.dead, .cells (mS w)]) (ρ := []) (R := fun H' => H' = []) (h.mono fun v' H' h => ⟨h.2, h.1⟩) rfl (Wk.nil ⟨vle_mS (cs := mS w) rfl (by simp [mS_length]) rfl (by rw [← mS_length (xs := w), List.take_length]), trivial⟩) hv

theorem fin_tup_bnd (w : List (List Int)) : AVal.bnd 0 (.tup [.sl false false (mI (Sp.fin w).1), .sl false false (mI (Sp.fin w).2)]) = true := by simp [AVal.bnd, bndL, mI_bnd]

set_option maxRecDepth 20000 in
theorem s26 (w : List (List Int)) (i : Int) (o : List Int) (hw : ∀ l ∈ w, l.length < 9223372036854775808) (hl : w.length < 9223372036854775808) (ho : o.length < 9223372036854775808) :
    Abs.Spec Try.prog 26 [.sl false false (mS w), I i, .sl false false (mI o)] [] fun v H' => H' = [] ∧ v = lieA w i o := by
  refine Abs.Spec.walk mixed fn26 nn26 t26 q26 nt26 (by simp) ?_
  simp only [w26, go_sem, Nat.reduceEqDiff, Nat.reduceAdd, Nat.reduceLT, Nat.reduceLeDiff, reduceIte, reduceCtorEq]
  refine CallK.by (CallV.of_spec (s55 false false w hw hl)) fun v H' ⟨h1, h2⟩ => ?_
  subst h1 h2
  simp only [go_sem, Nat.reduceEqDiff, Nat.reduceAdd, Nat.reduceLT, Nat.reduceLeDiff, reduceIte, reduceCtorEq]
  refine G.split (fun hv => ?_) fun hv => ?_
  · have hv : Sp.valid w = false := by simpa using hv
    simp only [go_sem, Nat.reduceEqDiff, Nat.reduceAdd, Nat.reduceLT, Nat.reduceLeDiff, reduceIte, reduceCtorEq]
    exact leaf3 (.tup [I 0, I 0, I 2]) ⟨rfl, rfl, rfl, trivial⟩ ⟨rfl, by rw [lieA, lieOk, hv]; rfl⟩
  have hv : Sp.valid w = true := by simpa using hv
  simp only [go_sem, Nat.reduceEqDiff, Nat.reduceAdd, Nat.reduceLT, Nat.reduceLeDiff, reduceIte, reduceCtorEq]
  refine G.splitP (fun h0 => ?_) fun h0 => ?_
  · simp only [go_sem, Nat.reduceEqDiff, Nat.reduceAdd, Nat.reduceLT, Nat.reduceLeDiff, reduceIte, reduceCtorEq]
    exact leaf3 (.tup [I 0, I 0, I 2]) ⟨rfl, rfl, rfl, trivial⟩ ⟨rfl, by rw [lieA, lieOk, hv, decide_eq_false (show ¬ 0 ≤ i by omega)]; rfl⟩
  simp only [go_sem, Nat.reduceEqDiff, Nat.reduceAdd, Nat.reduceLT, Nat.reduceLeDiff, reduceIte, reduceCtorEq]
  refine G.splitP (fun hn => ?_) fun hn => ?_
  · simp only [go_sem, Nat.reduceEqDiff, Nat.reduceAdd, Nat.reduceLT, Nat.reduceLeDiff, reduceIte, reduceCtorEq]
    exact leaf3 (.tup [I 0, I 0, I 2]) ⟨rfl, rfl, rfl, trivial⟩ ⟨rfl, by rw [lieA, lieOk, hv, decide_eq_true (show 0 ≤ i by omega), decide_eq_false (show ¬ i < w.length by omega)]; rfl⟩
  simp only [go_sem, Nat.reduceEqDiff, Nat.reduceAdd, Nat.reduceLT, Nat.reduceLeDiff, reduceIte, reduceCtorEq]
  refine CallK.by (CallV.of_spec (s59 false false o w.length ho)) fun v H' ⟨h1, h2⟩ => ?_
  subst h1 h2
  simp only [go_sem, Nat.reduceEqDiff, Nat.reduceAdd, Nat.reduceLT, Nat.reduceLeDiff, reduceIte, reduceCtorEq]
  refine IC.split (fun ha => ?_) fun ha => ?_
  · have ha : Sp.isOrder o w.length = false := by simpa using ha
    simp only [go_sem, Nat.reduceEqDiff, Nat.reduceAdd, Nat.reduceLT, Nat.reduceLeDiff, reduceIte, reduceCtorEq]
    exact leaf3 (.tup [I 0, I 0, I 2]) ⟨rfl, rfl, rfl, trivial⟩ ⟨rfl, by rw [lieA, lieOk, hv, decide_eq_true (show 0 ≤ i by omega), decide_eq_true (show i < w.length by omega), ha]; rfl⟩
  have ha : Sp.isOrder o w.length = true := by simpa using ha
  obtain ⟨k, rfl⟩ : ∃ k : Nat, i = k := ⟨i.toNat, by omega⟩
  have hk : k < w.length := by omega
  have hk' : (k : Int) < w.length := by omega
  have g := Sp.valid_good hv
  have g' := Sp.valid_good (Sp.valid_set (i := k) hv ha)
  have g1 := g.n1
  have g6 := g.n6
  simp only [go_sem, Nat.reduceEqDiff, Nat.reduceAdd, Nat.reduceLT, Nat.reduceLeDiff, reduceIte, reduceCtorEq]
  refine CallK.by (CallV.of_spec (s60 false w g1 g6)) fun v H' ⟨h1, h2⟩ => ?_
  subst h1 h2
  simp only [hk', mS_put, set_put, hk, go_sem, Nat.reduceEqDiff, Nat.reduceAdd, Nat.reduceLT, Nat.reduceLeDiff, reduceIte, reduceCtorEq]
  have hset : (w.set k o).length = w.length := List.length_set
  obtain ⟨hf1, hf2⟩ := Sp.fin_len w
  obtain ⟨hf1', hf2'⟩ := Sp.fin_len (w.set k o)
  refine ⟨by omega, ?_⟩
  refine CallK.pure (liftV (s56 false false w g) (by simp [bndL, AVal.bnd, mS_bnd]) (fin_tup_bnd w) _) ?_
  simp only [List.getD_cons_zero, List.getD_cons_succ, go_sem, Nat.reduceEqDiff, Nat.reduceAdd, Nat.reduceLT, Nat.reduceLeDiff, reduceIte, reduceCtorEq]
  refine CallK.by (CallV.of_spec (own_give (s56 false false (w.set k o) g') (fin_tup_bnd _) hset)) fun v H' ⟨h1, h2⟩ => ?_
  subst h1 h2
  have hk1 : k < (Sp.fin w).1.length := by omega
  have hk2 : k < (Sp.fin (w.set k o)).1.length := by omega
  have hrow : (w.getD k []).length < 9223372036854775808 := by have := g.len _ (Sp.getD_mem (d := []) hk); omega
  simp only [mI_get, mI_hd, hk1, hk2, List.getD_cons_zero, List.getD_cons_succ, go_sem, Nat.reduceEqDiff, Nat.reduceAdd, Nat.reduceLT, Nat.reduceLeDiff, reduceIte, reduceCtorEq]
  refine ⟨by omega, by simp, CallKD.pure (liftV (s61 false false w k _ hk hrow) (by simp [bndL, AVal.bnd, mS_bnd]) rfl) ?_⟩
  simp only [mI_get, mI_hd, hk1, hk2, go_sem, Nat.reduceEqDiff, Nat.reduceAdd, Nat.reduceLT, Nat.reduceLeDiff, reduceIte, reduceCtorEq]
  refine ⟨by omega, CallKD.pure (liftV (s61 false false w k _ hk hrow) (by simp [bndL, AVal.bnd, mS_bnd]) rfl) ?_⟩
  simp only [go_sem, Nat.reduceEqDiff, Nat.reduceAdd, Nat.reduceLT, Nat.reduceLeDiff, reduceIte, reduceCtorEq]
  have hok : lieOk w (k : Int) o = true := by simp [lieOk, hv, ha, hk]
  exact leaf3 (.tup (lieT w k o ++ [I 0])) ⟨rfl, rfl, rfl, trivial⟩ ⟨rfl, by rw [lieA, if_pos hok]; rfl⟩

theorem s29 (w : List (List Int)) (i : Nat) (o : List Int) (hv : Sp.valid w = true) (hi : i < w.length) (ha : Sp.isOrder o w.length = true) :
    Abs.Spec Try.prog 29 [.sl false false (mS w), I i, .sl false false (mI o)] [] fun v H' => H' = [] ∧ v = .tup (lieT w i o) := by
  refine Abs.Spec.walk mixed fn29 nn29 t29 q29 nt29 (by simp) ?_
  have g := Sp.valid_good hv
  have g' := Sp.valid_good (Sp.valid_set (i := i) hv ha)
  have g1 := g.n1
  have g6 := g.n6
  have hi' : (i : Int) < w.length := by omega
  have hn0 : ¬ w.length ≤ 0 := by omega
  simp only [w29, hi', hn0, mS_put, set_put, hi, go_sem, Nat.reduceEqDiff, Nat.reduceAdd, Nat.reduceLT, Nat.reduceLeDiff, reduceIte, reduceCtorEq]
  have hset : (w.set i o).length = w.length := List.length_set
  obtain ⟨hf1, hf2⟩ := Sp.fin_len w
  obtain ⟨hf1', hf2'⟩ := Sp.fin_len (w.set i o)
  have hk1 : i < (Sp.fin w).1.length := by omega
  have hk2 : i < (Sp.fin (w.set i o)).1.length := by omega
  have hrow := g.len _ (Sp.getD_mem (d := []) hi)
  have hbt : ∀ x : List (List Int), AVal.bnd 0 (.sl false false (mI (Sp.fin x).1)) = true := fun x => by simp [AVal.bnd, mI_bnd]
  obtain ⟨a⟩ := Sp.round_of g hi
  obtain ⟨b⟩ := Sp.round_of g' (by rw [hset]; exact hi)
  have hAt : ∀ (c : Nat), c < w.length → ∀ H, CallV Try.prog (.fn (.func 24) [] []) [.sl false false (mS w), I i, I c] H fun v H' => v = I (Sp.pos w i c) ∧ H' = H := fun c hc =>
    liftV (s24 false false w i c hi (g.cov _ (Sp.getD_mem hi) c hc) (by omega)) (by simp [bndL, AVal.bnd, mS_bnd]) rfl
  have ad := a.d
  have bd := b.d
  have hbt2 : b.t < w.length := by have := b.ht; omega
  refine ⟨by omega, by omega, ?_⟩
  refine CallK.pure (liftV (s21 false false w g) (by simp [bndL, AVal.bnd, mS_bnd]) (hbt w) _) ?_
  simp only [mI_get, mI_hd, hk1, ad, go_sem, Nat.reduceEqDiff, Nat.reduceAdd, Nat.reduceLT, Nat.reduceLeDiff, reduceIte, reduceCtorEq]
  refine ⟨by omega, CallK.pure (hAt a.t a.ht _) ?_⟩
  simp only [go_sem, Nat.reduceEqDiff, Nat.reduceAdd, Nat.reduceLT, Nat.reduceLeDiff, reduceIte, reduceCtorEq]
  refine CallK.by (CallV.of_spec (own_give1 (s21 false false (w.set i o) g') (hbt _) hset)) fun v H' ⟨h1, h2⟩ => ?_
  subst h1 h2
  simp only [mI_get, mI_hd, hk2, bd, go_sem, Nat.reduceEqDiff, Nat.reduceAdd, Nat.reduceLT, Nat.reduceLeDiff, reduceIte, reduceCtorEq]
  refine ⟨by omega, CallK.pure (hAt b.t hbt2 _) ?_⟩
  simp only [go_sem, Nat.reduceEqDiff, Nat.reduceAdd, Nat.reduceLT, Nat.reduceLeDiff, reduceIte, reduceCtorEq]
  exact leaf2 (.tup (lieT w i o)) (by unfold lieT; rw [ad, bd]; exact ⟨rfl, rfl, trivial⟩) ⟨rfl, rfl⟩

theorem lie_take (w : List (List Int)) (i : Int) (o : List Int) : lieA (Sp.table w) i (o.take 9) = lieA w i o := by
  cases hv : Sp.valid w with
  | false =>
    have h1 : lieOk w i o = false := by rw [lieOk, hv]; rfl
    have h2 : lieOk (Sp.table w) i (o.take 9) = false := by rw [lieOk, Sp.table_valid, hv]; rfl
    rw [lieA, lieA, h1, h2]; rfl
  | true =>
    have g := Sp.valid_good hv
    rw [Sp.take_valid w hv]
    have h1 : lieOk w i (o.take 9) = lieOk w i o := by rw [lieOk, lieOk, Sp.take_order g.n6]
    cases ho : Sp.isOrder o w.length with
    | true =>
      have := (Sp.order_spec g.n6 ho).1
      have := g.n6
      rw [List.take_of_length_le (by omega)]
    | false =>
      have h2 : lieOk w i o = false := by rw [lieOk, ho]; simp
      rw [lieA, lieA, h1, h2]; rfl
end Go.Proofs.Ytkmmngphcodjjaa
