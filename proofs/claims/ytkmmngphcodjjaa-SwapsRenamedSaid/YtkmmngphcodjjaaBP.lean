/- Contracts: the iterator over all deals. -/
import Derived.Test.YtkmmngphcodjjaaBO
namespace Go.Proofs.Ytkmmngphcodjjaa
open Go.Abs AVal
set_option linter.unusedSimpArgs false
attribute [local go_sem] W_skip W_keep KQ_canon canon Fr.norm W_seq W_block W_exit W_ret W_ops W_draw KQ_nil KQ_norm_seq KQ_exit_seq KQ_ret_seq KQ_norm_block KQ_ret_block KQ_exit_block KQ_exit_loop KQ_ret_loop O_nil O_cons S_call S_mv SE_mv SD_mv S_pick SE_pick SD_pick S_bin SE_bin SD_bin S_eqb SE_eqb SD_eqb S_eqv SE_eqv SD_eqv S_eqnil SE_eqnil SD_eqnil S_un SE_un SD_un S_conv SE_conv SD_conv S_mkfn SE_mkfn SD_mkfn S_load SE_load SD_load S_nilck SE_nilck SD_nilck S_slS SE_slS SD_slS S_slP SE_slP SD_slP S_fldA SE_fldA SD_fldA S_fld SE_fld SD_fld S_ixS SE_ixS SD_ixS S_ixP SE_ixP SD_ixP S_ixV SE_ixV SD_ixV S_ixStr SE_ixStr SD_ixStr S_ext SE_ext SD_ext S_len SE_len SD_len S_lenStr SE_lenStr SD_lenStr S_lenc SE_lenc SD_lenc S_mn SE_mn SD_mn S_mx SE_mx SD_mx S_build SE_build SD_build S_alloc SD_alloc S_box SD_box S_bslice SD_bslice S_mksl SD_mksl S_store SD_store S_append SD_append S_copy SD_copy S_clr SD_clr aq_some aa_some al_some aqd_some aad_some ald_some ape_some D_done D_both D_early D_step SE_call SD_call IOpd.ev Fr.get Fr.put Fr.putd entryFr pickA binA binI isSh shI eqbA eqvA ints ints_mI Option.map_some eqnilA unA convA loadA nilckA intA slSA slPA fldAA fldVA ixSA ixPA ixVA ixStrA extA lenA lenStrA mnA mxA AVal.fits fillA fillOk buildA opa srcA appA stoA copA clrA rdFree zeros List.length_nil List.length_cons List.length_map List.map_cons List.map_nil Option.map_some Option.map_none if_true if_false ite_true ite_false true_and and_true and_self implies_true forall_const true_implies Bool.false_eq_true Bool.not_true Bool.not_false decide_eq_true_eq decide_eq_false_iff_not eq_self List.getElem?_cons_zero List.getElem?_cons_succ List.getElem?_nil List.set_cons_zero List.set_cons_succ List.nil_append List.cons_append List.append_nil List.replicate_zero List.replicate_succ Nat.zero_add false_implies rng_lt rng_end rng_get cells_I cells_B cells_sl cut_one Int.toNat_natCast Int.natCast_nonneg List.headD_cons Int.lt_irrefl not_false_eq_true decide_false decide_true mI_length mI_cells mI_sz mI_isCell mI_mid mI_append mI_take mI_drop cells_val cells_own cells_agg isCell_I isCell_B isCell_nil isCell_sl isCell_own isCell_ptr isCell_fn isCell_rp isCell_yld cellsOk_I cellsOk_B cellsOk_nil cellsOk_sl cellsOk_own cellsOk_ptr cellsOk_fn cellsOk_rp cellsOk_yld cellsOk_agg cells_nil cells_ptr cells_fn cells_rp List.all_cons List.all_nil Bool.and_true Nat.mul_one Nat.zero_mul Nat.one_mul List.take_zero List.take_nil List.drop_nil List.drop_zero List.not_mem_nil Nat.le_refl Nat.zero_le mS_length mS_cells mS_sz mS_isCell mS_mid mS_append mS_take mS_drop cells_sI isCell_sI cellsOk_sI sI_eq succ_le_self' List.take_succ_cons List.drop_succ_cons List.take_length beq_self_eq_true List.mem_cons or_false forall_eq mI_put mI_rep O_guard' D_earlyG' D_stepG' W_cond' G_tt G_tf G_ft G_ff GE_tt GE_tf GE_ft GE_ff GS_tt GS_tf GS_ft GS_ff G_u GE_u GS_u IC_t IC_f xft xff xtt xtf z00 z20 z22 z02 zz tn0

theorem s63 (n : Nat) (set : Int) : Abs.Spec Try.prog 63 [I n, I set] [] fun v H' => H' = [] ∧ v = .fn (.func 82) [] [.rp [I n], .rp [I set]] := by
  refine Abs.Spec.walk mixed fn63 nn63 t63 q63 nt63 (by simp) ?_
  simp only [w63, go_sem, Nat.reduceEqDiff, Nat.reduceAdd, Nat.reduceLT, Nat.reduceLeDiff, reduceIte, reduceCtorEq]
  exact leaf (.fn (.func 82) [] [.rp [I n], .rp [I set]]) (by simp [vle, vle.vleL, Fr.get, bndL, AVal.bnd]) ⟨rfl, rfl⟩

def allR (Hp : AHeap) (Hs : List Int → AHeap) (p : List Int → Bool) (l : List (List Int)) (H' : AHeap) : Prop :=
  match l.find? p with
  | none => H' = Hp
  | some o => H' = Hs o

theorem s82 {Hp : AHeap} {Hs : List Int → AHeap} {b L n : Nat} {set : Int} {p : List Int → Bool} (hb : Hp.length = b) (hL : L < b) (h1 : 1 ≤ n) (hn : n ≤ 6) (hok : ∀ x ∈ Hp, blkOk b x = true) (hok4 : ∀ x ∈ Hp, blkOk (b + 4) x = true) (hs : ∀ D, (Hs D).length = b) (hsok : ∀ D, ∀ x ∈ Hs D, blkOk b x = true) (hsok4 : ∀ D, ∀ x ∈ Hs D, blkOk (b + 4) x = true)
    (Y : ∀ D, DOk n set D → CallV Try.prog (.yld L) [.own (b + 1) 0 n n 1] (HS Hp b L n set D) fun v H' => (p D = false ∧ v = B true ∧ H' = HS Hp b L n set D) ∨ (p D = true ∧ v = B false ∧ H' = HS (Hs D) b L n set D)) :
    Abs.Spec Try.prog 82 [.yld L, .rp [I n], .rp [I set]] Hp fun _ H' => allR Hp Hs p (Sp.comps n set n 0 set []) H' := by
  subst hb
  refine Abs.Spec.walk mixed fn82 nn82 t82 q82 nt82 (by simp) ?_
  have hD : DOk n set (List.replicate n 0) := ⟨by simp, fun x hx => by have := List.eq_of_mem_replicate hx; omega, fun j hj _ => by simp [List.getD_eq_getElem?_getD, hj]⟩
  simp only [w82, List.append_assoc, List.length_append, app_get, app_get0, app_set, app_set0, go_sem, Nat.reduceEqDiff, Nat.reduceAdd, Nat.reduceLT, Nat.reduceLeDiff, reduceIte, reduceCtorEq]
  refine ⟨⟨by omega, by omega, by omega⟩, ?_⟩
  refine CallK.by (CallV.of_spec (s83 rfl hL hn hok4 hs hsok4 Y n 0 set (List.replicate n 0) (by omega) hD)) fun v H' hv => ?_
  rw [List.take_zero] at hv
  unfold growR at hv
  cases hf : (Sp.comps n set n 0 set []).find? p with
  | none =>
    rw [hf] at hv
    obtain ⟨rfl, D', hD', -, rfl⟩ := hv
    simp only [go_sem, Nat.reduceEqDiff, Nat.reduceAdd, Nat.reduceLT, Nat.reduceLeDiff, reduceIte, reduceCtorEq]
    exact leafB0 rfl hok (by simp only [allR, hf])
  | some o =>
    rw [hf] at hv
    obtain ⟨rfl, rfl⟩ := hv
    simp only [go_sem, Nat.reduceEqDiff, Nat.reduceAdd, Nat.reduceLT, Nat.reduceLeDiff, reduceIte, reduceCtorEq]
    exact leafB0 (hs o) (hsok o) (by simp only [allR, hf])
end Go.Proofs.Ytkmmngphcodjjaa
