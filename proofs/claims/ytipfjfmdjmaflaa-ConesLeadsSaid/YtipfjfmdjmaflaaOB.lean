/- Contracts: Reverse. -/
import Derived.Test.YtipfjfmdjmaflaaKB
import Derived.Test.YtipfjfmdjmaflaaAS
import Derived.Test.YtipfjfmdjmaflaaOA
namespace Go.Proofs.Ytipfjfmdjmaflaa
open Go.Abs AVal
set_option linter.unusedSimpArgs false
attribute [local go_sem] W_skip W_keep KQ_canon canon Fr.norm W_seq W_block W_scope W_exit W_ret W_ops W_draw KQ_nil KQ_norm_seq KQ_exit_seq KQ_ret_seq KQ_norm_block KQ_ret_block KQ_exit_block KQ_exit_loop KQ_ret_loop O_nil O_cons S_call S_mv SE_mv SD_mv S_pick SE_pick SD_pick S_bin SE_bin SD_bin S_eqb SE_eqb SD_eqb S_eqv SE_eqv SD_eqv S_eqnil SE_eqnil SD_eqnil S_un SE_un SD_un S_conv SE_conv SD_conv S_mkfn SE_mkfn SD_mkfn S_load SE_load SD_load S_nilck SE_nilck SD_nilck S_slS SE_slS SD_slS S_slP SE_slP SD_slP S_fldA SE_fldA SD_fldA S_fld SE_fld SD_fld S_ixS SE_ixS SD_ixS S_ixP SE_ixP SD_ixP S_ixV SE_ixV SD_ixV S_ixStr SE_ixStr SD_ixStr S_ext SE_ext SD_ext S_len SE_len SD_len S_lenStr SE_lenStr SD_lenStr S_lenc SE_lenc SD_lenc S_mn SE_mn SD_mn S_mx SE_mx SD_mx S_build SE_build SD_build S_alloc SD_alloc S_box SD_box S_bslice SD_bslice S_mksl SD_mksl S_store SD_store S_append SD_append S_copy SD_copy S_clr SD_clr S_mlen SE_mlen SD_mlen S_mget SE_mget SD_mget S_mval SE_mval SD_mval S_mentry SE_mentry SD_mentry S_mkmap SD_mkmap S_mset SD_mset S_mrange SD_mrange S_mnext mlenA mgetA mvalA mentryA msetA mrangeA cells_mp isCell_mp cellsOk_mp aq_some aa_some al_some alA_some aqd_some aad_some ald_some ape_some D_done D_both D_early D_step SE_call SD_call IOpd.ev Fr.get Fr.put Fr.putd entryFr pickA binA binI isSh shI eqbA eqvA ints ints_mI Option.map_some eqnilA unA convA loadA nilckA intA slSA slPA fldAA fldVA ixSA ixPA ixVA ixStrA extA lenA lenStrA mnA mxA AVal.fits fillA fillOk buildA opa srcA appA stoA copA clrA rdFree zeros List.length_nil List.length_cons List.length_map List.map_cons List.map_nil Option.map_some Option.map_none if_true if_false ite_true ite_false true_and and_true and_self implies_true forall_const true_implies Bool.false_eq_true Bool.not_true Bool.not_false decide_eq_true_eq decide_eq_false_iff_not eq_self List.getElem?_cons_zero List.getElem?_cons_succ List.getElem?_nil List.set_cons_zero List.set_cons_succ List.nil_append List.cons_append List.append_nil List.replicate_zero List.replicate_succ Nat.zero_add false_implies rng_lt rng_end rng_get cells_I cells_B cells_sl cut_one Int.toNat_natCast Int.natCast_nonneg List.headD_cons Int.lt_irrefl not_false_eq_true decide_false decide_true mI_length mI_cells mI_sz mI_isCell mI_mid mI_append mI_take mI_drop cells_val cells_own cells_agg isCell_I isCell_B isCell_nil isCell_sl isCell_own isCell_ptr isCell_fn isCell_rp isCell_yld cellsOk_I cellsOk_B cellsOk_nil cellsOk_sl cellsOk_own cellsOk_ptr cellsOk_fn cellsOk_rp cellsOk_yld cellsOk_agg cells_nil cells_ptr cells_fn cells_rp List.all_cons List.all_nil Bool.and_true Nat.mul_one Nat.zero_mul Nat.one_mul List.take_zero List.take_nil List.drop_nil List.drop_zero List.not_mem_nil Nat.le_refl Nat.zero_le mS_length mS_cells mS_sz mS_isCell mS_mid mS_append mS_take mS_drop cells_sI isCell_sI cellsOk_sI sI_eq succ_le_self' List.take_succ_cons List.drop_succ_cons List.take_length beq_self_eq_true List.mem_cons or_false forall_eq mI_put mI_rep O_guard' D_earlyG' D_stepG' W_cond' G_tt G_tf G_ft G_ff GE_tt GE_tf GE_ft GE_ff GS_tt GS_tf GS_ft GS_ff G_u GE_u GS_u IC_t IC_f xft xff xtt xtf z00 z20 z22 z02 zz tn0
theorem mS_hd1 {l : List (List Int)} {i : Nat} (h : i < l.length) : (mS (l.drop i)).headD any = .sl false false (mI (l.getD i [])) := by
  rw [List.drop_eq_getElem_cons h, List.getD_eq_getElem?_getD, List.getElem?_eq_getElem h]; rfl
/-- Reversed so far. -/
def revAt (xs : List (List Int)) (i k : Nat) : List Int := if k < i ∨ xs.length - 1 - k < i then xs.getD (xs.length - 1 - k) [] else xs.getD k []
theorem rev_end {xs ys : List (List Int)} {i : Nat} (hl : ys.length = xs.length) (hi : xs.length ≤ 2 * i + 1) (h : ∀ k, k < xs.length → ys.getD k [] = revAt xs i k) : ys = xs.reverse := by
  refine List.ext_getElem (by simp [hl]) fun k h1 h2 => ?_
  have hk : k < xs.length := by omega
  have := h k hk
  rw [List.getD_eq_getElem?_getD, List.getElem?_eq_getElem h1] at this
  have hk2 : xs.length - 1 - k < xs.length := by omega
  rw [List.getElem_reverse]
  simp only [Option.getD_some] at this
  rw [this, revAt]
  split
  · rw [List.getD_eq_getElem?_getD, List.getElem?_eq_getElem hk2]; rfl
  · have : xs.length - 1 - k = k := by omega
    rw [List.getD_eq_getElem?_getD, List.getElem?_eq_getElem hk]
    simp only [Option.getD_some, this]
theorem rev_step {xs ys : List (List Int)} {i : Nat} (hl : ys.length = xs.length) (hi : i < xs.length - 1 - i) (h : ∀ k, k < xs.length → ys.getD k [] = revAt xs i k) :
    ∀ k, k < xs.length → ((ys.set i (ys.getD (xs.length - 1 - i) [])).set (xs.length - 1 - i) (ys.getD i [])).getD k [] = revAt xs (i + 1) k := by
  intro k hk
  have a1 := h i (by omega)
  have a2 := h (xs.length - 1 - i) (by omega)
  have ak := h k hk
  rw [List.getD_eq_getElem?_getD, List.getElem?_set, List.getElem?_set]
  simp only [List.length_set]
  by_cases h1 : xs.length - 1 - i = k
  · rw [if_pos h1, if_pos (by omega), Option.getD_some, a1, revAt, revAt, if_neg (by omega), if_pos (by omega)]
    congr 1; omega
  · rw [if_neg h1]
    by_cases h2 : i = k
    · rw [if_pos h2, if_pos (by omega), Option.getD_some, a2, revAt, revAt, if_neg (by omega), if_pos (by omega)]
      congr 1; omega
    · rw [if_neg h2, ← List.getD_eq_getElem?_getD, ak, revAt, revAt]
      by_cases h3 : k < i ∨ xs.length - 1 - k < i
      · rw [if_pos h3, if_pos (by omega)]
      · rw [if_neg h3, if_neg (by omega)]
set_option maxHeartbeats 1000000 in
theorem s31 (xs : List (List Int)) (h1 : 1 ≤ xs.length) (hl : xs.length ≤ 1000000) : Abs.Spec Try.prog 31 [.own 0 0 xs.length xs.length 1] [.cells (mS xs)] fun v H' => v = .tup [] ∧ H' = [.cells (mS xs.reverse)] := by
  refine Abs.Spec.walk mixed fn31 nn31 t31 q31 nt31 (by simp) ?_
  have hw : IntKind.i64.wrap ((xs.length : Int) - 1) = ((xs.length - 1 : Nat) : Int) := by rw [wrap64 (by omega) (by omega)]; omega
  simp only [w31, hw, go_sem, Nat.reduceEqDiff, Nat.reduceAdd, Nat.reduceLT, Nat.reduceLeDiff, reduceIte, reduceCtorEq]
  refine W_loop (fun q : { q : Nat × List (List Int) // 2 * q.1 ≤ xs.length ∧ q.2.length = xs.length ∧ ∀ k, k < xs.length → q.2.getD k [] = revAt xs q.1 k } => ([(0, own 0 0 xs.length xs.length 1), (2, I q.1.1), (3, I ((xs.length - 1 : Nat) - (q.1.1 : Nat) : Int))], [.cells (mS q.1.2)])) (fun q => xs.length - q.1.1)
    ⟨(0, xs), by simp, rfl, fun k hk => by rw [revAt, if_neg (by omega)]⟩ (idρ 1) (WkB (B := 1) rfl (by simp [blkOk, mS_bnd]) (by simp [Fr.get, vid])) ?_
  rintro ⟨⟨i, ys⟩, hi, hyl, hinv⟩
  dsimp only at hi hyl hinv ⊢
  by_cases hlt : i < xs.length - 1 - i
  · have ej : ((xs.length - 1 : Nat) - (i : Nat) : Int) = ((xs.length - 1 - i : Nat) : Int) := by omega
    rw [ej]
    obtain ⟨j, hj⟩ : ∃ j, xs.length - 1 - i = j := ⟨_, rfl⟩
    have hstep := rev_step hyl hlt hinv
    rw [hj] at hstep hlt ⊢
    have hz : decide ((i : Int) < j) = true := decide_eq_true (by omega)
    have iy : i < ys.length := by omega
    have jy : j < ys.length := by omega
    have il : (i : Int) < xs.length := by omega
    have jl : (j : Int) < xs.length := by omega
    have hwi : IntKind.i64.wrap ((i : Int) + 1) = ((i + 1 : Nat) : Int) := by rw [wrap64 (by omega) (by omega)]; rfl
    have hwj : IntKind.i64.wrap ((j : Int) - 1) = ((xs.length - 1 : Nat) - (i + 1 : Nat) : Int) := by rw [wrap64 (by omega) (by omega)]; omega
    have jy2 : j < (ys.set i (ys.getD j [])).length := by simpa using jy
    simp only [w31L0, hz, il, jl, mS_hd1, iy, jy, mS_put, set_put, jy2, hwi, hwj, go_sem, Nat.reduceEqDiff, Nat.reduceAdd, Nat.reduceLT, Nat.reduceLeDiff, reduceIte, reduceCtorEq]
    refine ⟨by omega, by omega, by omega, by omega, ?_⟩
    exact roundB ⟨(i + 1, (ys.set i (ys.getD j [])).set j (ys.getD i [])), by omega, by simp [hyl], hstep⟩ (by dsimp only; omega) rfl rfl (by simp [blkOk, mS_bnd]) (by simp [Fr.get, vid])
  · have ej : decide ((i : Int) < ((xs.length - 1 : Nat) - (i : Nat) : Int)) = false := decide_eq_false (by omega)
    simp only [w31L0, ej, go_sem, Nat.reduceEqDiff, Nat.reduceAdd, Nat.reduceLT, Nat.reduceLeDiff, reduceIte, reduceCtorEq]
    rw [rev_end hyl (by omega) hinv]
    exact leafB0 (H0 := [.cells (mS xs.reverse)]) (H1 := []) rfl (by simp [blkOk, mS_bnd]) ⟨rfl, rfl⟩
end Go.Proofs.Ytipfjfmdjmaflaa
