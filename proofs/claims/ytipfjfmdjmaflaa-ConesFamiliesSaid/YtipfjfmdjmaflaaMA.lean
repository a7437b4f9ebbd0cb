/- The code of some functions of the program, cleaned: printed by a program of mine, checked here; Contracts: ContainsFunc, equality of lists of vectors. -/
import Derived.Test.YtipfjfmdjmaflaaProg
import Derived.Test.YtipfjfmdjmaflaaAS
import Derived.Test.YtipfjfmdjmaflaaKA
import Derived.Test.YtipfjfmdjmaflaaLB
import Derived.Test.YtipfjfmdjmaflaaLG
import Derived.Test.YtipfjfmdjmaflaaKH
import Derived.KernelRfl
namespace Go.Proofs.Ytipfjfmdjmaflaa
open Go.Abs AVal
variable {x : Cx} {Q : QT} {ks : List Kont} {fr : Fr} {H : AHeap} {ms : List Nat}
/- live: [0, 3, 5, 6, 36, 37, 38, 110, 111, 112] -/
/- live: [0, 3, 5, 6, 7, 8, 36, 37, 38, 69, 70, 71] -/
/- live: [0, 3, 36, 37, 38] -/
/- live: [0, 1, 2, 8, 13, 14, 79, 80, 81] -/
/- live: [0, 1, 2, 7, 10, 53, 54, 55] -/
/- live: [7, 94, 95, 96] -/
/- live: [0, 1, 7, 9, 48, 49, 50] -/
/- live: [0, 1, 5, 9, 10, 65, 66, 67, 88, 89, 90] -/
/- live: [0, 1, 5, 9, 10, 65, 66, 67] -/
abbrev b48 : ICode :=
  (.seq (.ops [⟨(some 4), (.mv (.k (B false))), none⟩])
  (.seq (.ops [⟨(some 5), (.mv (.t 0)), none⟩,
    ⟨(some 6), (.mv (.t 1)), none⟩,
    ⟨(some 7), (.call (.k (.fn (.func 91) [] [])) [(.t 5), (.t 6), (.k (.fn (.func 22) [] []))]), none⟩,
    ⟨(some 4), (.mv (.t 7)), none⟩])
  .ret))
def c48 : ICode := b48
theorem w48 : W x Q c48 ks fr H ms = W x Q b48 ks fr H ms := rfl
def r48 : List IRes := [(.tmp 4)]
theorem t48 : Try.f48.body.bind (trCode Try.prog Try.f48.ntmps) = some (strip c48) := by kernel_rfl
theorem q48 : trRes Try.prog Try.f48.results.toList = some r48 := by kernel_rfl
theorem fn48 : Try.prog.funcs[48]? = some Try.f48 := by kernel_rfl
theorem nn48 : (Try.f48.name == "runtime.NumGoroutine") = false := by kernel_rfl
theorem nt48 : Try.f48.ntmps = 8 := by kernel_rfl
/- live: [0, 1, 7, 8] -/
abbrev b91T1 : ICode :=
  (.keep [] (.seq (.ops [⟨(some 6), (.mv (.k (B true))), none⟩])
  .ret))
def c91T1 : ICode := b91T1
theorem w91T1 : W x Q c91T1 ks fr H ms = W x Q b91T1 ks fr H ms := rfl
/- live: [1, 2, 15, 16, 17] -/
abbrev b91L0 : ICode :=
  (.seq (.ops [⟨(some 18), (.bin .lss (.t 17) (.t 16)), none⟩])
  (.seq (.cond (.t 18)
    .skip
    (.exit 0))
  (.seq (.block 1 (.seq (.ops [⟨(some 19), (.mv (.t 17)), none⟩,
    ⟨(some 20), (.ixS 1 (.t 15) (.t 17)), none⟩,
    ⟨(some 21), (.load false 1 (.t 20)), none⟩,
    ⟨(some 7), (.mv (.t 19)), none⟩,
    ⟨(some 8), (.mv (.t 21)), none⟩])
  (.seq (.ops [⟨(some 22), (.mv (.t 1)), none⟩,
    ⟨(some 23), (.mv (.t 7)), none⟩,
    ⟨(some 24), (.ixS 1 (.t 22) (.t 23)), none⟩,
    ⟨(some 25), (.load false 1 (.t 24)), none⟩,
    ⟨(some 9), (.mv (.t 25)), none⟩])
  (.seq (.ops [⟨(some 26), (.mv (.t 2)), none⟩,
    ⟨(some 27), (.mv (.t 8)), none⟩,
    ⟨(some 28), (.mv (.t 9)), none⟩,
    ⟨(some 29), (.call (.t 26) [(.t 27), (.t 28)]), none⟩,
    ⟨(some 30), (.un .not (.t 29)), none⟩])
  (.cond (.t 30)
    (.seq (.ops [⟨(some 6), (.mv (.k (B false))), none⟩])
    .ret)
    .skip)))))
  (.ops [⟨(some 31), (.bin .add (.t 17) (.k (I 1))), none⟩,
    ⟨(some 17), (.mv (.t 31)), none⟩]))))
def c91L0 : ICode := b91L0
theorem w91L0 : W x Q c91L0 ks fr H ms = W x Q b91L0 ks fr H ms := rfl
abbrev b91 : ICode :=
  (.seq (.ops [⟨(some 6), (.mv (.k (B false))), none⟩])
  (.seq (.seq (.ops [⟨(some 10), (.mv (.t 0)), none⟩,
    ⟨(some 11), (.len (.t 10)), none⟩,
    ⟨(some 12), (.mv (.t 1)), none⟩,
    ⟨(some 13), (.len (.t 12)), none⟩,
    ⟨(some 14), (.bin .neq (.t 11) (.t 13)), none⟩])
  (.cond (.t 14)
    (.seq (.ops [⟨(some 6), (.mv (.k (B false))), none⟩])
    .ret)
    .skip))
  (.seq (.seq (.ops [⟨(some 15), (.mv (.t 0)), none⟩,
    ⟨(some 16), (.len (.t 15)), none⟩,
    ⟨(some 17), (.mv (.k (I 0))), none⟩])
  (.block 0 (.loop c91L0)))
  c91T1)))
def c91 : ICode := b91
theorem w91 : W x Q c91 ks fr H ms = W x Q b91 ks fr H ms := rfl
def r91 : List IRes := [(.tmp 6)]
theorem t91 : Try.f91.body.bind (trCode Try.prog Try.f91.ntmps) = some (strip c91) := by kernel_rfl
theorem q91 : trRes Try.prog Try.f91.results.toList = some r91 := by kernel_rfl
theorem fn91 : Try.prog.funcs[91]? = some Try.f91 := by kernel_rfl
theorem nn91 : (Try.f91.name == "runtime.NumGoroutine") = false := by kernel_rfl
theorem nt91 : Try.f91.ntmps = 32 := by kernel_rfl
end Go.Proofs.Ytipfjfmdjmaflaa
namespace Go.Proofs.Ytipfjfmdjmaflaa
open Go.Abs AVal
set_option linter.unusedSimpArgs false
attribute [local go_sem] W_skip W_keep KQ_canon canon Fr.norm W_seq W_block W_scope W_exit W_ret W_ops W_draw KQ_nil KQ_norm_seq KQ_exit_seq KQ_ret_seq KQ_norm_block KQ_ret_block KQ_exit_block KQ_exit_loop KQ_ret_loop O_nil O_cons S_call S_mv SE_mv SD_mv S_pick SE_pick SD_pick S_bin SE_bin SD_bin S_eqb SE_eqb SD_eqb S_eqv SE_eqv SD_eqv S_eqnil SE_eqnil SD_eqnil S_un SE_un SD_un S_conv SE_conv SD_conv S_mkfn SE_mkfn SD_mkfn S_load SE_load SD_load S_nilck SE_nilck SD_nilck S_slS SE_slS SD_slS S_slP SE_slP SD_slP S_fldA SE_fldA SD_fldA S_fld SE_fld SD_fld S_ixS SE_ixS SD_ixS S_ixP SE_ixP SD_ixP S_ixV SE_ixV SD_ixV S_ixStr SE_ixStr SD_ixStr S_ext SE_ext SD_ext S_len SE_len SD_len S_lenStr SE_lenStr SD_lenStr S_lenc SE_lenc SD_lenc S_mn SE_mn SD_mn S_mx SE_mx SD_mx S_build SE_build SD_build S_alloc SD_alloc S_box SD_box S_bslice SD_bslice S_mksl SD_mksl S_store SD_store S_append SD_append S_copy SD_copy S_clr SD_clr S_mlen SE_mlen SD_mlen S_mget SE_mget SD_mget S_mval SE_mval SD_mval S_mentry SE_mentry SD_mentry S_mkmap SD_mkmap S_mset SD_mset S_mrange SD_mrange S_mnext mlenA mgetA mvalA mentryA msetA mrangeA cells_mp isCell_mp cellsOk_mp aq_some aa_some al_some alA_some aqd_some aad_some ald_some ape_some D_done D_both D_early D_step SE_call SD_call IOpd.ev Fr.get Fr.put Fr.putd entryFr pickA binA binI isSh shI eqbA eqvA ints ints_mI Option.map_some eqnilA unA convA loadA nilckA intA slSA slPA fldAA fldVA ixSA ixPA ixVA ixStrA extA lenA lenStrA mnA mxA AVal.fits fillA fillOk buildA opa srcA appA stoA copA clrA rdFree zeros List.length_nil List.length_cons List.length_map List.map_cons List.map_nil Option.map_some Option.map_none if_true if_false ite_true ite_false true_and and_true and_self implies_true forall_const true_implies Bool.false_eq_true Bool.not_true Bool.not_false decide_eq_true_eq decide_eq_false_iff_not eq_self List.getElem?_cons_zero List.getElem?_cons_succ List.getElem?_nil List.set_cons_zero List.set_cons_succ List.nil_append List.cons_append List.append_nil List.replicate_zero List.replicate_succ Nat.zero_add false_implies rng_lt rng_end rng_get cells_I cells_B cells_sl cut_one Int.toNat_natCast Int.natCast_nonneg List.headD_cons Int.lt_irrefl not_false_eq_true decide_false decide_true mI_length mI_cells mI_sz mI_isCell mI_mid mI_append mI_take mI_drop cells_val cells_own cells_agg isCell_I isCell_B isCell_nil isCell_sl isCell_own isCell_ptr isCell_fn isCell_rp isCell_yld cellsOk_I cellsOk_B cellsOk_nil cellsOk_sl cellsOk_own cellsOk_ptr cellsOk_fn cellsOk_rp cellsOk_yld cellsOk_agg cells_nil cells_ptr cells_fn cells_rp List.all_cons List.all_nil Bool.and_true Nat.mul_one Nat.zero_mul Nat.one_mul List.take_zero List.take_nil List.drop_nil List.drop_zero List.not_mem_nil Nat.le_refl Nat.zero_le mS_length mS_cells mS_sz mS_isCell mS_mid mS_append mS_take mS_drop cells_sI isCell_sI cellsOk_sI sI_eq succ_le_self' List.take_succ_cons List.drop_succ_cons List.take_length beq_self_eq_true List.mem_cons or_false forall_eq mI_put mI_rep O_guard' D_earlyG' D_stepG' W_cond' G_tt G_tf G_ft G_ff GE_tt GE_tf GE_ft GE_ff GS_tt GS_tf GS_ft GS_ff G_u GE_u GS_u IC_t IC_f xft xff xtt xtf z00 z20 z22 z02 zz tn0
theorem cons_drop_beq {xs ys : List (List Int)} {i : Nat} (hi : i < xs.length) (hj : i < ys.length) : (xs.drop i == ys.drop i) = (xs.getD i [] == ys.getD i [] && (xs.drop (i + 1) == ys.drop (i + 1))) := by
  rw [List.drop_eq_getElem_cons hi, List.drop_eq_getElem_cons hj, List.getD_eq_getElem?_getD, List.getD_eq_getElem?_getD, List.getElem?_eq_getElem hi, List.getElem?_eq_getElem hj]
  rfl
/-- EqualFunc of Equal. -/
theorem s91 (nn t nn' t' : Bool) (xs ys : List (List Int)) (hx : ∀ l ∈ xs, l.length < 9223372036854775808) (hl : xs.length < 9223372036854775808) :
    Abs.Spec Try.prog 91 [.sl nn t (mS xs), .sl nn' t' (mS ys), .fn (.func 22) [] []] [] fun v H' => H' = [] ∧ v = B (xs == ys) := by
  refine Abs.Spec.walk mixed fn91 nn91 t91 q91 nt91 (by simp) ?_
  simp only [w91, go_sem, Nat.reduceEqDiff, Nat.reduceAdd, Nat.reduceLT, Nat.reduceLeDiff, reduceIte, reduceCtorEq]
  refine IC.split (fun h => ?_) fun h => ?_
  · simp only [go_sem, Nat.reduceEqDiff, Nat.reduceAdd, Nat.reduceLT, Nat.reduceLeDiff, reduceIte, reduceCtorEq]
    exact leaf (B false) rfl ⟨rfl, by
      congr 1
      have : xs ≠ ys := fun e => by subst e; simp at h
      exact (beq_eq_false_iff_ne.2 this).symm⟩
  have hn : xs.length = ys.length := by simp at h; omega
  simp only [go_sem, Nat.reduceEqDiff, Nat.reduceAdd, Nat.reduceLT, Nat.reduceLeDiff, reduceIte, reduceCtorEq]
  refine W_loop (fun q : { i : Nat // i ≤ xs.length ∧ (xs.drop i == ys.drop i) = (xs == ys) } => ([(1, sl nn' t' (mS ys)), (2, .fn (.func 22) [] []), (15, sl nn t (mS xs)), (16, I xs.length), (17, I q.1)], [])) (fun q => xs.length - q.1) ⟨0, by omega, rfl⟩ [] (Wk.nil (by simp [fle, vle, vle.vleL, Fr.get, mS_bnd])) ?_
  rintro ⟨i, hi, hinv⟩
  dsimp only
  by_cases hil : i < xs.length
  · have c1 : (i : Int) < xs.length := by omega
    have c2 : i < ys.length := by omega
    have g1 := mS_getD hil
    have g2 := mS_getD c2
    have hx' : (xs.getD i []).length < 9223372036854775808 := hx _ (by rw [List.getD_eq_getElem?_getD, List.getElem?_eq_getElem hil]; exact List.getElem_mem _)
    simp only [w91L0, c1, c2, g1, g2, go_sem, Nat.reduceEqDiff, Nat.reduceAdd, Nat.reduceLT, Nat.reduceLeDiff, reduceIte, reduceCtorEq]
    refine ⟨by omega, ?_⟩
    refine CallK.pure (liftV (s22 false false false false _ _ hx') (by simp [bndL, AVal.bnd, mI_bnd]) rfl _) ?_
    simp only [go_sem, Nat.reduceEqDiff, Nat.reduceAdd, Nat.reduceLT, Nat.reduceLeDiff, reduceIte, reduceCtorEq]
    have hst := cons_drop_beq hil c2
    refine IC.split (fun h => ?_) fun h => ?_
    · simp only [go_sem, Nat.reduceEqDiff, Nat.reduceAdd, Nat.reduceLT, Nat.reduceLeDiff, reduceIte, reduceCtorEq]
      refine leaf (B false) rfl ⟨rfl, ?_⟩
      have h : (xs.getD i [] == ys.getD i []) = false := by simpa using h
      rw [← hinv, hst, h]; rfl
    · simp only [go_sem, Nat.reduceEqDiff, Nat.reduceAdd, Nat.reduceLT, Nat.reduceLeDiff, reduceIte, reduceCtorEq]
      have h : (xs.getD i [] == ys.getD i []) = true := by simpa using h
      have hw : IntKind.i64.wrap ((i : Int) + 1) = (i : Int) + 1 := wrap64 (by omega) (by omega)
      refine round0 rfl ⟨i + 1, by omega, by rw [← hinv, hst, h]; rfl⟩ (by dsimp only; omega) rfl ?_
      simp [fle, vle, vle.vleL, Fr.get, hw, mS_bnd]
  · have c1 : ¬ (i : Int) < xs.length := by omega
    simp only [w91L0, w91T1, c1, go_sem, Nat.reduceEqDiff, Nat.reduceAdd, Nat.reduceLT, Nat.reduceLeDiff, reduceIte, reduceCtorEq]
    refine leaf (B true) rfl ⟨rfl, ?_⟩
    rw [← hinv, List.drop_eq_nil_of_le (by omega), List.drop_eq_nil_of_le (by omega)]; rfl
/-- The same vectors. -/
theorem s48 (nn t nn' t' : Bool) (xs ys : List (List Int)) (hx : ∀ l ∈ xs, l.length < 9223372036854775808) (hl : xs.length < 9223372036854775808) :
    Abs.Spec Try.prog 48 [.sl nn t (mS xs), .sl nn' t' (mS ys)] [] fun v H' => H' = [] ∧ v = B (xs == ys) := by
  refine Abs.Spec.walk mixed fn48 nn48 t48 q48 nt48 (by simp) ?_
  simp only [w48, go_sem, Nat.reduceEqDiff, Nat.reduceAdd, Nat.reduceLT, Nat.reduceLeDiff, reduceIte, reduceCtorEq]
  refine CallK.by (CallV.of_spec (s91 nn t nn' t' xs ys hx hl)) fun v H' ⟨h1, h2⟩ => ?_
  subst h1 h2
  simp only [go_sem, Nat.reduceEqDiff, Nat.reduceAdd, Nat.reduceLT, Nat.reduceLeDiff, reduceIte, reduceCtorEq]
  exact leaf (B _) rfl ⟨rfl, rfl⟩
end Go.Proofs.Ytipfjfmdjmaflaa
