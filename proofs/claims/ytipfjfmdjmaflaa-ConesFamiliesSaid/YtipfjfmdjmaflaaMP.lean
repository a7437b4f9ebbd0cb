/- Contracts: the reference's small functions. -/
import Derived.Test.YtipfjfmdjmaflaaMO
import Derived.Test.YtipfjfmdjmaflaaLY
namespace Go.Proofs.Ytipfjfmdjmaflaa
open Go.Abs AVal
set_option linter.unusedSimpArgs false
attribute [local go_sem] W_skip W_keep KQ_canon canon Fr.norm W_seq W_block W_scope W_exit W_ret W_ops W_draw KQ_nil KQ_norm_seq KQ_exit_seq KQ_ret_seq KQ_norm_block KQ_ret_block KQ_exit_block KQ_exit_loop KQ_ret_loop O_nil O_cons S_call S_mv SE_mv SD_mv S_pick SE_pick SD_pick S_bin SE_bin SD_bin S_eqb SE_eqb SD_eqb S_eqv SE_eqv SD_eqv S_eqnil SE_eqnil SD_eqnil S_un SE_un SD_un S_conv SE_conv SD_conv S_mkfn SE_mkfn SD_mkfn S_load SE_load SD_load S_nilck SE_nilck SD_nilck S_slS SE_slS SD_slS S_slP SE_slP SD_slP S_fldA SE_fldA SD_fldA S_fld SE_fld SD_fld S_ixS SE_ixS SD_ixS S_ixP SE_ixP SD_ixP S_ixV SE_ixV SD_ixV S_ixStr SE_ixStr SD_ixStr S_ext SE_ext SD_ext S_len SE_len SD_len S_lenStr SE_lenStr SD_lenStr S_lenc SE_lenc SD_lenc S_mn SE_mn SD_mn S_mx SE_mx SD_mx S_build SE_build SD_build S_alloc SD_alloc S_box SD_box S_bslice SD_bslice S_mksl SD_mksl S_store SD_store S_append SD_append S_copy SD_copy S_clr SD_clr S_mlen SE_mlen SD_mlen S_mget SE_mget SD_mget S_mval SE_mval SD_mval S_mentry SE_mentry SD_mentry S_mkmap SD_mkmap S_mset SD_mset S_mrange SD_mrange S_mnext mlenA mgetA mvalA mentryA msetA mrangeA cells_mp isCell_mp cellsOk_mp aq_some aa_some al_some alA_some aqd_some aad_some ald_some ape_some D_done D_both D_early D_step SE_call SD_call IOpd.ev Fr.get Fr.put Fr.putd entryFr pickA binA binI isSh shI eqbA eqvA ints ints_mI Option.map_some eqnilA unA convA loadA nilckA intA slSA slPA fldAA fldVA ixSA ixPA ixVA ixStrA extA lenA lenStrA mnA mxA AVal.fits fillA fillOk buildA opa srcA appA stoA copA clrA rdFree zeros List.length_nil List.length_cons List.length_map List.map_cons List.map_nil Option.map_some Option.map_none if_true if_false ite_true ite_false true_and and_true and_self implies_true forall_const true_implies Bool.false_eq_true Bool.not_true Bool.not_false decide_eq_true_eq decide_eq_false_iff_not eq_self List.getElem?_cons_zero List.getElem?_cons_succ List.getElem?_nil List.set_cons_zero List.set_cons_succ List.nil_append List.cons_append List.append_nil List.replicate_zero List.replicate_succ Nat.zero_add false_implies rng_lt rng_end rng_get cells_I cells_B cells_sl cut_one Int.toNat_natCast Int.natCast_nonneg List.headD_cons Int.lt_irrefl not_false_eq_true decide_false decide_true mI_length mI_cells mI_sz mI_isCell mI_mid mI_append mI_take mI_drop cells_val cells_own cells_agg isCell_I isCell_B isCell_nil isCell_sl isCell_own isCell_ptr isCell_fn isCell_rp isCell_yld cellsOk_I cellsOk_B cellsOk_nil cellsOk_sl cellsOk_own cellsOk_ptr cellsOk_fn cellsOk_rp cellsOk_yld cellsOk_agg cells_nil cells_ptr cells_fn cells_rp List.all_cons List.all_nil Bool.and_true Nat.mul_one Nat.zero_mul Nat.one_mul List.take_zero List.take_nil List.drop_nil List.drop_zero List.not_mem_nil Nat.le_refl Nat.zero_le mS_length mS_cells mS_sz mS_isCell mS_mid mS_append mS_take mS_drop cells_sI isCell_sI cellsOk_sI sI_eq succ_le_self' List.take_succ_cons List.drop_succ_cons List.take_length beq_self_eq_true List.mem_cons or_false forall_eq mI_put mI_rep O_guard' D_earlyG' D_stepG' W_cond' G_tt G_tf G_ft G_ff GE_tt GE_tf GE_ft GE_ff GS_tt GS_tf GS_ft GS_ff G_u GE_u GS_u IC_t IC_f xft xff xtt xtf z00 z20 z22 z02 zz tn0
theorem s131 (nn t : Bool) (x : List Int) (hx : x.length < 9223372036854775808) : Abs.Spec Try.prog 131 [.sl nn t (mI x)] [] fun v H' => H' = [] ∧ v = B (Sp.numbers x 0 0) := by
  refine Abs.Spec.walk mixed fn131 nn131 t131 q131 nt131 (by simp) ?_
  simp only [w131, go_sem, Nat.reduceEqDiff, Nat.reduceAdd, Nat.reduceLT, Nat.reduceLeDiff, reduceIte, reduceCtorEq]
  refine CallK.by (CallV.of_spec (s24 nn t x 0 0 hx)) fun v H' ⟨h1, h2⟩ => ?_
  subst h1 h2
  simp only [go_sem, Nat.reduceEqDiff, Nat.reduceAdd, Nat.reduceLT, Nat.reduceLeDiff, reduceIte, reduceCtorEq]
  exact leaf (B _) rfl ⟨rfl, rfl⟩
theorem s83 (nn t nn' t' : Bool) (x y : List Int) (hxy : x.length = y.length) (hx : x.length < 9223372036854775808) : Abs.Spec Try.prog 83 [.sl nn t (mI x), .sl nn' t' (mI y)] [] fun v H' => H' = [] ∧ v = B (decide (Sp.cmpL x y < 0)) := by
  refine Abs.Spec.walk mixed fn83 nn83 t83 q83 nt83 (by simp) ?_
  simp only [w83, go_sem, Nat.reduceEqDiff, Nat.reduceAdd, Nat.reduceLT, Nat.reduceLeDiff, reduceIte, reduceCtorEq]
  refine W_loop (fun q : { i : Nat // i ≤ x.length ∧ Sp.cmpL (x.drop i) (y.drop i) = Sp.cmpL x y } => ([(1, .sl nn' t' (mI y)), (7, .sl nn t (mI x)), (8, I x.length), (9, I q.1)], [])) (fun q => x.length - q.1) ⟨0, by omega, rfl⟩ [] (Wk.nil (by simp [fle, vle, Fr.get, mI_bnd])) ?_
  rintro ⟨i, hi, hinv⟩
  dsimp only
  by_cases hil : i < x.length
  · have d1 : (i : Int) < x.length := by omega
    have d2 : (i : Int) < y.length := by omega
    have g1 : (mI x).getD i any = I (x.getD i 0) := mI_get hil
    have g2 : (mI y).getD i any = I (y.getD i 0) := mI_get (by omega)
    have hw : IntKind.i64.wrap ((i : Int) + 1) = (i : Int) + 1 := wrap64 (by omega) (by omega)
    have st : Sp.cmpL (x.drop i) (y.drop i) = if x.getD i 0 < y.getD i 0 then -1 else if y.getD i 0 < x.getD i 0 then 1 else Sp.cmpL (x.drop (i + 1)) (y.drop (i + 1)) := by
      rw [List.drop_eq_getElem_cons hil, List.drop_eq_getElem_cons (by omega : i < y.length)]
      simp only [Sp.cmpL, List.getD_eq_getElem?_getD, List.getElem?_eq_getElem hil, List.getElem?_eq_getElem (by omega : i < y.length), Option.getD_some]
    obtain ⟨u, hu⟩ : ∃ u, x.getD i 0 = u := ⟨_, rfl⟩
    obtain ⟨w, hw'⟩ : ∃ w, y.getD i 0 = w := ⟨_, rfl⟩
    rw [hu] at g1 st
    rw [hw'] at g2 st
    simp only [w83L0, d1, d2, g1, g2, go_sem, Nat.reduceEqDiff, Nat.reduceAdd, Nat.reduceLT, Nat.reduceLeDiff, reduceIte, reduceCtorEq]
    refine IC.split (fun h => ?_) fun h => ?_
    · have hne : u ≠ w := by simpa using h
      simp only [d2, g2, go_sem, Nat.reduceEqDiff, Nat.reduceAdd, Nat.reduceLT, Nat.reduceLeDiff, reduceIte, reduceCtorEq]
      refine leaf (B (decide (u < w))) rfl ⟨rfl, ?_⟩
      congr 1
      rw [← hinv, st]
      by_cases h1 : u < w
      · rw [if_pos h1, decide_eq_true h1]; rfl
      · rw [if_neg h1, if_pos (by omega), decide_eq_false h1]; rfl
    · have he : u = w := by simpa using h
      simp only [hw, go_sem, Nat.reduceEqDiff, Nat.reduceAdd, Nat.reduceLT, Nat.reduceLeDiff, reduceIte, reduceCtorEq]
      refine round0 rfl ⟨i + 1, by omega, ?_⟩ (by dsimp only; omega) rfl ?_
      · rw [← hinv, st, if_neg (by omega), if_neg (by omega)]
      · simp [fle, vle, Fr.get, mI_bnd]
  · have d1 : ¬ (i : Int) < x.length := by omega
    simp only [w83L0, w83T1, d1, go_sem, Nat.reduceEqDiff, Nat.reduceAdd, Nat.reduceLT, Nat.reduceLeDiff, reduceIte, reduceCtorEq]
    refine leaf (B false) rfl ⟨rfl, ?_⟩
    rw [List.drop_of_length_le (by omega), List.drop_of_length_le (by omega)] at hinv
    rw [← hinv]; rfl
theorem s75 (nn t nn' t' : Bool) (x y : List Int) (hxy : x.length = y.length) (hx : x.length < 9223372036854775808) : Abs.Spec Try.prog 75 [.sl nn t (mI x), .sl nn' t' (mI y)] [] fun v H' => H' = [] ∧ v = B (x == y) := by
  refine Abs.Spec.walk mixed fn75 nn75 t75 q75 nt75 (by simp) ?_
  simp only [w75, go_sem, Nat.reduceEqDiff, Nat.reduceAdd, Nat.reduceLT, Nat.reduceLeDiff, reduceIte, reduceCtorEq]
  refine CallK.by (CallV.of_spec (s83 nn t nn' t' x y hxy hx)) fun v H' ⟨h1, h2⟩ => ?_
  subst h1 h2
  have ha := Sp.cmpL_anti x y
  by_cases h : Sp.cmpL x y < 0
  · simp only [h, decide_true, go_sem, Nat.reduceEqDiff, Nat.reduceAdd, Nat.reduceLT, Nat.reduceLeDiff, reduceIte, reduceCtorEq]
    exact leaf (B false) rfl ⟨rfl, by
      congr 1
      have : x ≠ y := fun e => by subst e; rw [Sp.cmpL_self] at h; omega
      exact (beq_eq_false_iff_ne.2 this).symm⟩
  · simp only [h, decide_false, go_sem, Nat.reduceEqDiff, Nat.reduceAdd, Nat.reduceLT, Nat.reduceLeDiff, reduceIte, reduceCtorEq]
    refine CallK.by (CallV.of_spec (s83 nn' t' nn t y x hxy.symm (by omega))) fun v H' ⟨h1, h2⟩ => ?_
    subst h1 h2
    simp only [go_sem, Nat.reduceEqDiff, Nat.reduceAdd, Nat.reduceLT, Nat.reduceLeDiff, reduceIte, reduceCtorEq]
    refine leaf (B _) rfl ⟨rfl, ?_⟩
    congr 1
    by_cases h2 : Sp.cmpL y x < 0
    · rw [decide_eq_true h2]
      have : x ≠ y := fun e => by subst e; rw [Sp.cmpL_self] at h2; omega
      rw [beq_eq_false_iff_ne.2 this]; rfl
    · rw [decide_eq_false h2]
      have : x = y := Sp.cmpL_eq (by omega)
      subst this
      simp
def absSum (x : List Int) : Int := x.foldr (fun a s => Sp.ab a + s) 0
theorem absSum_nn : ∀ x : List Int, 0 ≤ absSum x
  | [] => Int.le_refl _
  | a :: x => by
    have := absSum_nn x
    have := Sp.ab_nonneg a
    simp only [absSum, List.foldr_cons] at *; omega
theorem absSum_le {M : Int} : ∀ {x : List Int}, Sp.inB M x → absSum x ≤ M * x.length
  | [], _ => by simp [absSum]
  | a :: x, h => by
    rw [Sp.inB_cons] at h
    have h1 := absSum_le (x := x) h.2
    have h2 := Sp.ab_le.2 h.1
    simp only [absSum, List.foldr_cons, List.length_cons] at *
    rw [Int.natCast_add, Int.mul_add]; simp; omega
/-- How far all numbers are from 0, together. -/
theorem s94 (nn t : Bool) (x : List Int) (hx : x.length ≤ 4) (hb : Sp.inB 16 x) : Abs.Spec Try.prog 94 [.sl nn t (mI x)] [] fun v H' => H' = [] ∧ v = I (absSum x) := by
  refine Abs.Spec.walk mixed fn94 nn94 t94 q94 nt94 (by simp) ?_
  simp only [w94, go_sem, Nat.reduceEqDiff, Nat.reduceAdd, Nat.reduceLT, Nat.reduceLeDiff, reduceIte, reduceCtorEq]
  refine W_loop (fun q : { q : Nat × Int // q.1 ≤ x.length ∧ 0 ≤ q.2 ∧ q.2 + absSum (x.drop q.1) = absSum x } => ([(3, I q.1.2), (6, .sl nn t (mI x)), (7, I x.length), (8, I q.1.1)], [])) (fun q => x.length - q.1.1) ⟨(0, 0), by simp, by simp, by simp⟩ [] (Wk.nil (by simp [fle, vle, Fr.get, mI_bnd])) ?_
  rintro ⟨⟨i, s⟩, hi, hs0, hs⟩
  dsimp only at hi hs0 hs ⊢
  have h64 := absSum_le hb
  by_cases hil : i < x.length
  · have d1 : (i : Int) < x.length := by omega
    have g1 : (mI x).getD i any = I (x.getD i 0) := mI_get hil
    have xb := Sp.inB_getD hb i
    have hw : IntKind.i64.wrap ((i : Int) + 1) = (i : Int) + 1 := wrap64 (by omega) (by omega)
    have st : absSum (x.drop i) = Sp.ab (x.getD i 0) + absSum (x.drop (i + 1)) := by
      rw [List.drop_eq_getElem_cons hil]
      simp only [absSum, List.foldr_cons, List.getD_eq_getElem?_getD, List.getElem?_eq_getElem hil, Option.getD_some]
    obtain ⟨u, hu⟩ : ∃ u, x.getD i 0 = u := ⟨_, rfl⟩
    rw [hu] at g1 st xb
    have e1 : IntKind.i64.wrap (0 - u) = -u := by rw [wrap64 (by omega) (by omega)]; omega
    have an := absSum_nn (x.drop (i + 1))
    have a0 := Sp.ab_nonneg u
    have hu16 : Sp.ab u ≤ 16 := Sp.ab_le.2 xb
    have e2 : IntKind.i64.wrap (s + Sp.ab u) = s + Sp.ab u := wrap64 (by omega) (by omega)
    have e0 : (if -u > u then -u else u) = Sp.ab u := by unfold Sp.ab; split <;> split <;> omega
    simp only [w94L0, d1, g1, e1, e0, e2, hw, go_sem, Nat.reduceEqDiff, Nat.reduceAdd, Nat.reduceLT, Nat.reduceLeDiff, reduceIte, reduceCtorEq]
    refine round0 rfl ⟨(i + 1, s + Sp.ab u), by dsimp only; omega, by dsimp only; omega, by dsimp only; omega⟩ (by dsimp only; omega) rfl ?_
    simp [fle, vle, Fr.get, mI_bnd]
  · have d1 : ¬ (i : Int) < x.length := by omega
    simp only [w94L0, w94T1, d1, go_sem, Nat.reduceEqDiff, Nat.reduceAdd, Nat.reduceLT, Nat.reduceLeDiff, reduceIte, reduceCtorEq]
    refine leaf (I s) rfl ⟨rfl, ?_⟩
    rw [List.drop_of_length_le (by omega)] at hs
    simp [absSum] at hs
    rw [hs]; rfl
/-- Whether all products are 0. -/
theorem s54 (nn t nn' t' : Bool) (a : List (List Int)) (x : List Int) (ha : ∀ r ∈ a, r.length = x.length) (hl : a.length ≤ 1000) (hx : x.length ≤ 1000) :
    Abs.Spec Try.prog 54 [.sl nn t (mS a), .sl nn' t' (mI x)] [] fun v H' => H' = [] ∧ v = B (a.all fun r => Sp.dotG 0 r x == 0) := by
  refine Abs.Spec.walk mixed fn54 nn54 t54 q54 nt54 (by simp) ?_
  simp only [w54, go_sem, Nat.reduceEqDiff, Nat.reduceAdd, Nat.reduceLT, Nat.reduceLeDiff, reduceIte, reduceCtorEq]
  refine W_loop (fun q : { q : List (List Int) × List (List Int) // q.1 ++ q.2 = a ∧ (q.2.all fun r => Sp.dotG 0 r x == 0) = (a.all fun r => Sp.dotG 0 r x == 0) } => ([(1, sl nn' t' (mI x)), (10, sl nn t (mS a)), (11, I a.length), (12, I q.1.1.length)], [])) (fun q => q.1.2.length) ⟨([], a), rfl, rfl⟩ [] (Wk.nil (by simp [fle, vle, Fr.get, mS_bnd, mI_bnd])) ?_
  rintro ⟨⟨pre, suf⟩, hp, hinv⟩
  dsimp only at hp hinv
  subst hp
  cases suf with
  | nil =>
    simp only [w54L0, w54T4, go_sem, Nat.reduceEqDiff, Nat.reduceAdd, Nat.reduceLT, Nat.reduceLeDiff, reduceIte, reduceCtorEq]
    exact leaf (B true) rfl ⟨rfl, by rw [List.append_nil] at hinv; rw [← hinv]; rfl⟩
  | cons r suf =>
    have hr : r.length = x.length := ha r (by simp)
    simp only [w54L0, go_sem, Nat.reduceEqDiff, Nat.reduceAdd, Nat.reduceLT, Nat.reduceLeDiff, reduceIte, reduceCtorEq]
    refine W_loop (fun p : { p : Nat × Int // p.1 ≤ x.length ∧ Sp.dotG p.2 (r.drop p.1) (x.drop p.1) = Sp.dotG 0 r x } =>
      ([(1, sl nn' t' (mI x)), (6, sl false false (mI r)), (7, I p.1.2), (10, sl nn t (mS (pre ++ r :: suf))), (11, I (pre ++ r :: suf).length), (12, I pre.length), (16, sl nn' t' (mI x)), (17, I x.length), (18, I p.1.1)], [])) (fun p => x.length - p.1.1) ⟨(0, 0), by omega, rfl⟩ [] (Wk.nil (by simp [fle, vle, Fr.get, mS_bnd, mI_bnd])) ?_
    rintro ⟨⟨i, s⟩, hin, hi2⟩
    dsimp only at hin hi2
    by_cases hi : i < x.length
    · have hi' : decide ((i : Int) < x.length) = true := decide_eq_true (by omega)
      have hir : i < r.length := by omega
      have hw : IntKind.i64.wrap ((i : Int) + 1) = i + 1 := wrap64 (by omega) (by omega)
      simp only [w54L1, hi', mI_get, mI_hd, hi, hir, go_sem, Nat.reduceEqDiff, Nat.reduceAdd, Nat.reduceLT, Nat.reduceLeDiff, reduceIte, reduceCtorEq]
      repeat (refine ⟨by omega, ?_⟩)
      refine round0 rfl ⟨(i + 1, IntKind.i64.wrap (s + IntKind.i64.wrap (r.getD i 0 * x.getD i 0))), by omega, by rw [← hi2, Sp.dotG_step hir hi]⟩ (by dsimp only; omega) rfl ?_
      simp [fle, vle, Fr.get, hw, mS_bnd, mI_bnd]
    · have hi' : decide ((i : Int) < x.length) = false := decide_eq_false (by omega)
      rw [List.drop_of_length_le (by omega), List.drop_of_length_le (by omega)] at hi2
      have hs : s = Sp.dotG 0 r x := hi2
      have hll : pre.length + (suf.length + 1) ≤ 1000 := by simpa using hl
      have hwk : IntKind.i64.wrap ((pre.length : Int) + 1) = pre.length + 1 := wrap64 (by omega) (by omega)
      simp only [w54L1, hi', w54T2, go_sem, Nat.reduceEqDiff, Nat.reduceAdd, Nat.reduceLT, Nat.reduceLeDiff, reduceIte, reduceCtorEq]
      refine IC.split (fun h => ?_) fun h => ?_
      · simp only [go_sem, Nat.reduceEqDiff, Nat.reduceAdd, Nat.reduceLT, Nat.reduceLeDiff, reduceIte, reduceCtorEq]
        refine leaf (B false) rfl ⟨rfl, ?_⟩
        rw [← hinv, List.all_cons, ← hs]
        have : (s == 0) = false := by simpa using h
        rw [this]; rfl
      · simp only [w54T3, hwk, go_sem, Nat.reduceEqDiff, Nat.reduceAdd, Nat.reduceLT, Nat.reduceLeDiff, reduceIte, reduceCtorEq]
        refine round0 rfl ⟨(pre ++ [r], suf), by simp, ?_⟩ (by simp) rfl ?_
        · rw [← hinv, List.all_cons, ← hs]
          have : (s == 0) = true := by simpa using h
          rw [this, Bool.true_and]
        · simp [fle, vle, Fr.get, hwk, mS_bnd, mI_bnd]
end Go.Proofs.Ytipfjfmdjmaflaa
