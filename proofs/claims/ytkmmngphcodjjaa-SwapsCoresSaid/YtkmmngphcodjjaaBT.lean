/- Contracts: the reference's Core, EqualFunc, and the statement SwapsCores. -/
import Derived.Test.YtkmmngphcodjjaaBZ
namespace Go.Abs.Sp
theorem deals_nodup {n : Nat} : ∀ (m : Nat) (b o : List Int), b.Nodup → o ∈ dealsR n m b → o.Nodup
  | 0, b, o, hb, ho => by simp [dealsR] at ho; subst ho; exact hb
  | m + 1, b, o, hb, ho => by
    simp only [dealsR, List.mem_flatMap, List.mem_range] at ho
    obtain ⟨x, hx, ho⟩ := ho
    split at ho
    · cases ho
    · rename_i hnx
      refine deals_nodup m _ o (List.nodup_append.2 ⟨hb, by simp, ?_⟩) ho
      intro a ha b' hb' hab
      simp at hb'
      subst hb'; subst hab
      exact hnx ha
theorem all_order {n : Nat} (hn : n ≤ 6) {D : List Int} (h : D ∈ allDeals n) : isOrder D n = true := by
  obtain ⟨hl, hr⟩ := all_ok h
  rw [← all_eq (by omega), all, if_pos (allGo_of hn D 0 set0 hr (deals_nodup n [] D (by simp) h) fun x hx => has0 _ (by have := hr x hx; omega)), hl]; simp
end Go.Abs.Sp
namespace Go.Proofs.Ytkmmngphcodjjaa
open Go.Abs AVal
set_option linter.unusedSimpArgs false
attribute [local go_sem] W_skip W_keep KQ_canon canon Fr.norm W_seq W_block W_exit W_ret W_ops W_draw KQ_nil KQ_norm_seq KQ_exit_seq KQ_ret_seq KQ_norm_block KQ_ret_block KQ_exit_block KQ_exit_loop KQ_ret_loop O_nil O_cons S_call S_mv SE_mv SD_mv S_pick SE_pick SD_pick S_bin SE_bin SD_bin S_eqb SE_eqb SD_eqb S_eqv SE_eqv SD_eqv S_eqnil SE_eqnil SD_eqnil S_un SE_un SD_un S_conv SE_conv SD_conv S_mkfn SE_mkfn SD_mkfn S_load SE_load SD_load S_nilck SE_nilck SD_nilck S_slS SE_slS SD_slS S_slP SE_slP SD_slP S_fldA SE_fldA SD_fldA S_fld SE_fld SD_fld S_ixS SE_ixS SD_ixS S_ixP SE_ixP SD_ixP S_ixV SE_ixV SD_ixV S_ixStr SE_ixStr SD_ixStr S_ext SE_ext SD_ext S_len SE_len SD_len S_lenStr SE_lenStr SD_lenStr S_lenc SE_lenc SD_lenc S_mn SE_mn SD_mn S_mx SE_mx SD_mx S_build SE_build SD_build S_alloc SD_alloc S_box SD_box S_bslice SD_bslice S_mksl SD_mksl S_store SD_store S_append SD_append S_copy SD_copy S_clr SD_clr aq_some aa_some al_some aqd_some aad_some ald_some ape_some D_done D_both D_early D_step SE_call SD_call IOpd.ev Fr.get Fr.put Fr.putd entryFr pickA binA binI isSh shI eqbA eqvA ints ints_mI Option.map_some eqnilA unA convA loadA nilckA intA slSA slPA fldAA fldVA ixSA ixPA ixVA ixStrA extA lenA lenStrA mnA mxA AVal.fits fillA fillOk buildA opa srcA appA stoA copA clrA rdFree zeros List.length_nil List.length_cons List.length_map List.map_cons List.map_nil Option.map_some Option.map_none if_true if_false ite_true ite_false true_and and_true and_self implies_true forall_const true_implies Bool.false_eq_true Bool.not_true Bool.not_false decide_eq_true_eq decide_eq_false_iff_not eq_self List.getElem?_cons_zero List.getElem?_cons_succ List.getElem?_nil List.set_cons_zero List.set_cons_succ List.nil_append List.cons_append List.append_nil List.replicate_zero List.replicate_succ Nat.zero_add false_implies rng_lt rng_end rng_get cells_I cells_B cells_sl cut_one Int.toNat_natCast Int.natCast_nonneg List.headD_cons Int.lt_irrefl not_false_eq_true decide_false decide_true mI_length mI_cells mI_sz mI_isCell mI_mid mI_append mI_take mI_drop cells_val cells_own cells_agg isCell_I isCell_B isCell_nil isCell_sl isCell_own isCell_ptr isCell_fn isCell_rp isCell_yld cellsOk_I cellsOk_B cellsOk_nil cellsOk_sl cellsOk_own cellsOk_ptr cellsOk_fn cellsOk_rp cellsOk_yld cellsOk_agg cells_nil cells_ptr cells_fn cells_rp List.all_cons List.all_nil Bool.and_true Nat.mul_one Nat.zero_mul Nat.one_mul List.take_zero List.take_nil List.drop_nil List.drop_zero List.not_mem_nil Nat.le_refl Nat.zero_le mS_length mS_cells mS_sz mS_isCell mS_mid mS_append mS_take mS_drop cells_sI isCell_sI cellsOk_sI sI_eq succ_le_self' List.take_succ_cons List.drop_succ_cons List.take_length beq_self_eq_true List.mem_cons or_false forall_eq mI_put mI_rep O_guard' D_earlyG' D_stepG' W_cond' G_tt G_tf G_ft G_ff GE_tt GE_tf GE_ft GE_ff GS_tt GS_tf GS_ft GS_ff G_u GE_u GS_u IC_t IC_f xft xff xtt xtf z00 z20 z22 z02 zz tn0

theorem blockG_val (w : List (List Int)) (d : List Int) (st : Bool) : ∀ (m k : Nat), (blockG w d st k m).2 = 0 ∨ (blockG w d st k m).2 = 4
  | 0, k => .inr rfl
  | m + 1, k => by
    rw [blockG]
    split
    · exact .inl rfl
    · exact blockG_val w d st m (k + 1)
/-- No set blocks the deal strongly, as the reference asks it. -/
def coreQ (w : List (List Int)) (D : List Int) : Bool := (blockG w D true 1 (2 ^ w.length - 1)).2 != 0
theorem coreQ_eq {w : List (List Int)} (hv : Sp.valid w = true) {D : List Int} (hD : D ∈ Sp.allDeals w.length) : coreP w D = coreQ w D := by
  have g := Sp.valid_good hv
  rw [coreP, coreQ, blockA, hv, Sp.all_order g.n6 hD]
  rcases blockG_val w D true (2 ^ w.length - 1) 1 with h | h <;> simp [h]

set_option maxHeartbeats 1000000 in
theorem s47o (w : List (List Int)) (g : Sp.Good w) (h5 : w.length ≤ 5) : Abs.Spec Try.prog 47 [.sl false false (mS w)] [] fun v H' => v = .own 0 0 ((Sp.allDeals w.length).filter (coreQ w)).length ((Sp.allDeals w.length).filter (coreQ w)).length 1 ∧ H' = [.cells (mS ((Sp.allDeals w.length).filter (coreQ w)))] := by
  refine Abs.Spec.walk mixed fn47 nn47 t47 q47 nt47 (by simp) ?_
  have g1 := g.n1
  obtain ⟨m, hm⟩ : ∃ m, w.length = m + 1 := ⟨w.length - 1, by omega⟩
  have h64 : Abs.Spec Try.prog 64 [I w.length, nilSl] [] fun v H' => H' = [] ∧ v = .sl false false (mS (Sp.allDeals w.length)) := by
    have := s64nil (n := w.length) (by omega) m hm.symm
    rw [← hm] at this
    exact this
  simp only [w47, mS_length, go_sem, Nat.reduceEqDiff, Nat.reduceAdd, Nat.reduceLT, Nat.reduceLeDiff, reduceIte, reduceCtorEq]
  refine CallK.by (CallV.of_spec h64) fun v H' ⟨h1, h2⟩ => ?_
  subst h1 h2
  have hl : (Sp.allDeals w.length).length ≤ 46656 := Nat.le_trans (deals_len (by omega) w.length []) (Nat.pow_le_pow_right (by omega) (show w.length ≤ 6 by omega))
  have hmem : ∀ D ∈ Sp.allDeals w.length, D.length = w.length ∧ ∀ x ∈ D, 0 ≤ x ∧ x < w.length := fun D hD => Sp.all_ok hD
  generalize Sp.allDeals w.length = L at hl hmem ⊢
  simp only [mS_length, go_sem, Nat.reduceEqDiff, Nat.reduceAdd, Nat.reduceLT, Nat.reduceLeDiff, reduceIte, reduceCtorEq]
  refine W_loop (fun q : { i : Nat // i ≤ L.length } => ([(0, .sl false false (mS w)), (3, own 0 0 ((L.take q.1).filter (coreQ w)).length ((L.take q.1).filter (coreQ w)).length 1), (10, .sl false false (mS L)), (11, I L.length), (12, I q.1)], [.cells (mS ((L.take q.1).filter (coreQ w)))])) (fun q => L.length - q.1)
    ⟨0, by omega⟩ [none] (Wk.mk0 rfl (by simp [imgs, Blk.alive]) (by simp [hle, mS]) (by simp [fle, vle, Fr.get, mS_bnd])) ?_
  rintro ⟨i, hi⟩
  dsimp only
  by_cases hil : i < L.length
  · have hz : decide ((i : Int) < L.length) = true := decide_eq_true (by omega)
    have hil' : (i : Int) < L.length := by omega
    have hwk : IntKind.i64.wrap ((i : Int) + 1) = ((i + 1 : Nat) : Int) := by rw [wrap64 (by omega) (by omega)]; rfl
    obtain ⟨D, hD⟩ : ∃ D, L.getD i [] = D := ⟨_, rfl⟩
    have hDm : D ∈ L := by rw [← hD, List.getD_eq_getElem?_getD, List.getElem?_eq_getElem hil]; exact List.getElem_mem _
    obtain ⟨hDl, hDr⟩ := hmem D hDm
    have htk : L.take (i + 1) = L.take i ++ [D] := by
      rw [List.take_add_one, List.getElem?_eq_getElem hil]
      rw [List.getD_eq_getElem?_getD, List.getElem?_eq_getElem hil] at hD
      simp at hD; rw [hD]; rfl
    have h41 := s41 w D g hDl hDr
    have hsm := List.length_filter_le (coreQ w) (L.take i)
    have htl : (L.take i).length ≤ L.length := by rw [List.length_take]; omega
    simp only [w47L0, hz, hil', mS_get, hil, hD, go_sem, Nat.reduceEqDiff, Nat.reduceAdd, Nat.reduceLT, Nat.reduceLeDiff, reduceIte, reduceCtorEq]
    refine CallK.pure (liftV h41 (by simp [bndL, AVal.bnd, mI_bnd, mS_bnd]) rfl _) ?_
    simp only [List.getD_cons_zero, List.getD_cons_succ, go_sem, Nat.reduceEqDiff, Nat.reduceAdd, Nat.reduceLT, Nat.reduceLeDiff, reduceIte, reduceCtorEq]
    refine IC.split (fun h => ?_) fun h => ?_
    · have h : coreQ w D = true := h
      have hf : (L.take (i + 1)).filter (coreQ w) = (L.take i).filter (coreQ w) ++ [D] := by
        rw [htk, List.filter_append]; simp [h]
      simp only [hwk, go_sem, Nat.reduceEqDiff, Nat.reduceAdd, Nat.reduceLT, Nat.reduceLeDiff, reduceIte, reduceCtorEq]
      refine ⟨by omega, ?_⟩
      refine round1 rfl ⟨i + 1, by omega⟩ [some 2] (by dsimp only; omega) ?_
      dsimp only
      rw [hf]
      exact Wk.one rfl (by rw [mS_one, mS_append]) mS_bnd (by simp [fle, vle, Fr.get, mS_bnd])
    · have h : coreQ w D = false := h
      have hf : (L.take (i + 1)).filter (coreQ w) = (L.take i).filter (coreQ w) := by
        rw [htk, List.filter_append]; simp [h]
      simp only [hwk, go_sem, Nat.reduceEqDiff, Nat.reduceAdd, Nat.reduceLT, Nat.reduceLeDiff, reduceIte, reduceCtorEq]
      refine round1 rfl ⟨i + 1, by omega⟩ [some 0] (by dsimp only; omega) ?_
      dsimp only
      rw [hf]
      exact Wk.one rfl rfl mS_bnd (by simp [fle, vle, Fr.get, mS_bnd])
  · have hz : decide ((i : Int) < L.length) = false := decide_eq_false (by omega)
    obtain rfl : i = L.length := by omega
    rw [List.take_length]
    simp only [w47L0, hz, w47T1, go_sem, Nat.reduceEqDiff, Nat.reduceAdd, Nat.reduceLT, Nat.reduceLeDiff, reduceIte, reduceCtorEq]
    exact leafO _ _ [some 0] (Wk.one rfl rfl mS_bnd (by simp [fle, vle, Fr.get])) ⟨rfl, rfl⟩
theorem take_mS' {l : List (List Int)} : (mS l).take l.length = mS l := List.take_of_length_le (by rw [mS_length]; exact Nat.le_refl _)
theorem s47 (w : List (List Int)) (hv : Sp.valid w = true) (h5 : w.length ≤ 5) : Abs.Spec Try.prog 47 [.sl false false (mS w)] [] fun v H' => H' = [] ∧ v = .sl false false (mS (coreL w)) := by
  have e : (Sp.allDeals w.length).filter (coreQ w) = coreL w := List.filter_congr fun D hD => (coreQ_eq hv hD).symm
  have := Spec.frozen (s47o w (Sp.valid_good hv) h5) (by omega) mS_bnd mS_length (by rw [mS_sz]; trivial) (by rw [Nat.mul_one, take_mS', mS_cells])
  rwa [e] at this
theorem s46 (a b : List (List Int)) (ha : ∀ l ∈ a, l.length < 9223372036854775808) (hl : a.length < 9223372036854775808) (hl' : b.length < 9223372036854775808) : Abs.Spec Try.prog 46 [.sl false false (mS a), .sl false false (mS b), .fn (.func 20) [] []] [] fun v H' => H' = [] ∧ v = B (a == b) := by
  refine Abs.Spec.walk mixed fn46 nn46 t46 q46 nt46 (by simp) ?_
  have e : ((a.length : Int) != b.length) = !decide (a.length = b.length) := by
    by_cases h : a.length = b.length
    · simp [h]
    · rw [decide_eq_false h, bne_iff_ne.2 (by omega)]; rfl
  simp only [w46, e, go_sem, Nat.reduceEqDiff, Nat.reduceAdd, Nat.reduceLT, Nat.reduceLeDiff, reduceIte, reduceCtorEq]
  refine IC.split (fun h => ?_) fun h => ?_
  · have h : a.length ≠ b.length := by simpa using h
    simp only [go_sem, Nat.reduceEqDiff, Nat.reduceAdd, Nat.reduceLT, Nat.reduceLeDiff, reduceIte, reduceCtorEq]
    exact leaf (B _) rfl ⟨rfl, by congr 1; symm; rw [beq_eq_false_iff_ne]; rintro rfl; exact h rfl⟩
  have h : a.length = b.length := by simpa using h
  simp only [go_sem, Nat.reduceEqDiff, Nat.reduceAdd, Nat.reduceLT, Nat.reduceLeDiff, reduceIte, reduceCtorEq]
  refine W_loop (fun q : { i : Nat // i ≤ a.length ∧ a.take i = b.take i } => ([(1, .sl false false (mS b)), (2, .fn (.func 20) [] []), (15, .sl false false (mS a)), (16, I a.length), (17, I q.1)], [])) (fun q => a.length - q.1) ⟨0, by omega, rfl⟩ [] (Wk.nil (by simp [fle, vle, vle.vleL, Fr.get, mS_bnd])) ?_
  rintro ⟨i, hi, htk⟩
  dsimp only
  by_cases hil : i < a.length
  · have hz : decide ((i : Int) < a.length) = true := decide_eq_true (by omega)
    have hil' : (i : Int) < a.length := by omega
    have hib : i < b.length := by omega
    have hib' : (i : Int) < b.length := by omega
    have hwk : IntKind.i64.wrap ((i : Int) + 1) = ((i + 1 : Nat) : Int) := by rw [wrap64 (by omega) (by omega)]; rfl
    obtain ⟨x, hx⟩ : ∃ x, a.getD i [] = x := ⟨_, rfl⟩
    obtain ⟨y, hy⟩ : ∃ y, b.getD i [] = y := ⟨_, rfl⟩
    have hx' : a[i] = x := by rw [← hx, List.getD_eq_getElem?_getD, List.getElem?_eq_getElem hil]; rfl
    have hy' : b[i] = y := by rw [← hy, List.getD_eq_getElem?_getD, List.getElem?_eq_getElem hib]; rfl
    have hxl := ha x (by rw [← hx']; exact List.getElem_mem _)
    simp only [w46L0, hz, hil', mS_get, hil, hx, hib, hib', hy, go_sem, Nat.reduceEqDiff, Nat.reduceAdd, Nat.reduceLT, Nat.reduceLeDiff, reduceIte, reduceCtorEq]
    refine CallK.pure (liftV (s20 false false false false x y hxl) (by simp [bndL, AVal.bnd, mI_bnd]) rfl _) ?_
    simp only [go_sem, Nat.reduceEqDiff, Nat.reduceAdd, Nat.reduceLT, Nat.reduceLeDiff, reduceIte, reduceCtorEq]
    refine IC.split (fun hc => ?_) fun hc => ?_
    · have hc : (x == y) = false := by simpa using hc
      simp only [go_sem, Nat.reduceEqDiff, Nat.reduceAdd, Nat.reduceLT, Nat.reduceLeDiff, reduceIte, reduceCtorEq]
      exact leaf (B _) rfl ⟨rfl, by congr 1; symm; rw [beq_eq_false_iff_ne]; rintro rfl; rw [← hx', ← hy'] at hc; simp at hc⟩
    · have hc : x = y := by simpa using hc
      simp only [hwk, go_sem, Nat.reduceEqDiff, Nat.reduceAdd, Nat.reduceLT, Nat.reduceLeDiff, reduceIte, reduceCtorEq]
      refine round0 rfl ⟨i + 1, by omega, by rw [List.take_add_one, List.take_add_one, htk, List.getElem?_eq_getElem hil, List.getElem?_eq_getElem hib, hx', hy', hc]⟩ (by dsimp only; omega) rfl ?_
      simp [fle, vle, vle.vleL, Fr.get, mS_bnd]
  · have hz : decide ((i : Int) < a.length) = false := decide_eq_false (by omega)
    obtain rfl : i = a.length := by omega
    simp only [w46L0, hz, w46T1, go_sem, Nat.reduceEqDiff, Nat.reduceAdd, Nat.reduceLT, Nat.reduceLeDiff, reduceIte, reduceCtorEq]
    exact leaf (B _) rfl ⟨rfl, by rw [List.take_length, h, List.take_length] at htk; rw [htk]; simp⟩

theorem coreL_len {w : List (List Int)} (h6 : w.length ≤ 6) : (coreL w).length ≤ 46656 := Nat.le_trans (List.length_filter_le _ _) (Nat.le_trans (deals_len h6 w.length []) (Nat.pow_le_pow_right (by omega) h6))
set_option maxHeartbeats 1000000 in
theorem s12 (w : List (List Int)) (hw : ∀ l ∈ w, l.length < 9223372036854775808) (hl : w.length < 9223372036854775808) : Abs.Spec Try.prog 12 [.sl false false (mS w)] [] fun v H' => H' = [] ∧ v = B true := by
  obtain ⟨hw', hl'⟩ := tab_len hw hl
  have e19 : ∀ H, CallV Try.prog (.fn (.func 19) [] []) [] H fun v H' => v = B true ∧ H' = H := fun H => liftV s19 rfl rfl H
  refine Abs.Spec.walk mixed fn12 nn12 t12 q12 nt12 (by simp) ?_
  simp only [w12, go_sem, Nat.reduceEqDiff, Nat.reduceAdd, Nat.reduceLT, Nat.reduceLeDiff, reduceIte, reduceCtorEq]
  refine CallK.by (CallV.of_spec (s16 false false w hw hl)) fun v H' ⟨h1, h2⟩ => ?_
  subst h1 h2
  simp only [go_sem, Nat.reduceEqDiff, Nat.reduceAdd, Nat.reduceLT, Nat.reduceLeDiff, reduceIte, reduceCtorEq]
  refine CallK.by (CallV.of_spec (s34 (Sp.table w) hw' hl')) fun v H' ⟨h1, h2⟩ => ?_
  subst h1 h2
  rw [coreA, Sp.table_valid]
  have z02 : (((0 : Nat) : Int) == 0) = true := rfl
  have z23 : ((2 : Int) == 2) = true := rfl
  have z00' : ((0 : Int) == 0) = true := rfl
  cases hv : Sp.valid w with
  | false =>
    rw [Bool.false_and, if_neg (by simp)]
    simp only [List.getD_cons_zero, List.getD_cons_succ, go_sem, Nat.reduceEqDiff, Nat.reduceAdd, Nat.reduceLT, Nat.reduceLeDiff, reduceIte, reduceCtorEq]
    refine CallK.by (CallV.of_spec (s18 false false w hw hl)) fun v H' ⟨h1, h2⟩ => ?_
    subst h1 h2
    rw [Sp.wishes_valid, hv]
    simp only [mS_length, z02, z23, go_sem, Nat.reduceEqDiff, Nat.reduceAdd, Nat.reduceLT, Nat.reduceLeDiff, reduceIte, reduceCtorEq]
    refine CallK.pure (e19 _) ?_
    simp only [go_sem, Nat.reduceEqDiff, Nat.reduceAdd, Nat.reduceLT, Nat.reduceLeDiff, reduceIte, reduceCtorEq]
    exact leaf (B true) rfl ⟨rfl, rfl⟩
  | true =>
    rw [Sp.take_valid w hv]
    by_cases h5 : w.length ≤ 5
    · have z5 : decide ((w.length : Int) > 5) = false := decide_eq_false (by omega)
      rw [decide_eq_true h5, Bool.and_self, if_pos rfl]
      simp only [List.getD_cons_zero, List.getD_cons_succ, go_sem, Nat.reduceEqDiff, Nat.reduceAdd, Nat.reduceLT, Nat.reduceLeDiff, reduceIte, reduceCtorEq]
      refine CallK.by (CallV.of_spec (s18 false false w hw hl)) fun v H' ⟨h1, h2⟩ => ?_
      subst h1 h2
      rw [Sp.wishes_valid, hv]
      simp only [mS_length, z5, go_sem, Nat.reduceEqDiff, Nat.reduceAdd, Nat.reduceLT, Nat.reduceLeDiff, reduceIte, reduceCtorEq]
      refine CallK.by (CallV.of_spec (s47 w hv h5)) fun v H' ⟨h1, h2⟩ => ?_
      subst h1 h2
      have hcl := coreL_len (show w.length ≤ 6 by omega)
      simp only [go_sem, Nat.reduceEqDiff, Nat.reduceAdd, Nat.reduceLT, Nat.reduceLeDiff, reduceIte, reduceCtorEq]
      refine CallK.by (CallV.of_spec (s46 (coreL w) (coreL w) (fun l hm => by have := (Sp.all_ok (List.mem_filter.1 hm).1).1; omega) (by omega) (by omega))) fun v H' ⟨h1, h2⟩ => ?_
      subst h1 h2
      rw [beq_self_eq_true]
      simp only [z00', go_sem, Nat.reduceEqDiff, Nat.reduceAdd, Nat.reduceLT, Nat.reduceLeDiff, reduceIte, reduceCtorEq]
      refine CallK.pure (e19 _) ?_
      simp only [go_sem, Nat.reduceEqDiff, Nat.reduceAdd, Nat.reduceLT, Nat.reduceLeDiff, reduceIte, reduceCtorEq]
      exact leaf (B true) rfl ⟨rfl, rfl⟩
    · have z5 : decide ((w.length : Int) > 5) = true := decide_eq_true (by omega)
      rw [decide_eq_false h5, Bool.and_false, if_neg (by simp)]
      simp only [List.getD_cons_zero, List.getD_cons_succ, go_sem, Nat.reduceEqDiff, Nat.reduceAdd, Nat.reduceLT, Nat.reduceLeDiff, reduceIte, reduceCtorEq]
      refine CallK.by (CallV.of_spec (s18 false false w hw hl)) fun v H' ⟨h1, h2⟩ => ?_
      subst h1 h2
      rw [Sp.wishes_valid, hv]
      simp only [mS_length, z5, z02, z23, go_sem, Nat.reduceEqDiff, Nat.reduceAdd, Nat.reduceLT, Nat.reduceLeDiff, reduceIte, reduceCtorEq]
      refine CallK.pure (e19 _) ?_
      simp only [go_sem, Nat.reduceEqDiff, Nat.reduceAdd, Nat.reduceLT, Nat.reduceLeDiff, reduceIte, reduceCtorEq]
      exact leaf (B true) rfl ⟨rfl, rfl⟩
end Go.Proofs.Ytkmmngphcodjjaa
