/- Contracts of folds: how many piles of a map can be folded; the statement FoldsMaps. -/
import Derived.Test.YthdjloegibenoaaFV
namespace Go.Proofs.Ythdjloegibenoaa
open Go.Abs AVal
set_option linter.unusedSimpArgs false
attribute [local go_sem] W_skip W_keep KQ_canon canon Fr.norm W_seq W_block W_exit W_ret W_ops W_draw KQ_nil KQ_norm_seq KQ_exit_seq KQ_ret_seq KQ_norm_block KQ_ret_block KQ_exit_block KQ_exit_loop KQ_ret_loop O_nil O_cons S_call S_mv SE_mv SD_mv S_pick SE_pick SD_pick S_bin SE_bin SD_bin S_eqb SE_eqb SD_eqb S_eqv SE_eqv SD_eqv S_eqnil SE_eqnil SD_eqnil S_un SE_un SD_un S_conv SE_conv SD_conv S_mkfn SE_mkfn SD_mkfn S_load SE_load SD_load S_nilck SE_nilck SD_nilck S_slS SE_slS SD_slS S_slP SE_slP SD_slP S_fldA SE_fldA SD_fldA S_fld SE_fld SD_fld S_ixS SE_ixS SD_ixS S_ixP SE_ixP SD_ixP S_ixV SE_ixV SD_ixV S_ixStr SE_ixStr SD_ixStr S_ext SE_ext SD_ext S_len SE_len SD_len S_lenStr SE_lenStr SD_lenStr S_lenc SE_lenc SD_lenc S_mn SE_mn SD_mn S_mx SE_mx SD_mx S_build SE_build SD_build S_alloc SD_alloc S_box SD_box S_bslice SD_bslice S_mksl SD_mksl S_store SD_store S_append SD_append S_copy SD_copy S_clr SD_clr aq_some aa_some al_some aqd_some aad_some ald_some ape_some D_done D_both D_early D_step SE_call SD_call IOpd.ev Fr.get Fr.put Fr.putd entryFr pickA binA binI isSh shI eqbA eqvA ints ints_mI Option.map_some eqnilA unA convA loadA nilckA intA slSA slPA fldAA fldVA ixSA ixPA ixVA ixStrA extA lenA lenStrA mnA mxA AVal.fits fillA fillOk buildA opa srcA appA stoA copA clrA rdFree zeros List.length_nil List.length_cons List.length_map List.map_cons List.map_nil Option.map_some Option.map_none if_true if_false ite_true ite_false true_and and_true and_self implies_true forall_const true_implies Bool.false_eq_true Bool.not_true Bool.not_false decide_eq_true_eq decide_eq_false_iff_not eq_self List.getElem?_cons_zero List.getElem?_cons_succ List.getElem?_nil List.set_cons_zero List.set_cons_succ List.nil_append List.cons_append List.append_nil List.replicate_zero List.replicate_succ Nat.zero_add false_implies rng_lt rng_end rng_get cells_I cells_B cells_sl cut_one Int.toNat_natCast Int.natCast_nonneg List.headD_cons Int.lt_irrefl not_false_eq_true decide_false decide_true mI_length mI_cells mI_sz mI_isCell mI_mid mI_append mI_take mI_drop cells_val cells_own cells_agg isCell_I isCell_B isCell_nil isCell_sl isCell_own isCell_ptr isCell_fn isCell_rp isCell_yld cellsOk_I cellsOk_B cellsOk_nil cellsOk_sl cellsOk_own cellsOk_ptr cellsOk_fn cellsOk_rp cellsOk_yld cellsOk_agg cells_nil cells_ptr cells_fn cells_rp List.all_cons List.all_nil Bool.and_true Nat.mul_one Nat.zero_mul Nat.one_mul List.take_zero List.take_nil List.drop_nil List.drop_zero List.not_mem_nil Nat.le_refl Nat.zero_le mS_length mS_cells mS_sz mS_isCell mS_mid mS_append mS_take mS_drop cells_sI isCell_sI cellsOk_sI sI_eq succ_le_self' List.take_succ_cons List.drop_succ_cons List.take_length beq_self_eq_true List.mem_cons or_false forall_eq mI_put mI_rep O_guard' D_earlyG' D_stepG' W_cond' G_tt G_tf G_ft G_ff GE_tt GE_tf GE_ft GE_ff GS_tt GS_tf GS_ft GS_ff G_u GE_u GS_u IC_t IC_f xft xff xtt xtf z00 z20 z22 z02 zz tn0

section
variable {n : Nat} {l : List Cr} {fr : Fr}
/-- The rounds of counting the piles of a map. -/
noncomputable def cl27 (l : List Cr) (fr : Fr) : Cl where
  Γ := Int
  σ := Int
  val k := k
  live _ := True
  ok k H := H[0]? = some (.cells [.sl false false (mC l)]) ∧ H[1]? = some (.cells [I k]) ∧ H[3]? = some (.loop .ready none fr 25 #[18] (asOf Try.f27 0) (bdOf Try.f27 0))
  mine _ j := j = 0 ∨ j = 1 ∨ j = 3
  go _ _ := true
  upd k D := if Sp.possP D l then IntKind.i64.wrap (k + 1) else k
  frame := fun q H H' h hk => by rw [hk 0 (by simp), hk 1 (by simp), hk 3 (by simp)]; exact h
  lt := fun q H j h hm => by
    rcases hm with rfl | rfl | rfl
    · exact (List.getElem?_eq_some_iff.1 h.1).1
    · exact (List.getElem?_eq_some_iff.1 h.2.1).1
    · exact (List.getElem?_eq_some_iff.1 h.2.2).1

set_option maxHeartbeats 1000000 in
theorem y27 (hn : n ≤ 1000) (f4 : fr.get 4 = ptr 0 0) (f5 : fr.get 5 = ptr 1 0) (hl : l.length ≤ 1000) (hc : ∀ c ∈ l, c.a < n ∧ c.b < n) : YOk Try.prog (cl27 l fr) 3 n fun _ => domN n := by
  rintro (c : Int) H k lb cs D ⟨h0, h1, hL⟩ _ hok hmk hk htk hDn hle hdom
  have lt : ∀ {H : AHeap} {j b}, H[j]? = some b → j < H.length := fun hj => (List.getElem?_eq_some_iff.1 hj).1
  have hmk' : k ≠ 0 ∧ k ≠ 1 ∧ k ≠ 3 := ⟨fun h => hmk (.inl h), fun h => hmk (.inr (.inl h)), fun h => hmk (.inr (.inr h))⟩
  refine CallV.yldW mixed (L := 3) (fr := fr) (n := 25) (ps := [18]) hL t27R0a t27R0b rfl (by simp) ?_
  simp only [w27R0a, putArgs, go_sem, Nat.reduceEqDiff, Nat.reduceAdd, Nat.reduceLT, Nat.reduceLeDiff, reduceIte, reduceCtorEq]
  refine ⟨hL, ?_⟩
  have hLl := lt hL
  have h1l := lt h1
  have hlp : ∀ LP, HOk LP H → LP 3 fr := fun LP h0 => h0 3 _ hL
  have fin : ∀ c' : Int, c' = (if Sp.possP D l then IntKind.i64.wrap (c + 1) else c) → ∀ H1, H1 = (H.set 3 (.loop .busy none fr 25 #[18] (asOf Try.f27 0) (bdOf Try.f27 0))).set 1 (.cells [I c']) →
      H1[3]? = some (.loop .busy none fr 25 #[18] (asOf Try.f27 0) (bdOf Try.f27 0)) ∧ ∃ ρ H3, Wk H.length [] ρ [] (H1.set 3 (.loop .ready none fr 25 #[18] (asOf Try.f27 0) (bdOf Try.f27 0))) [] H3 ∧
        B true = B ((cl27 l fr).go c D) ∧ ∃ γ', (cl27 l fr).val γ' = (cl27 l fr).upd c D ∧ ((cl27 l fr).go c D = true → (cl27 l fr).live γ') ∧ (cl27 l fr).To H.length c H γ' H3 := by
    intro c' hc' H1 hH1
    subst hH1
    have e : (((H.set 3 (.loop .busy none fr 25 #[18] (asOf Try.f27 0) (bdOf Try.f27 0))).set 1 (.cells [I c'])).set 3 (.loop .ready none fr 25 #[18] (asOf Try.f27 0) (bdOf Try.f27 0))).length = H.length := by simp
    have hto : (cl27 l fr).To H.length c H c' (((H.set 3 (.loop .busy none fr 25 #[18] (asOf Try.f27 0) (bdOf Try.f27 0))).set 1 (.cells [I c'])).set 3 (.loop .ready none fr 25 #[18] (asOf Try.f27 0) (bdOf Try.f27 0))) := by
      refine ⟨⟨?_, ?_, ?_⟩, fun LP h9 => ?_, by rw [e]; exact Nat.le_refl _, fun j hj hm => ?_, fun j hj => .inl hj⟩
      · rw [List.getElem?_set_ne (by omega), List.getElem?_set_ne (by omega), List.getElem?_set_ne (by omega)]; exact h0
      · rw [List.getElem?_set_ne (by omega), List.getElem?_set_self (by simp; omega)]
      · rw [List.getElem?_set_self (by simp; omega)]
      · exact ((h9.set (b := .loop .busy none fr 25 #[18] _ _) (hlp LP h9)).set (b := .cells [I c']) rfl).set (b := .loop .ready none fr 25 #[18] _ _) (hlp LP h9)
      · have : j ≠ 0 ∧ j ≠ 1 ∧ j ≠ 3 := ⟨fun h => hm (.inl h), fun h => hm (.inr (.inl h)), fun h => hm (.inr (.inr h))⟩
        rw [List.getElem?_set_ne (by omega), List.getElem?_set_ne (by omega), List.getElem?_set_ne (by omega)]
    refine ⟨by rw [List.getElem?_set_ne (by omega), List.getElem?_set_self hLl], idρ _, _, Wk.ok (fr' := []) (ms := []) (hto.hok _ hok) (fun _ _ h => h) hto.len (fun _ h => by cases h) (fun _ h => by cases h), rfl, c', hc', fun _ => trivial, hto⟩
  have hb0 : (H.set 3 (.loop .busy none fr 25 #[18] (asOf Try.f27 0) (bdOf Try.f27 0)))[0]? = some (.cells [.sl false false (mC l)]) := by rw [List.getElem?_set_ne (by omega)]; exact h0
  have hb1 : (H.set 3 (.loop .busy none fr 25 #[18] (asOf Try.f27 0) (bdOf Try.f27 0)))[1]? = some (.cells [I c]) := by rw [List.getElem?_set_ne (by omega)]; exact h1
  have hbk : (H.set 3 (.loop .busy none fr 25 #[18] (asOf Try.f27 0) (bdOf Try.f27 0)))[k]? = some (.cells cs) := by rw [List.getElem?_set_ne (by omega)]; exact hk
  have hsame : (H.set 3 (.loop .busy none fr 25 #[18] (asOf Try.f27 0) (bdOf Try.f27 0))) = (H.set 3 (.loop .busy none fr 25 #[18] (asOf Try.f27 0) (bdOf Try.f27 0))).set 1 (.cells [I c]) := by
    refine List.ext_getElem? fun j => ?_
    by_cases hj : j = 1
    · subst hj; rw [hb1, List.getElem?_set_self (by simp; omega)]
    · rw [List.getElem?_set_ne (i := 1) (Ne.symm hj)]
  generalize H.set 3 (.loop .busy none fr 25 #[18] (asOf Try.f27 0) (bdOf Try.f27 0)) = Hb at fin hb0 hb1 hbk hsame ⊢
  simp only [w27R0b, f4, hb0, go_sem, Nat.reduceEqDiff, Nat.reduceAdd, Nat.reduceLT, Nat.reduceLeDiff, reduceIte, reduceCtorEq]
  have hDl : D.length = n := hdom.1
  refine CallK.pure (CallV.of_spec (first := []) (cap := []) (Spec.lend (args' := [.sl false false (mI D), .sl false false (mC l)]) (s49 false false false false D l (by omega) (fun x hx => by have := hdom.2 x hx; omega) hl (by rw [hDl]; exact hc)) rfl ⟨vle_mI hbk (by simp) hDn.symm (by rw [htk]), ⟨mC_bnd, fun h => h, fun h => h, rfl⟩, trivial⟩)) ?_
  simp only [go_sem, Nat.reduceEqDiff, Nat.reduceAdd, Nat.reduceLT, Nat.reduceLeDiff, reduceIte, reduceCtorEq]
  refine IC.split (fun h => ?_) fun h => ?_
  · simp only [f5, hb1, go_sem, Nat.reduceEqDiff, Nat.reduceAdd, Nat.reduceLT, Nat.reduceLeDiff, reduceIte, reduceCtorEq]
    exact fin _ (by rw [if_pos h]) _ rfl
  · simp only [go_sem, Nat.reduceEqDiff, Nat.reduceAdd, Nat.reduceLT, Nat.reduceLeDiff, reduceIte, reduceCtorEq]
    exact fin c (by rw [h]; rfl) Hb hsame

/-- How many piles of a map can be folded. -/
def mapsN (l : List Cr) (n : Nat) : Nat := ((pilesA (2 * n)).filter fun D => Sp.possP D l).length
theorem piles_len {n : Nat} (hn : n ≤ 8) : (pilesA n).length ≤ 16777216 :=
  Nat.le_trans (ext_len n n 0 []) (Nat.le_trans (Nat.pow_le_pow_left hn n) (Nat.le_trans (Nat.pow_le_pow_right (by omega) hn) (by decide)))
theorem piles_ok' {n : Nat} : ∀ E ∈ pilesA n, domN n E := fun E hE => piles_ok E hE

set_option maxHeartbeats 1000000 in
theorem s27 (n : Int) : Abs.Spec Try.prog 27 [I n] [] fun v H' => H' = [] ∧ v = if decide (1 ≤ n) && decide (n ≤ 3) then .tup [I (mapsN (Sp.planP n.toNat) n.toNat : Nat), I 0] else .tup [I 0, I 2] := by
  refine Abs.Spec.walk mixed fn27 nn27 t27 q27 nt27 (by simp) ?_
  by_cases h1 : 1 ≤ n
  · have z1 : decide (n < 1) = false := decide_eq_false (by omega)
    by_cases h3 : n ≤ 3
    · have z3 : decide (n > 3) = false := decide_eq_false (by omega)
      have hw : IntKind.i64.wrap (2 * n) = 2 * n := wrap64 (by omega) (by omega)
      obtain ⟨m, rfl⟩ : ∃ m : Nat, n = m := ⟨n.toNat, by omega⟩
      rw [decide_eq_true h1, decide_eq_true h3, Bool.and_self, if_pos rfl, Int.toNat_natCast]
      simp only [w27, z1, z3, go_sem, Nat.reduceEqDiff, Nat.reduceAdd, Nat.reduceLT, Nat.reduceLeDiff, reduceIte, reduceCtorEq]
      refine CallK.by (CallV.of_spec (s56 (n := m) (by omega))) fun v H' ⟨h1, h2⟩ => ?_
      subst h1 h2
      simp only [hw, go_sem, Nat.reduceEqDiff, Nat.reduceAdd, Nat.reduceLT, Nat.reduceLeDiff, reduceIte, reduceCtorEq]
      refine CallK.pure (liftV (s64 (2 * m)) (by simp [bndL, AVal.bnd]) (by simp [AVal.bnd, bndL]) _) ?_
      simp only [go_sem, Nat.reduceEqDiff, Nat.reduceAdd, Nat.reduceLT, Nat.reduceLeDiff, reduceIte, reduceCtorEq]
      have hP : ∀ c ∈ Sp.planP m, c.a < 2 * m ∧ c.b < 2 * m := Sp.planP_ok m (by omega)
      have hPl : (Sp.planP m).length ≤ 1000 := by rw [Sp.planP_len]; omega
      rw [mapsN]
      generalize Sp.planP m = l at hP hPl ⊢
      generalize hfr : ([_, _, _, _, _, _, _, _, _, _, _, _, _, _, _, _, _, _] : Fr) = fr
      have f4 : Fr.get fr 4 = ptr 0 0 := by rw [← hfr]; rfl
      have f5 : Fr.get fr 5 = ptr 1 0 := by rw [← hfr]; rfl
      have f17 : Fr.get fr 17 = .fn (.func 74) [] [.rp [I (2 * m)]] := by rw [← hfr]; rfl
      have hbnd : (fr.all fun q => q.2.bnd 4) = true := by rw [← hfr]; simp [AVal.bnd, bndL, mC_bnd]
      clear hfr
      refine W_range rfl f17 ?_
      have hcl : (cl27 l fr).ok (0 : Int) ([.cells [.sl false false (mC l)], .cells [I 0]] ++ [.defs, .loop .ready none fr 25 #[18] (asOf Try.f27 0) (bdOf Try.f27 0)]) := ⟨rfl, rfl, rfl⟩
      have hok : HOk (LPb 4) ([.cells [.sl false false (mC l)], .cells [I 0]] ++ [.defs, .loop .ready none fr 25 #[18] (asOf Try.f27 0) (bdOf Try.f27 0)]) := by
        have k1 := (HOk.nil (LP := LPb 4)).push (b := .cells [.sl false false (mC l)]) (by simp [blkN, AVal.bnd, bndL, mC_bnd])
        have k2 := k1.push (b := .cells [I 0]) rfl
        have k3 := k2.push (b := .defs) trivial
        exact k3.push (b := .loop .ready none fr 25 #[18] (asOf Try.f27 0) (bdOf Try.f27 0)) ⟨by simp, hbnd⟩
      have e2m : (2 * (m : Int)) = ((2 * m : Nat) : Int) := by omega
      rw [e2m]
      refine (s74 (c := cl27 l fr) (n := 2 * m) (by omega) (by omega) (y27 (by omega) f4 f5 hPl hP) (γ := (0 : Int)) (.mem piles_ok') trivial hok hcl (by simp)).mono ?_
      rintro v H' ⟨_, (c : Int), hval, hto⟩
      obtain ⟨k0, k1, kL⟩ := hto.ok
      have hlen := piles_len (show 2 * m ≤ 8 by omega)
      have hc : c = (((pilesA (2 * m)).filter fun D => Sp.possP D l).length : Nat) := by
        have hr := run_count (is := fun D => Sp.possP D l) (pilesA (2 * m)) 0 (by omega)
        have h0 : c = (run (fun (_ : Int) (_ : List Int) => true) (fun (k : Int) D => if Sp.possP D l then IntKind.i64.wrap (k + 1) else k) ((0 : Nat) : Int) (pilesA (2 * m))).1 := hval
        rw [hr] at h0
        simpa using h0
      have hm2 : H'[2]? = some .defs := by
        rw [hto.kept 2 (by simp) (fun h => by rcases h with h | h | h <;> omega)]; rfl
      refine ⟨.ready, none, kL, (fun h => by cases h), ?_⟩
      show KQ _ _ .norm _ _ _ _
      have e1 : (H'.set 3 .dead)[1]? = some (.cells [I c]) := by rw [List.getElem?_set_ne (by omega)]; exact k1
      simp only [w27T0, f5, e1, go_sem, Nat.reduceEqDiff, Nat.reduceAdd, Nat.reduceLT, Nat.reduceLeDiff, reduceIte, reduceCtorEq]
      exact leafM2 (H' := (H'.set 3 .dead).set 2 .dead) (.tup [I c, I 0]) (by simp [killM, hm2]) ⟨rfl, rfl, trivial⟩ ⟨rfl, by rw [hc]⟩
    · have z3 : decide (n > 3) = true := decide_eq_true (by omega)
      rw [decide_eq_false h3, Bool.and_false]
      simp only [w27, z1, z3, go_sem, Nat.reduceEqDiff, Nat.reduceAdd, Nat.reduceLT, Nat.reduceLeDiff, reduceIte, reduceCtorEq]
      exact leaf2 (.tup [I 0, I 2]) ⟨rfl, rfl, trivial⟩ ⟨rfl, rfl⟩
  · have z1 : decide (n < 1) = true := decide_eq_true (by omega)
    rw [decide_eq_false h1, Bool.false_and]
    simp only [w27, z1, go_sem, Nat.reduceEqDiff, Nat.reduceAdd, Nat.reduceLT, Nat.reduceLeDiff, reduceIte, reduceCtorEq]
    exact leaf2 (.tup [I 0, I 2]) ⟨rfl, rfl, trivial⟩ ⟨rfl, rfl⟩
end

set_option maxHeartbeats 1000000 in
theorem s36 {n : Nat} (h1 : 1 ≤ n) (h3 : n ≤ 3) : Abs.Spec Try.prog 36 [I n] [] fun v H' => H' = [] ∧ v = I (mapsN (Sp.planR n) n : Nat) := by
  refine Abs.Spec.walk mixed fn36 nn36 t36 q36 nt36 (by simp) ?_
  have hw : IntKind.i64.wrap (2 * (n : Int)) = ((2 * n : Nat) : Int) := by rw [wrap64 (by omega) (by omega)]; rfl
  simp only [w36, hw, go_sem, Nat.reduceEqDiff, Nat.reduceAdd, Nat.reduceLT, Nat.reduceLeDiff, reduceIte, reduceCtorEq]
  refine CallK.by (CallV.of_spec (all_ref (n := 2 * n) (by omega) (by omega))) fun v H' ⟨h1, h2⟩ => ?_
  subst h1 h2
  rw [mapsN]
  have hl := piles_len (show 2 * n ≤ 8 by omega)
  have hmem : ∀ D ∈ pilesA (2 * n), domN (2 * n) D := piles_ok'
  rw [piles_deals (show 2 * n ≤ 8 by omega)] at hl hmem ⊢
  generalize Sp.dealsR (2 * n) (2 * n) [] = L at hl hmem ⊢
  simp only [go_sem, Nat.reduceEqDiff, Nat.reduceAdd, Nat.reduceLT, Nat.reduceLeDiff, reduceIte, reduceCtorEq]
  refine W_loop (fun q : { i : Nat // i ≤ L.length } => ([(0, I n), (3, I (((L.take q.1).filter fun D => Sp.possP D (Sp.planR n)).length : Nat)), (8, .sl false false (mS L)), (9, I L.length), (10, I q.1)], [])) (fun q => L.length - q.1)
    ⟨0, by omega⟩ [] (Wk.nil (by simp [fle, vle, Fr.get, mS_bnd])) ?_
  rintro ⟨i, hi⟩
  dsimp only
  by_cases hil : i < L.length
  · have hz : decide ((i : Int) < L.length) = true := decide_eq_true (by omega)
    have hil' : (i : Int) < L.length := by omega
    have hwk : IntKind.i64.wrap ((i : Int) + 1) = ((i + 1 : Nat) : Int) := by rw [wrap64 (by omega) (by omega)]; rfl
    obtain ⟨D, hD⟩ : ∃ D, L.getD i [] = D := ⟨_, rfl⟩
    have hDm : D ∈ L := by rw [← hD, List.getD_eq_getElem?_getD, List.getElem?_eq_getElem hil]; exact List.getElem_mem _
    have hDl := hmem D hDm
    have htk : L.take (i + 1) = L.take i ++ [D] := by
      rw [List.take_add_one, List.getElem?_eq_getElem hil]
      rw [List.getD_eq_getElem?_getD, List.getElem?_eq_getElem hil] at hD
      simp at hD; rw [hD]; rfl
    have hsm := List.length_filter_le (fun D => Sp.possP D (Sp.planR n)) (L.take i)
    have htl : (L.take i).length ≤ L.length := by rw [List.length_take]; omega
    have hwc : IntKind.i64.wrap ((((L.take i).filter fun D => Sp.possP D (Sp.planR n)).length : Nat) + 1) = ((((L.take i).filter fun D => Sp.possP D (Sp.planR n)).length + 1 : Nat) : Int) := by rw [wrap64 (by omega) (by omega)]; rfl
    simp only [w36L0, hz, hil', mS_get, hil, hD, go_sem, Nat.reduceEqDiff, Nat.reduceAdd, Nat.reduceLT, Nat.reduceLeDiff, reduceIte, reduceCtorEq]
    refine CallK.by (CallV.of_spec (s37 false false D h1 (by omega) hDl.1 (fun x hx => by have := hDl.2 x hx; have := hDl.1; omega))) fun v H' ⟨e1, e2⟩ => ?_
    subst e1 e2
    simp only [go_sem, Nat.reduceEqDiff, Nat.reduceAdd, Nat.reduceLT, Nat.reduceLeDiff, reduceIte, reduceCtorEq]
    refine IC.split (fun h => ?_) fun h => ?_
    · have hf : ((L.take (i + 1)).filter fun D => Sp.possP D (Sp.planR n)).length = ((L.take i).filter fun D => Sp.possP D (Sp.planR n)).length + 1 := by
        rw [htk, List.filter_append]; simp [h]
      simp only [hwk, hwc, go_sem, Nat.reduceEqDiff, Nat.reduceAdd, Nat.reduceLT, Nat.reduceLeDiff, reduceIte, reduceCtorEq]
      refine round0 rfl ⟨i + 1, by omega⟩ (by dsimp only; omega) rfl ?_
      simp [fle, vle, Fr.get, mS_bnd, hf]
    · have hf : ((L.take (i + 1)).filter fun D => Sp.possP D (Sp.planR n)).length = ((L.take i).filter fun D => Sp.possP D (Sp.planR n)).length := by
        rw [htk, List.filter_append]; simp [h]
      simp only [hwk, go_sem, Nat.reduceEqDiff, Nat.reduceAdd, Nat.reduceLT, Nat.reduceLeDiff, reduceIte, reduceCtorEq]
      refine round0 rfl ⟨i + 1, by omega⟩ (by dsimp only; omega) rfl ?_
      simp [fle, vle, Fr.get, mS_bnd, hf]
  · have hz : decide ((i : Int) < L.length) = false := decide_eq_false (by omega)
    obtain rfl : i = L.length := by omega
    rw [List.take_length]
    simp only [w36L0, hz, w36T1, go_sem, Nat.reduceEqDiff, Nat.reduceAdd, Nat.reduceLT, Nat.reduceLeDiff, reduceIte, reduceCtorEq]
    exact leaf (I _) rfl ⟨rfl, rfl⟩
theorem maps_eq {n : Nat} (h3 : n ≤ 3) : mapsN (Sp.planP n) n = mapsN (Sp.planR n) n := by
  rw [mapsN, mapsN]
  congr 1
  exact List.filter_congr fun D hD => Sp.poss_map (by omega) ((mem_piles (by omega)).1 hD)
end Go.Proofs.Ythdjloegibenoaa
