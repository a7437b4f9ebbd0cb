/- Contracts: the first better deal; Contracts: the reference's first better deal, and its sets that block. -/
import Derived.Test.YtkmmngphcodjjaaBU
import Derived.Test.YtkmmngphcodjjaaPR
namespace Go.Proofs.Ytkmmngphcodjjaa
open Go.Abs AVal
set_option linter.unusedSimpArgs false
attribute [local go_sem] W_skip W_keep KQ_canon canon Fr.norm W_seq W_block W_exit W_ret W_ops W_draw KQ_nil KQ_norm_seq KQ_exit_seq KQ_ret_seq KQ_norm_block KQ_ret_block KQ_exit_block KQ_exit_loop KQ_ret_loop O_nil O_cons S_call S_mv SE_mv SD_mv S_pick SE_pick SD_pick S_bin SE_bin SD_bin S_eqb SE_eqb SD_eqb S_eqv SE_eqv SD_eqv S_eqnil SE_eqnil SD_eqnil S_un SE_un SD_un S_conv SE_conv SD_conv S_mkfn SE_mkfn SD_mkfn S_load SE_load SD_load S_nilck SE_nilck SD_nilck S_slS SE_slS SD_slS S_slP SE_slP SD_slP S_fldA SE_fldA SD_fldA S_fld SE_fld SD_fld S_ixS SE_ixS SD_ixS S_ixP SE_ixP SD_ixP S_ixV SE_ixV SD_ixV S_ixStr SE_ixStr SD_ixStr S_ext SE_ext SD_ext S_len SE_len SD_len S_lenStr SE_lenStr SD_lenStr S_lenc SE_lenc SD_lenc S_mn SE_mn SD_mn S_mx SE_mx SD_mx S_build SE_build SD_build S_alloc SD_alloc S_box SD_box S_bslice SD_bslice S_mksl SD_mksl S_store SD_store S_append SD_append S_copy SD_copy S_clr SD_clr aq_some aa_some al_some aqd_some aad_some ald_some ape_some D_done D_both D_early D_step SE_call SD_call IOpd.ev Fr.get Fr.put Fr.putd entryFr pickA binA binI isSh shI eqbA eqvA ints ints_mI Option.map_some eqnilA unA convA loadA nilckA intA slSA slPA fldAA fldVA ixSA ixPA ixVA ixStrA extA lenA lenStrA mnA mxA AVal.fits fillA fillOk buildA opa srcA appA stoA copA clrA rdFree zeros List.length_nil List.length_cons List.length_map List.map_cons List.map_nil Option.map_some Option.map_none if_true if_false ite_true ite_false true_and and_true and_self implies_true forall_const true_implies Bool.false_eq_true Bool.not_true Bool.not_false decide_eq_true_eq decide_eq_false_iff_not eq_self List.getElem?_cons_zero List.getElem?_cons_succ List.getElem?_nil List.set_cons_zero List.set_cons_succ List.nil_append List.cons_append List.append_nil List.replicate_zero List.replicate_succ Nat.zero_add false_implies rng_lt rng_end rng_get cells_I cells_B cells_sl cut_one Int.toNat_natCast Int.natCast_nonneg List.headD_cons Int.lt_irrefl not_false_eq_true decide_false decide_true mI_length mI_cells mI_sz mI_isCell mI_mid mI_append mI_take mI_drop cells_val cells_own cells_agg isCell_I isCell_B isCell_nil isCell_sl isCell_own isCell_ptr isCell_fn isCell_rp isCell_yld cellsOk_I cellsOk_B cellsOk_nil cellsOk_sl cellsOk_own cellsOk_ptr cellsOk_fn cellsOk_rp cellsOk_yld cellsOk_agg cells_nil cells_ptr cells_fn cells_rp List.all_cons List.all_nil Bool.and_true Nat.mul_one Nat.zero_mul Nat.one_mul List.take_zero List.take_nil List.drop_nil List.drop_zero List.not_mem_nil Nat.le_refl Nat.zero_le mS_length mS_cells mS_sz mS_isCell mS_mid mS_append mS_take mS_drop cells_sI isCell_sI cellsOk_sI sI_eq succ_le_self' List.take_succ_cons List.drop_succ_cons List.take_length beq_self_eq_true List.mem_cons or_false forall_eq mI_put mI_rep O_guard' D_earlyG' D_stepG' W_cond' G_tt G_tf G_ft G_ff GE_tt GE_tf GE_ft GE_ff GS_tt GS_tf GS_ft GS_ff G_u GE_u GS_u IC_t IC_f xft xff xtt xtf z00 z20 z22 z02 zz tn0

/-- What Waste answers. -/
def wasteO (w : List (List Int)) (d : List Int) : Option (List Int) := (Sp.allDeals w.length).find? (Sp.blkP w d (Sp.fullS w.length) false)
def wasteR (w : List (List Int)) (d : List Int) : AVal := match wasteO w d with
  | some o => .tup [.sl false false (mI o), I 0]
  | none => .tup [.sl false false (mI []), I 4]
def wasteA (w : List (List Int)) (d : List Int) : AVal := if Sp.valid w && Sp.isOrder d w.length then wasteR w d else .tup [.sl false false (mI []), I 2]

noncomputable def rng39 (st : LoopState) (pend : Option Code) (fr : Fr) : Blk := .loop st pend fr 48 #[28] (asOf Try.f39 0) (bdOf Try.f39 0)
noncomputable def Hp39 (w : List (List Int)) (d : List Int) (fr : Fr) : AHeap := [.cells [.sl false false (mS w)], .cells [.sl false false (mI d)], .cells [nilSl], .cells [I 0], .cells [.sl false false (mS w)], .defs, rng39 .ready none fr]
noncomputable def Hs39 (w : List (List Int)) (d : List Int) (fr : Fr) (o : List Int) : AHeap := [.cells [.sl false false (mS w)], .cells [.sl false false (mI d)], .cells [.sl false false (mI o)], .cells [I 0], .cells [.sl false false (mS w)], .defs, rng39 .done (some .ret) fr]
theorem ok39 {w : List (List Int)} {d : List Int} {fr : Fr} {B : Nat} (hb : (fr.all fun p => p.2.bnd B) = true) (o : List Int) : (∀ x ∈ Hp39 w d fr, blkOk B x = true) ∧ ∀ x ∈ Hs39 w d fr o, blkOk B x = true := by
  constructor <;> intro x hx <;> simp only [Hp39, Hs39, List.mem_cons, List.not_mem_nil, or_false] at hx <;> rcases hx with rfl | rfl | rfl | rfl | rfl | rfl | rfl <;> first | exact hb | simp [blkOk, bndL, AVal.bnd, mI_bnd, mS_bnd, vid]

set_option maxHeartbeats 2000000 in
theorem y39 {w : List (List Int)} {d : List Int} {fr : Fr} (g : Sp.Good w) (hd : d.length = w.length) (h2 : fr.get 2 = ptr 0 0) (h3 : fr.get 3 = ptr 1 0) (h4 : fr.get 4 = ptr 2 0) (h5 : fr.get 5 = ptr 3 0) (h6 : fr.get 6 = ptr 4 0) (hb : (fr.all fun p => p.2.bnd 11) = true) (set : Int) (D : List Int) (hD : DOk w.length set D) :
    CallV Try.prog (.yld 6) [.own 8 0 w.length w.length 1] (HS (Hp39 w d fr) 7 6 w.length set D) fun v H' => (Sp.blkP w d (Sp.fullS w.length) false D = false ∧ v = B true ∧ H' = HS (Hp39 w d fr) 7 6 w.length set D) ∨ (Sp.blkP w d (Sp.fullS w.length) false D = true ∧ v = B false ∧ H' = HS (Hs39 w d fr D) 7 6 w.length set D) := by
  have g1 := g.n1
  have g6 := g.n6
  have hDl := hD.len
  refine CallV.yldW mixed (L := 6) (fr := fr) (n := 48) (ps := [28]) rfl t39R0a t39R0b rfl (by simp) ?_
  simp only [w39R0a, putArgs, go_sem, Nat.reduceEqDiff, Nat.reduceAdd, Nat.reduceLT, Nat.reduceLeDiff, reduceIte, reduceCtorEq]
  refine ⟨rfl, ?_⟩
  have hlend : ∀ H' : AHeap, H'[8]? = some (.cells (mI D)) → vle.vleL H' [] [] 3 [.own 8 0 w.length w.length 1] [.sl false false (mI D)] := fun H' hH => ⟨vle_mI hH (by simp) hDl.symm (by rw [← hDl, take_mI]), trivial⟩
  simp only [w39R0b, HS, Hp39, rng39, h2, h3, h6, go_sem, Nat.reduceEqDiff, Nat.reduceAdd, Nat.reduceLT, Nat.reduceLeDiff, reduceIte, reduceCtorEq]
  have hcn := Sp.countN_le w (Sp.fullS w.length) D d w.length
  have hP : Sp.blkP w d (Sp.fullS w.length) false D = (Sp.worseN w (Sp.fullS w.length) D d w.length == 0 && decide (0 < Sp.betterN w (Sp.fullS w.length) D d w.length)) := by
    unfold Sp.blkP
    rw [Bool.not_false, Bool.true_or, Bool.and_true]
  have go : ∀ x, Sp.blkP w d (Sp.fullS w.length) false D = x → ∃ ρ H3, Wk 11 [] ρ [] (HS (if x then Hs39 w d fr D else Hp39 w d fr) 7 6 w.length set D) [] H3 ∧ ((Sp.blkP w d (Sp.fullS w.length) false D = false ∧ B (!x) = B true ∧ H3 = HS (Hp39 w d fr) 7 6 w.length set D) ∨ (Sp.blkP w d (Sp.fullS w.length) false D = true ∧ B (!x) = B false ∧ H3 = HS (Hs39 w d fr D) 7 6 w.length set D)) := fun x h => by
    cases x with
    | false => exact ⟨idρ 11, _, WkB (B := 11) rfl (HS_ok D (by omega) (ok39 hb D).1) (by simp), .inl ⟨h, rfl, rfl⟩⟩
    | true => exact ⟨idρ 11, _, WkB (B := 11) rfl (HS_ok D (by omega) (ok39 hb D).2) (by simp), .inr ⟨h, rfl, rfl⟩⟩
  refine CallKD.by (CallV.of_spec (Spec.lend (s67 false false false false false false w (Sp.fullS w.length) D d g hDl hd) rfl ⟨⟨mS_bnd, fun h => h, fun h => h, rfl⟩, rfl, (hlend _ rfl).1, ⟨mI_bnd, fun h => h, fun h => h, rfl⟩, trivial⟩)) fun v H' ⟨q1, q2⟩ => ?_
  subst q1 q2
  generalize Sp.worseN w (Sp.fullS w.length) D d w.length = Wn at hP hcn
  generalize Sp.betterN w (Sp.fullS w.length) D d w.length = Bn at hP hcn
  have e0 : ((Wn : Int) == 0) = (Wn == 0) := by rw [Bool.eq_iff_iff, beq_iff_eq, beq_iff_eq]; omega
  have e1 : decide ((Bn : Int) > 0) = decide (0 < Bn) := decide_eq_decide.2 (by omega)
  have e1' : decide (0 < (Bn : Int)) = decide (0 < Bn) := decide_eq_decide.2 (by omega)
  simp only [List.getD_cons_zero, List.getD_cons_succ, e0, e1, e1', go_sem, Nat.reduceEqDiff, Nat.reduceAdd, Nat.reduceLT, Nat.reduceLeDiff, reduceIte, reduceCtorEq]
  refine G.split (fun hw => ?_) fun hw => ?_
  · rw [hw, Bool.true_and] at hP
    simp only [e1, e1', go_sem, Nat.reduceEqDiff, Nat.reduceAdd, Nat.reduceLT, Nat.reduceLeDiff, reduceIte, reduceCtorEq]
    refine IC.split (fun h1 => ?_) fun h1 => ?_
    · rw [h1] at hP
      simp only [go_sem, Nat.reduceEqDiff, Nat.reduceAdd, Nat.reduceLT, Nat.reduceLeDiff, reduceIte, reduceCtorEq]
      refine CallK.pure (CallV.of_spec (Spec.lendInts (s43o false D (by omega) (by omega)) (hlend _ rfl))) ?_
      simp only [h4, h5, go_sem, Nat.reduceEqDiff, Nat.reduceAdd, Nat.reduceLT, Nat.reduceLeDiff, reduceIte, reduceCtorEq]
      exact go true hP
    · rw [h1] at hP
      simp only [go_sem, Nat.reduceEqDiff, Nat.reduceAdd, Nat.reduceLT, Nat.reduceLeDiff, reduceIte, reduceCtorEq]
      exact go false hP
  · rw [hw, Bool.false_and] at hP
    simp only [go_sem, Nat.reduceEqDiff, Nat.reduceAdd, Nat.reduceLT, Nat.reduceLeDiff, reduceIte, reduceCtorEq]
    exact go false hP

set_option maxHeartbeats 2000000 in
theorem s39r {w : List (List Int)} {d : List Int} {fr : Fr} (g : Sp.Good w) (hd : d.length = w.length) (h2 : fr.get 2 = ptr 0 0) (h3 : fr.get 3 = ptr 1 0) (h4 : fr.get 4 = ptr 2 0) (h5 : fr.get 5 = ptr 3 0) (h6 : fr.get 6 = ptr 4 0) (h27 : fr.get 27 = .fn (.func 82) [] [.rp [I w.length], .rp [I (Sp.fullS w.length)]])
    (hb7 : (fr.all fun p => p.2.bnd 7) = true) (hb11 : (fr.all fun p => p.2.bnd 11) = true) :
    W ⟨Try.prog, 0, 48, true⟩ (retA 0 r39 fun v H' => H' = [] ∧ v = wasteR w d) (.range (.t 27) [28] (asOf Try.f39 0) (bdOf Try.f39 0)) [.block 0, .seq c39T0] fr
      [.cells [.sl false false (mS w)], .cells [.sl false false (mI d)], .cells [nilSl], .cells [I 0], .cells [.sl false false (mS w)]] [] := by
  refine W_range rfl h27 ((s82 (Hp := Hp39 w d fr) (Hs := Hs39 w d fr) (b := 7) (L := 6) (n := w.length) (set := Sp.fullS w.length) (p := Sp.blkP w d (Sp.fullS w.length) false) rfl (by omega) g.n1 g.n6 (ok39 hb7 []).1 (ok39 hb11 []).1 (fun _ => rfl) (fun o => (ok39 hb7 o).2) (fun o => (ok39 hb11 o).2) (fun D hD => y39 g hd h2 h3 h4 h5 h6 hb11 _ D hD)).mono fun v H' hv => ?_)
  rw [Sp.comps_all g.n6] at hv
  unfold allR at hv
  unfold wasteR wasteO
  cases hf : (Sp.allDeals w.length).find? (Sp.blkP w d (Sp.fullS w.length) false) with
  | none =>
    rw [hf] at hv
    dsimp only at hv
    subst hv
    refine ⟨.ready, none, rfl, (fun h => by cases h), ?_⟩
    show KQ _ _ .norm _ _ _ _
    simp only [Hp39, w39T0, h4, h5, go_sem, Nat.reduceEqDiff, Nat.reduceAdd, Nat.reduceLT, Nat.reduceLeDiff, reduceIte, reduceCtorEq]
    exact leafCC nilSl (I 4) (.tup [.sl false false (mI []), I 4]) (p := 0 + 1 ≤ 1 ∧ (false = false → 1 = 1)) (q := 0 + 1 ≤ 1 ∧ (false = false → 1 = 1)) rfl (by rw [h4]; rfl) (by rw [h5]; rfl) ⟨by simp, by simp⟩ ⟨by simp, by simp⟩ ⟨⟨mI_bnd, rfl, rfl⟩, rfl, trivial⟩ ⟨rfl, rfl⟩
  | some o =>
    rw [hf] at hv
    dsimp only at hv
    subst hv
    refine ⟨.done, some .ret, rfl, (fun h => by cases h), ?_⟩
    show KQ _ _ .ret _ _ _ _
    simp only [Hs39, go_sem, Nat.reduceEqDiff, Nat.reduceAdd, Nat.reduceLT, Nat.reduceLeDiff, reduceIte, reduceCtorEq]
    exact leafCC (.sl false false (mI o)) (I 0) (.tup [.sl false false (mI o), I 0]) (p := 0 + 1 ≤ 1 ∧ (false = false → 1 = 1)) (q := 0 + 1 ≤ 1 ∧ (false = false → 1 = 1)) rfl (by rw [h4]; rfl) (by rw [h5]; rfl) ⟨by simp, by simp⟩ ⟨by simp, by simp⟩ ⟨⟨mI_bnd, fun h => h, fun h => h, rfl⟩, rfl, trivial⟩ ⟨rfl, rfl⟩

set_option maxHeartbeats 2000000 in
theorem s39 (w : List (List Int)) (d : List Int) (hw : ∀ l ∈ w, l.length < 9223372036854775808) (hl : w.length < 9223372036854775808) (hd : d.length < 9223372036854775808) :
    Abs.Spec Try.prog 39 [.sl false false (mS w), .sl false false (mI d)] [] fun v H' => H' = [] ∧ v = wasteA w d := by
  refine Abs.Spec.walk mixed fn39 nn39 t39 q39 nt39 (by simp) ?_
  have eBad : (Sp.valid w && Sp.isOrder d w.length) = false → wasteA w d = .tup [.sl false false (mI []), I 2] := fun h => by rw [wasteA, h]; rfl
  simp only [w39R0a, w39R0b, w39T0, w39, go_sem, Nat.reduceEqDiff, Nat.reduceAdd, Nat.reduceLT, Nat.reduceLeDiff, reduceIte, reduceCtorEq]
  refine CallK.pure (liftV (s55 false false w hw hl) (by simp [bndL, AVal.bnd, mS_bnd]) rfl _) ?_
  simp only [go_sem, Nat.reduceEqDiff, Nat.reduceAdd, Nat.reduceLT, Nat.reduceLeDiff, reduceIte, reduceCtorEq]
  refine G.split (fun hv => ?_) fun hv => ?_
  · have hv : Sp.valid w = false := by simpa using hv
    simp only [go_sem, Nat.reduceEqDiff, Nat.reduceAdd, Nat.reduceLT, Nat.reduceLeDiff, reduceIte, reduceCtorEq]
    exact leafCC nilSl (I 2) (.tup [.sl false false (mI []), I 2]) rfl rfl rfl ⟨by simp, by simp⟩ ⟨by simp, by simp⟩ ⟨⟨mI_bnd, rfl, rfl⟩, rfl, trivial⟩ ⟨rfl, (eBad (by rw [hv]; rfl)).symm⟩
  have hv : Sp.valid w = true := by simpa using hv
  have g := Sp.valid_good hv
  have g1 := g.n1
  have g6 := g.n6
  simp only [go_sem, Nat.reduceEqDiff, Nat.reduceAdd, Nat.reduceLT, Nat.reduceLeDiff, reduceIte, reduceCtorEq]
  refine CallK.pure (liftV (s59 false false d w.length hd) (by simp [bndL, AVal.bnd, mI_bnd]) rfl _) ?_
  simp only [go_sem, Nat.reduceEqDiff, Nat.reduceAdd, Nat.reduceLT, Nat.reduceLeDiff, reduceIte, reduceCtorEq]
  refine IC.split (fun ha => ?_) fun ha => ?_
  · have ha : Sp.isOrder d w.length = false := by simpa using ha
    simp only [go_sem, Nat.reduceEqDiff, Nat.reduceAdd, Nat.reduceLT, Nat.reduceLeDiff, reduceIte, reduceCtorEq]
    exact leafCC nilSl (I 2) (.tup [.sl false false (mI []), I 2]) rfl rfl rfl ⟨by simp, by simp⟩ ⟨by simp, by simp⟩ ⟨⟨mI_bnd, rfl, rfl⟩, rfl, trivial⟩ ⟨rfl, (eBad (by rw [hv, ha]; rfl)).symm⟩
  have ha : Sp.isOrder d w.length = true := by simpa using ha
  have hA : wasteA w d = wasteR w d := by rw [wasteA, hv, ha]; rfl
  rw [hA]
  simp only [go_sem, Nat.reduceEqDiff, Nat.reduceAdd, Nat.reduceLT, Nat.reduceLeDiff, reduceIte, reduceCtorEq]
  refine CallKD.pure (liftV (s63 w.length (Sp.fullS w.length)) (by simp [bndL, AVal.bnd]) (by simp [bndL, AVal.bnd])) ?_
  simp only [go_sem, Nat.reduceEqDiff, Nat.reduceAdd, Nat.reduceLT, Nat.reduceLeDiff, reduceIte, reduceCtorEq]
  exact s39r g (Sp.order_spec g6 ha).1 rfl rfl rfl rfl rfl rfl (by simp [AVal.bnd, bndL, mI_bnd, mS_bnd]) (by simp [AVal.bnd, bndL, mI_bnd, mS_bnd])
end Go.Proofs.Ytkmmngphcodjjaa

namespace Go.Proofs.Ytkmmngphcodjjaa
open Go.Abs AVal
set_option linter.unusedSimpArgs false
attribute [local go_sem] W_skip W_keep KQ_canon canon Fr.norm W_seq W_block W_exit W_ret W_ops W_draw KQ_nil KQ_norm_seq KQ_exit_seq KQ_ret_seq KQ_norm_block KQ_ret_block KQ_exit_block KQ_exit_loop KQ_ret_loop O_nil O_cons S_call S_mv SE_mv SD_mv S_pick SE_pick SD_pick S_bin SE_bin SD_bin S_eqb SE_eqb SD_eqb S_eqv SE_eqv SD_eqv S_eqnil SE_eqnil SD_eqnil S_un SE_un SD_un S_conv SE_conv SD_conv S_mkfn SE_mkfn SD_mkfn S_load SE_load SD_load S_nilck SE_nilck SD_nilck S_slS SE_slS SD_slS S_slP SE_slP SD_slP S_fldA SE_fldA SD_fldA S_fld SE_fld SD_fld S_ixS SE_ixS SD_ixS S_ixP SE_ixP SD_ixP S_ixV SE_ixV SD_ixV S_ixStr SE_ixStr SD_ixStr S_ext SE_ext SD_ext S_len SE_len SD_len S_lenStr SE_lenStr SD_lenStr S_lenc SE_lenc SD_lenc S_mn SE_mn SD_mn S_mx SE_mx SD_mx S_build SE_build SD_build S_alloc SD_alloc S_box SD_box S_bslice SD_bslice S_mksl SD_mksl S_store SD_store S_append SD_append S_copy SD_copy S_clr SD_clr aq_some aa_some al_some aqd_some aad_some ald_some ape_some D_done D_both D_early D_step SE_call SD_call IOpd.ev Fr.get Fr.put Fr.putd entryFr pickA binA binI isSh shI eqbA eqvA ints ints_mI Option.map_some eqnilA unA convA loadA nilckA intA slSA slPA fldAA fldVA ixSA ixPA ixVA ixStrA extA lenA lenStrA mnA mxA AVal.fits fillA fillOk buildA opa srcA appA stoA copA clrA rdFree zeros List.length_nil List.length_cons List.length_map List.map_cons List.map_nil Option.map_some Option.map_none if_true if_false ite_true ite_false true_and and_true and_self implies_true forall_const true_implies Bool.false_eq_true Bool.not_true Bool.not_false decide_eq_true_eq decide_eq_false_iff_not eq_self List.getElem?_cons_zero List.getElem?_cons_succ List.getElem?_nil List.set_cons_zero List.set_cons_succ List.nil_append List.cons_append List.append_nil List.replicate_zero List.replicate_succ Nat.zero_add false_implies rng_lt rng_end rng_get cells_I cells_B cells_sl cut_one Int.toNat_natCast Int.natCast_nonneg List.headD_cons Int.lt_irrefl not_false_eq_true decide_false decide_true mI_length mI_cells mI_sz mI_isCell mI_mid mI_append mI_take mI_drop cells_val cells_own cells_agg isCell_I isCell_B isCell_nil isCell_sl isCell_own isCell_ptr isCell_fn isCell_rp isCell_yld cellsOk_I cellsOk_B cellsOk_nil cellsOk_sl cellsOk_own cellsOk_ptr cellsOk_fn cellsOk_rp cellsOk_yld cellsOk_agg cells_nil cells_ptr cells_fn cells_rp List.all_cons List.all_nil Bool.and_true Nat.mul_one Nat.zero_mul Nat.one_mul List.take_zero List.take_nil List.drop_nil List.drop_zero List.not_mem_nil Nat.le_refl Nat.zero_le mS_length mS_cells mS_sz mS_isCell mS_mid mS_append mS_take mS_drop cells_sI isCell_sI cellsOk_sI sI_eq succ_le_self' List.take_succ_cons List.drop_succ_cons List.take_length beq_self_eq_true List.mem_cons or_false forall_eq mI_put mI_rep O_guard' D_earlyG' D_stepG' W_cond' G_tt G_tf G_ft G_ff GE_tt GE_tf GE_ft GE_ff GS_tt GS_tf GS_ft GS_ff G_u GE_u GS_u IC_t IC_f xft xff xtt xtf z00 z20 z22 z02 zz tn0

set_option maxHeartbeats 2000000 in
theorem s42 (w : List (List Int)) (d : List Int) (g : Sp.Good w) (hd : d.length = w.length) (hdr : ∀ x ∈ d, 0 ≤ x ∧ x < w.length) :
    Abs.Spec Try.prog 42 [.sl false false (mS w), .sl false false (mI d)] [] fun v H' => H' = [] ∧ v = wasteR w d := by
  have g1 := g.n1
  have g6 := g.n6
  obtain ⟨m, hm⟩ : ∃ m, m + 1 = w.length := ⟨w.length - 1, by omega⟩
  have hcall := s64nil (n := w.length) g6 m hm
  have hall : Sp.dealsR w.length (m + 1) [] = Sp.allDeals w.length := by rw [hm]; rfl
  rw [hall] at hcall
  have hAl : (Sp.allDeals w.length).length ≤ 6 ^ 6 := Nat.le_trans (deals_len g6 w.length []) (Nat.pow_le_pow_right (by omega) g6)
  have hat : ∀ (i : Nat) (x : Int), i < w.length → 0 ≤ x → x < w.length → ∀ H, CallV Try.prog (.fn (.func 24) [] []) [.sl false false (mS w), I i, I x] H fun v' H' => v' = I (Sp.pos w i x) ∧ H' = H := fun i x hi h0 hx => by
    have hgl := g.len _ (Sp.getD_mem (d := []) hi)
    obtain ⟨c, rfl⟩ : ∃ c : Nat, x = c := ⟨x.toNat, by omega⟩
    exact liftV (s24 false false w i c hi (g.cov _ (Sp.getD_mem hi) c (by omega)) (by omega)) (by simp [bndL, AVal.bnd, mS_bnd]) rfl
  refine Abs.Spec.walk mixed fn42 nn42 t42 q42 nt42 (by simp) ?_
  simp only [w42, go_sem, Nat.reduceEqDiff, Nat.reduceAdd, Nat.reduceLT, Nat.reduceLeDiff, reduceIte, reduceCtorEq]
  refine CallK.by (CallV.of_spec hcall) fun v H' ⟨h1, h2⟩ => ?_
  subst h1 h2
  simp only [go_sem, Nat.reduceEqDiff, Nat.reduceAdd, Nat.reduceLT, Nat.reduceLeDiff, reduceIte, reduceCtorEq]
  refine W_loop (fun q : { q : List (List Int) × List (List Int) // q.1 ++ q.2 = Sp.allDeals w.length ∧ q.1.find? (Sp.blkP w d (Sp.fullS w.length) false) = none } => ([(0, .sl false false (mS w)), (1, .sl false false (mI d)), (16, .sl false false (mS (Sp.allDeals w.length))), (17, I (Sp.allDeals w.length).length), (18, I q.1.1.length)], [])) (fun q => q.1.2.length)
    ⟨([], _), rfl, rfl⟩ [] (Wk.nil (by simp [fle, vle, Fr.get, mS_bnd, mI_bnd])) ?_
  rintro ⟨⟨pre, suf⟩, hp, hnone⟩
  dsimp only at hp hnone
  have hlen : (pre ++ suf).length < 9223372036854775808 := by rw [hp]; omega
  simp only [← hp]
  cases suf with
  | nil =>
    have hP : wasteO w d = none := by rw [wasteO, ← hp, List.append_nil]; exact hnone
    simp only [w42L0, w42T4, go_sem, Nat.reduceEqDiff, Nat.reduceAdd, Nat.reduceLT, Nat.reduceLeDiff, reduceIte, reduceCtorEq]
    exact leaf2 (.tup [.sl false false (mI []), I 4]) ⟨⟨mI_bnd, rfl, rfl⟩, rfl, trivial⟩ ⟨rfl, by rw [wasteR, hP]⟩
  | cons o suf =>
    have ho : o ∈ Sp.allDeals w.length := by rw [← hp]; simp
    obtain ⟨hol, hor⟩ := Sp.all_ok ho
    simp only [w42L0, go_sem, Nat.reduceEqDiff, Nat.reduceAdd, Nat.reduceLT, Nat.reduceLeDiff, reduceIte, reduceCtorEq]
    refine W_loop (fun q : { i : Nat // i ≤ w.length } => ([(0, .sl false false (mS w)), (1, .sl false false (mI d)), (7, .sl false false (mI o)), (8, B (Sp.goodN w d o q.1)), (9, B (Sp.betN w d o q.1)), (16, .sl false false (mS (pre ++ o :: suf))), (17, I (pre ++ o :: suf).length), (18, I pre.length), (22, .sl false false (mI o)), (23, I o.length), (24, I q.1)], [])) (fun q => w.length - q.1)
      ⟨0, by omega⟩ [] (Wk.nil (by simp [fle, vle, Fr.get, mS_bnd, mI_bnd, Sp.goodN, Sp.betN])) ?_
    rintro ⟨i, hin⟩
    dsimp only
    by_cases hi : i < w.length
    · have hz : decide ((i : Int) < o.length) = true := decide_eq_true (by omega)
      have hio : i < o.length := by omega
      have hid : i < d.length := by omega
      have hwi : IntKind.i64.wrap ((i : Int) + 1) = i + 1 := wrap64 (by omega) (by omega)
      obtain ⟨x, hx⟩ : ∃ x, o.getD i 0 = x := ⟨_, rfl⟩
      obtain ⟨y, hy⟩ : ∃ y, d.getD i 0 = y := ⟨_, rfl⟩
      have hxr := hor x (by rw [← hx]; exact Sp.getD_mem hio)
      have hyr := hdr y (by rw [← hy]; exact Sp.getD_mem hid)
      have hgs := Sp.goodN_succ w d o i
      have hbs := Sp.betN_succ w d o i
      unfold Sp.lessAt at hbs
      rw [hx, hy] at hgs hbs
      simp only [w42L1, hz, mI_get, mI_hd, hio, hid, hx, hy, go_sem, Nat.reduceEqDiff, Nat.reduceAdd, Nat.reduceLT, Nat.reduceLeDiff, reduceIte, reduceCtorEq]
      refine ⟨by omega, by simp, ?_⟩
      refine CallKD.pure (hat i x hi hxr.1 hxr.2) ?_
      simp only [mI_get, mI_hd, hid, hy, go_sem, Nat.reduceEqDiff, Nat.reduceAdd, Nat.reduceLT, Nat.reduceLeDiff, reduceIte, reduceCtorEq]
      refine ⟨by omega, ?_⟩
      refine CallKD.pure (hat i y hi hyr.1 hyr.2) ?_
      simp only [go_sem, Nat.reduceEqDiff, Nat.reduceAdd, Nat.reduceLT, Nat.reduceLeDiff, reduceIte, reduceCtorEq]
      refine G.split (fun h => ?_) fun h => ?_
      · rw [h, Bool.true_and] at hgs
        simp only [go_sem, Nat.reduceEqDiff, Nat.reduceAdd, Nat.reduceLT, Nat.reduceLeDiff, reduceIte, reduceCtorEq]
        refine G.split (fun h2 => ?_) fun h2 => ?_
        · rw [h2, Bool.true_or] at hbs
          simp only [go_sem, Nat.reduceEqDiff, Nat.reduceAdd, Nat.reduceLT, Nat.reduceLeDiff, reduceIte, reduceCtorEq]
          refine round0 rfl ⟨i + 1, by omega⟩ (by dsimp only; omega) rfl ?_
          dsimp only
          rw [hgs, hbs]
          simp [fle, vle, Fr.get, mS_bnd, mI_bnd, hwi]
        · rw [h2, Bool.false_or] at hbs
          simp only [go_sem, Nat.reduceEqDiff, Nat.reduceAdd, Nat.reduceLT, Nat.reduceLeDiff, reduceIte, reduceCtorEq]
          refine round0 rfl ⟨i + 1, by omega⟩ (by dsimp only; omega) rfl ?_
          dsimp only
          rw [hgs, hbs]
          simp [fle, vle, Fr.get, mS_bnd, mI_bnd, hwi]
      · rw [h, Bool.false_and] at hgs
        simp only [go_sem, Nat.reduceEqDiff, Nat.reduceAdd, Nat.reduceLT, Nat.reduceLeDiff, reduceIte, reduceCtorEq]
        refine G.split (fun h2 => ?_) fun h2 => ?_
        · rw [h2, Bool.true_or] at hbs
          simp only [go_sem, Nat.reduceEqDiff, Nat.reduceAdd, Nat.reduceLT, Nat.reduceLeDiff, reduceIte, reduceCtorEq]
          refine round0 rfl ⟨i + 1, by omega⟩ (by dsimp only; omega) rfl ?_
          dsimp only
          rw [hgs, hbs]
          simp [fle, vle, Fr.get, mS_bnd, mI_bnd, hwi]
        · rw [h2, Bool.false_or] at hbs
          simp only [go_sem, Nat.reduceEqDiff, Nat.reduceAdd, Nat.reduceLT, Nat.reduceLeDiff, reduceIte, reduceCtorEq]
          refine round0 rfl ⟨i + 1, by omega⟩ (by dsimp only; omega) rfl ?_
          dsimp only
          rw [hgs, hbs]
          simp [fle, vle, Fr.get, mS_bnd, mI_bnd, hwi]
    · have hz : decide ((i : Int) < o.length) = false := decide_eq_false (by omega)
      obtain rfl : i = w.length := by omega
      have hP := Sp.waste_eq (w := w) (d := d) (o := o) g6
      simp only [w42L1, hz, w42T2, go_sem, Nat.reduceEqDiff, Nat.reduceAdd, Nat.reduceLT, Nat.reduceLeDiff, reduceIte, reduceCtorEq]
      refine G.split (fun h => ?_) fun h => ?_
      · rw [h, Bool.true_and] at hP
        simp only [go_sem, Nat.reduceEqDiff, Nat.reduceAdd, Nat.reduceLT, Nat.reduceLeDiff, reduceIte, reduceCtorEq]
        refine IC.split (fun h2 => ?_) fun h2 => ?_
        · have hP : wasteO w d = some o := by
            rw [wasteO, ← hp, List.find?_append, hnone, List.find?_cons, hP, h2]; rfl
          simp only [go_sem, Nat.reduceEqDiff, Nat.reduceAdd, Nat.reduceLT, Nat.reduceLeDiff, reduceIte, reduceCtorEq]
          exact leaf2 (.tup [.sl false false (mI o), I 0]) ⟨⟨mI_bnd, fun h => h, fun h => h, rfl⟩, rfl, trivial⟩ ⟨rfl, by rw [wasteR, hP]⟩
        · simp only [w42T3, go_sem, Nat.reduceEqDiff, Nat.reduceAdd, Nat.reduceLT, Nat.reduceLeDiff, reduceIte, reduceCtorEq]
          refine round0 rfl ⟨(pre ++ [o], suf), by simp [hp], by rw [List.find?_append, hnone, List.find?_cons, hP, h2]; rfl⟩ (by simp) rfl ?_
          simp [fle, vle, Fr.get, mS_bnd, mI_bnd, rng_idx' hlen, hp]
      · rw [h, Bool.false_and] at hP
        simp only [w42T3, go_sem, Nat.reduceEqDiff, Nat.reduceAdd, Nat.reduceLT, Nat.reduceLeDiff, reduceIte, reduceCtorEq]
        refine round0 rfl ⟨(pre ++ [o], suf), by simp [hp], by rw [List.find?_append, hnone, List.find?_cons, hP]; rfl⟩ (by simp) rfl ?_
        simp [fle, vle, Fr.get, mS_bnd, mI_bnd, rng_idx' hlen, hp]

set_option maxHeartbeats 4000000 in
theorem s85 (w : List (List Int)) (d : List Int) (set : Int) (st : Bool) (g : Sp.Good w) (hd : d.length = w.length) (hdr : ∀ x ∈ d, 0 ≤ x ∧ x < w.length) :
    ∀ (m i : Nat) (cards : Int) (better : Bool), i + m = w.length → Sp.isSet cards → Abs.Spec Try.prog 85 [.sl false false (mS w), .sl false false (mI d), I set, I cards, I i, B better, B st] [] fun v H' => H' = [] ∧ v = B (Sp.refB w d set st m i cards better) := by
  have g1 := g.n1
  have g6 := g.n6
  have hat : ∀ (i : Nat) (x : Int), i < w.length → 0 ≤ x → x < w.length → ∀ H, CallV Try.prog (.fn (.func 24) [] []) [.sl false false (mS w), I i, I x] H fun v' H' => v' = I (Sp.pos w i x) ∧ H' = H := fun i x hi h0 hx => by
    have hgl := g.len _ (Sp.getD_mem (d := []) hi)
    obtain ⟨c, rfl⟩ : ∃ c : Nat, x = c := ⟨x.toNat, by omega⟩
    exact liftV (s24 false false w i c hi (g.cov _ (Sp.getD_mem hi) c (by omega)) (by omega)) (by simp [bndL, AVal.bnd, mS_bnd]) rfl
  intro m
  induction m using Nat.strongRecOn with
  | _ m ih =>
  intro i cards better him hcs
  refine Abs.Spec.walk mixed fn85 nn85 t85 q85 nt85 (by simp) ?_
  simp only [w85, go_sem, Nat.reduceEqDiff, Nat.reduceAdd, Nat.reduceLT, Nat.reduceLeDiff, reduceIte, reduceCtorEq]
  refine W_loop (fun q : { i' : Nat // i ≤ i' ∧ i' ≤ w.length ∧ Sp.refB w d set st (w.length - i') i' cards better = Sp.refB w d set st m i cards better } => ([(0, .sl false false (mS w)), (1, .sl false false (mI d)), (2, I set), (3, I cards), (4, I q.1), (5, B better), (6, B st)], [])) (fun q => w.length - q.1)
    ⟨i, Nat.le_refl _, by omega, by rw [show w.length - i = m by omega]⟩ [] (Wk.nil (by simp [fle, vle, Fr.get, mS_bnd, mI_bnd])) ?_
  rintro ⟨i', hi1, hi2, hR⟩
  dsimp only
  by_cases hi : i' < w.length
  · have hz : decide ((i' : Int) < w.length) = true := decide_eq_true (by omega)
    have hz2 : ((i' : Int) == w.length) = false := by rw [beq_eq_false_iff_ne]; omega
    have hwi : IntKind.i64.wrap ((i' : Int) + 1) = ((i' + 1 : Nat) : Int) := by rw [wrap64 (by omega) (by omega)]; rfl
    obtain ⟨k, hk⟩ : ∃ k, w.length - i' = k + 1 := ⟨w.length - i' - 1, by omega⟩
    rw [hk] at hR
    simp only [w85L0, hz, go_sem, Nat.reduceEqDiff, Nat.reduceAdd, Nat.reduceLT, Nat.reduceLeDiff, reduceIte, reduceCtorEq]
    refine IC.split (fun ho => ?_) fun ho => ?_
    · have ho : Sp.outS set i' = true := ho
      simp only [hwi, go_sem, Nat.reduceEqDiff, Nat.reduceAdd, Nat.reduceLT, Nat.reduceLeDiff, reduceIte, reduceCtorEq]
      refine round0 rfl ⟨i' + 1, by omega, by omega, by rw [← hR, show w.length - (i' + 1) = k by omega]; conv => rhs; rw [Sp.refB, if_pos ho]⟩ (by dsimp only; omega) rfl ?_
      simp [fle, vle, Fr.get, mS_bnd, mI_bnd]
    · have ho : Sp.outS set i' = false := ho
      have hid : i' < d.length := by omega
      obtain ⟨y, hy⟩ : ∃ y, d.getD i' 0 = y := ⟨_, rfl⟩
      have hyr := hdr y (by rw [← hy]; exact Sp.getD_mem hid)
      obtain ⟨P, hP⟩ : ∃ P : Nat → Bool, P = fun (c : Nat) => (Sp.bitAt cards (c : Int) == 1) && ((decide (Sp.pos w i' c < Sp.pos w i' y) || (Sp.pos w i' c == Sp.pos w i' y && !st)) && Sp.refB w d set st k (i' + 1) (Sp.butI cards (Sp.shl1 c)) (better || decide (Sp.pos w i' c < Sp.pos w i' y))) := ⟨_, rfl⟩
      have hR : (List.range w.length).any P = Sp.refB w d set st m i cards better := by
        rw [← hR, Sp.refB, if_neg (by rw [ho]; simp), hP, hy]
      simp only [w85T1, hz2, go_sem, Nat.reduceEqDiff, Nat.reduceAdd, Nat.reduceLT, Nat.reduceLeDiff, reduceIte, reduceCtorEq]
      refine W_loop (fun q : { c : Nat // c ≤ w.length ∧ (List.range c).any P = false } => ([(0, .sl false false (mS w)), (1, .sl false false (mI d)), (2, I set), (3, I cards), (4, I i'), (5, B better), (6, B st), (37, I w.length), (38, I q.1)], [])) (fun q => w.length - q.1)
        ⟨0, by omega, rfl⟩ [] (Wk.nil (by simp [fle, vle, Fr.get, mS_bnd, mI_bnd])) ?_
      rintro ⟨c, hcn, hno⟩
      dsimp only
      by_cases hc : c < w.length
      · have hzc : decide ((c : Int) < w.length) = true := decide_eq_true (by omega)
        have hwc : IntKind.i64.wrap ((c : Int) + 1) = c + 1 := wrap64 (by omega) (by omega)
        have hsucc : (List.range (c + 1)).any P = P c := by rw [List.range_succ, List.any_append, hno]; simp
        have hrun : P c = true → (List.range w.length).any P = true := fun h => List.any_eq_true.2 ⟨c, List.mem_range.2 hc, h⟩
        simp only [w85L2, hzc, go_sem, Nat.reduceEqDiff, Nat.reduceAdd, Nat.reduceLT, Nat.reduceLeDiff, reduceIte, reduceCtorEq]
        refine IC.split (fun hb => ?_) fun hb => ?_
        · have hPc : P c = false := by
            rw [hP]
            have hb : (Sp.bitAt cards (c : Int) == 0) = true := hb
            have : (Sp.bitAt cards (c : Int) == 1) = false := by
              rw [beq_iff_eq] at hb; rw [hb]; rfl
            simp only [this, Bool.false_and]
          simp only [go_sem, Nat.reduceEqDiff, Nat.reduceAdd, Nat.reduceLT, Nat.reduceLeDiff, reduceIte, reduceCtorEq]
          refine round0 rfl ⟨c + 1, hc, by rw [hsucc, hPc]⟩ (by dsimp only; omega) rfl ?_
          simp [fle, vle, Fr.get, mS_bnd, mI_bnd, hwc]
        · simp only [mI_get, mI_hd, hid, hy, go_sem, Nat.reduceEqDiff, Nat.reduceAdd, Nat.reduceLT, Nat.reduceLeDiff, reduceIte, reduceCtorEq]
          have hb1 : (Sp.bitAt cards (c : Int) == 1) = true := by
            have := Sp.bit_zero hcs (show c < 6 by omega)
            have hb : (Sp.bitAt cards (c : Int) == 0) = false := hb
            rw [hb] at this
            unfold Sp.has at this
            cases hh : (Sp.bitAt cards (c : Int) == 1) with
            | true => rfl
            | false => rw [hh] at this; cases this
          have hPc : P c = ((decide (Sp.pos w i' c < Sp.pos w i' y) || (Sp.pos w i' c == Sp.pos w i' y && !st)) && Sp.refB w d set st k (i' + 1) (Sp.butI cards (Sp.shl1 c)) (better || decide (Sp.pos w i' c < Sp.pos w i' y))) := by rw [hP]; simp only [hb1, Bool.true_and]
          have hbs := Sp.but_set hcs (Sp.shl_set c (by omega)).1
          have hrec := fun b => ih k (by omega) (i' + 1) (Sp.butI cards (Sp.shl1 c)) b (by omega) hbs
          refine ⟨by simp, ?_⟩
          refine CallKD.pure (hat i' c hi (by omega) (by omega)) ?_
          simp only [mI_get, mI_hd, hid, hy, go_sem, Nat.reduceEqDiff, Nat.reduceAdd, Nat.reduceLT, Nat.reduceLeDiff, reduceIte, reduceCtorEq]
          refine ⟨by omega, ?_⟩
          refine CallKD.pure (hat i' y hi hyr.1 hyr.2) ?_
          simp only [go_sem, Nat.reduceEqDiff, Nat.reduceAdd, Nat.reduceLT, Nat.reduceLeDiff, reduceIte, reduceCtorEq]
          have hgo : P c = false → (List.range (c + 1)).any P = false := fun h => by rw [hsucc, h]
          generalize Sp.pos w i' c = a at hPc
          generalize Sp.pos w i' y = b at hPc
          refine G.splitP (fun h => ?_) fun h => ?_
          · have hd2 : decide (a < b) = true := decide_eq_true h
            rw [hd2, Bool.true_or, Bool.true_and, Bool.or_true] at hPc
            simp only [go_sem, Nat.reduceEqDiff, Nat.reduceAdd, Nat.reduceLT, Nat.reduceLeDiff, reduceIte, reduceCtorEq]
            refine G.split (fun h2 => ?_) fun h2 => ?_
            · simp only [hd2, hwi, go_sem, Nat.reduceEqDiff, Nat.reduceAdd, Nat.reduceLT, Nat.reduceLeDiff, reduceIte, reduceCtorEq]
              refine CallK.pure (liftV (hrec true) (by simp [bndL, AVal.bnd, mS_bnd, mI_bnd]) rfl _) ?_
              simp only [go_sem, Nat.reduceEqDiff, Nat.reduceAdd, Nat.reduceLT, Nat.reduceLeDiff, reduceIte, reduceCtorEq]
              refine IC.split (fun h9 => ?_) fun h9 => ?_
              · simp only [go_sem, Nat.reduceEqDiff, Nat.reduceAdd, Nat.reduceLT, Nat.reduceLeDiff, reduceIte, reduceCtorEq]
                exact leaf (B true) rfl ⟨rfl, by rw [← hR, hrun (by rw [hPc, h9])]⟩
              · simp only [go_sem, Nat.reduceEqDiff, Nat.reduceAdd, Nat.reduceLT, Nat.reduceLeDiff, reduceIte, reduceCtorEq]
                refine round0 rfl ⟨c + 1, hc, hgo (by rw [hPc, h9])⟩ (by dsimp only; omega) rfl ?_
                simp [fle, vle, Fr.get, mS_bnd, mI_bnd, hwc]
            · simp only [hd2, hwi, go_sem, Nat.reduceEqDiff, Nat.reduceAdd, Nat.reduceLT, Nat.reduceLeDiff, reduceIte, reduceCtorEq]
              refine CallK.pure (liftV (hrec true) (by simp [bndL, AVal.bnd, mS_bnd, mI_bnd]) rfl _) ?_
              simp only [go_sem, Nat.reduceEqDiff, Nat.reduceAdd, Nat.reduceLT, Nat.reduceLeDiff, reduceIte, reduceCtorEq]
              refine IC.split (fun h9 => ?_) fun h9 => ?_
              · simp only [go_sem, Nat.reduceEqDiff, Nat.reduceAdd, Nat.reduceLT, Nat.reduceLeDiff, reduceIte, reduceCtorEq]
                exact leaf (B true) rfl ⟨rfl, by rw [← hR, hrun (by rw [hPc, h9])]⟩
              · simp only [go_sem, Nat.reduceEqDiff, Nat.reduceAdd, Nat.reduceLT, Nat.reduceLeDiff, reduceIte, reduceCtorEq]
                refine round0 rfl ⟨c + 1, hc, hgo (by rw [hPc, h9])⟩ (by dsimp only; omega) rfl ?_
                simp [fle, vle, Fr.get, mS_bnd, mI_bnd, hwc]
          · have hd2 : decide (a < b) = false := decide_eq_false h
            rw [hd2, Bool.false_or, Bool.or_false] at hPc
            simp only [go_sem, Nat.reduceEqDiff, Nat.reduceAdd, Nat.reduceLT, Nat.reduceLeDiff, reduceIte, reduceCtorEq]
            refine G.split (fun h2 => ?_) fun h2 => ?_
            · cases st with
              | false =>
                rw [h2] at hPc
                simp only [Bool.not_false, Bool.true_and] at hPc
                simp only [Bool.not_false, go_sem, Nat.reduceEqDiff, Nat.reduceAdd, Nat.reduceLT, Nat.reduceLeDiff, reduceIte, reduceCtorEq]
                refine G.split (fun h3 => ?_) fun h3 => ?_
                · rw [h3] at hPc
                  simp only [hd2, hwi, go_sem, Nat.reduceEqDiff, Nat.reduceAdd, Nat.reduceLT, Nat.reduceLeDiff, reduceIte, reduceCtorEq]
                  refine CallK.pure (liftV (hrec true) (by simp [bndL, AVal.bnd, mS_bnd, mI_bnd]) rfl _) ?_
                  simp only [go_sem, Nat.reduceEqDiff, Nat.reduceAdd, Nat.reduceLT, Nat.reduceLeDiff, reduceIte, reduceCtorEq]
                  refine IC.split (fun h9 => ?_) fun h9 => ?_
                  · simp only [go_sem, Nat.reduceEqDiff, Nat.reduceAdd, Nat.reduceLT, Nat.reduceLeDiff, reduceIte, reduceCtorEq]
                    exact leaf (B true) rfl ⟨rfl, by rw [← hR, hrun (by rw [hPc, h9])]⟩
                  · simp only [go_sem, Nat.reduceEqDiff, Nat.reduceAdd, Nat.reduceLT, Nat.reduceLeDiff, reduceIte, reduceCtorEq]
                    refine round0 rfl ⟨c + 1, hc, hgo (by rw [hPc, h9])⟩ (by dsimp only; omega) rfl ?_
                    simp [fle, vle, Fr.get, mS_bnd, mI_bnd, hwc]
                · rw [h3] at hPc
                  simp only [hd2, hwi, go_sem, Nat.reduceEqDiff, Nat.reduceAdd, Nat.reduceLT, Nat.reduceLeDiff, reduceIte, reduceCtorEq]
                  refine CallK.pure (liftV (hrec false) (by simp [bndL, AVal.bnd, mS_bnd, mI_bnd]) rfl _) ?_
                  simp only [go_sem, Nat.reduceEqDiff, Nat.reduceAdd, Nat.reduceLT, Nat.reduceLeDiff, reduceIte, reduceCtorEq]
                  refine IC.split (fun h9 => ?_) fun h9 => ?_
                  · simp only [go_sem, Nat.reduceEqDiff, Nat.reduceAdd, Nat.reduceLT, Nat.reduceLeDiff, reduceIte, reduceCtorEq]
                    exact leaf (B true) rfl ⟨rfl, by rw [← hR, hrun (by rw [hPc, h9])]⟩
                  · simp only [go_sem, Nat.reduceEqDiff, Nat.reduceAdd, Nat.reduceLT, Nat.reduceLeDiff, reduceIte, reduceCtorEq]
                    refine round0 rfl ⟨c + 1, hc, hgo (by rw [hPc, h9])⟩ (by dsimp only; omega) rfl ?_
                    simp [fle, vle, Fr.get, mS_bnd, mI_bnd, hwc]
              | true =>
                rw [h2] at hPc
                simp only [Bool.not_true, Bool.and_false, Bool.false_and] at hPc
                simp only [Bool.not_true, go_sem, Nat.reduceEqDiff, Nat.reduceAdd, Nat.reduceLT, Nat.reduceLeDiff, reduceIte, reduceCtorEq]
                refine round0 rfl ⟨c + 1, hc, hgo hPc⟩ (by dsimp only; omega) rfl ?_
                simp [fle, vle, Fr.get, mS_bnd, mI_bnd, hwc]
            · rw [h2, Bool.false_and, Bool.false_and] at hPc
              simp only [go_sem, Nat.reduceEqDiff, Nat.reduceAdd, Nat.reduceLT, Nat.reduceLeDiff, reduceIte, reduceCtorEq]
              refine round0 rfl ⟨c + 1, hc, hgo hPc⟩ (by dsimp only; omega) rfl ?_
              simp [fle, vle, Fr.get, mS_bnd, mI_bnd, hwc]
      · have hzc : decide ((c : Int) < w.length) = false := decide_eq_false (by omega)
        obtain rfl : c = w.length := by omega
        simp only [w85L2, hzc, w85T3, go_sem, Nat.reduceEqDiff, Nat.reduceAdd, Nat.reduceLT, Nat.reduceLeDiff, reduceIte, reduceCtorEq]
        exact leaf (B false) rfl ⟨rfl, by rw [← hR, hno]⟩
  · have hz : decide ((i' : Int) < w.length) = false := decide_eq_false (by omega)
    obtain rfl : i' = w.length := by omega
    have hz2 : ((w.length : Int) == w.length) = true := by simp
    rw [Nat.sub_self, Sp.refB] at hR
    simp only [w85L0, hz, w85T1, hz2, go_sem, Nat.reduceEqDiff, Nat.reduceAdd, Nat.reduceLT, Nat.reduceLeDiff, reduceIte, reduceCtorEq]
    exact leaf (B better) rfl ⟨rfl, congrArg _ hR⟩
end Go.Proofs.Ytkmmngphcodjjaa
