/- Contracts: the reference's least set that blocks. -/
import Derived.Test.YtkmmngphcodjjaaBW
namespace Go.Proofs.Ytkmmngphcodjjaa
open Go.Abs AVal
set_option linter.unusedSimpArgs false
attribute [local go_sem] W_skip W_keep KQ_canon canon Fr.norm W_seq W_block W_exit W_ret W_ops W_draw KQ_nil KQ_norm_seq KQ_exit_seq KQ_ret_seq KQ_norm_block KQ_ret_block KQ_exit_block KQ_exit_loop KQ_ret_loop O_nil O_cons S_call S_mv SE_mv SD_mv S_pick SE_pick SD_pick S_bin SE_bin SD_bin S_eqb SE_eqb SD_eqb S_eqv SE_eqv SD_eqv S_eqnil SE_eqnil SD_eqnil S_un SE_un SD_un S_conv SE_conv SD_conv S_mkfn SE_mkfn SD_mkfn S_load SE_load SD_load S_nilck SE_nilck SD_nilck S_slS SE_slS SD_slS S_slP SE_slP SD_slP S_fldA SE_fldA SD_fldA S_fld SE_fld SD_fld S_ixS SE_ixS SD_ixS S_ixP SE_ixP SD_ixP S_ixV SE_ixV SD_ixV S_ixStr SE_ixStr SD_ixStr S_ext SE_ext SD_ext S_len SE_len SD_len S_lenStr SE_lenStr SD_lenStr S_lenc SE_lenc SD_lenc S_mn SE_mn SD_mn S_mx SE_mx SD_mx S_build SE_build SD_build S_alloc SD_alloc S_box SD_box S_bslice SD_bslice S_mksl SD_mksl S_store SD_store S_append SD_append S_copy SD_copy S_clr SD_clr aq_some aa_some al_some aqd_some aad_some ald_some ape_some D_done D_both D_early D_step SE_call SD_call IOpd.ev Fr.get Fr.put Fr.putd entryFr pickA binA binI isSh shI eqbA eqvA ints ints_mI Option.map_some eqnilA unA convA loadA nilckA intA slSA slPA fldAA fldVA ixSA ixPA ixVA ixStrA extA lenA lenStrA mnA mxA AVal.fits fillA fillOk buildA opa srcA appA stoA copA clrA rdFree zeros List.length_nil List.length_cons List.length_map List.map_cons List.map_nil Option.map_some Option.map_none if_true if_false ite_true ite_false true_and and_true and_self implies_true forall_const true_implies Bool.false_eq_true Bool.not_true Bool.not_false decide_eq_true_eq decide_eq_false_iff_not eq_self List.getElem?_cons_zero List.getElem?_cons_succ List.getElem?_nil List.set_cons_zero List.set_cons_succ List.nil_append List.cons_append List.append_nil List.replicate_zero List.replicate_succ Nat.zero_add false_implies rng_lt rng_end rng_get cells_I cells_B cells_sl cut_one Int.toNat_natCast Int.natCast_nonneg List.headD_cons Int.lt_irrefl not_false_eq_true decide_false decide_true mI_length mI_cells mI_sz mI_isCell mI_mid mI_append mI_take mI_drop cells_val cells_own cells_agg isCell_I isCell_B isCell_nil isCell_sl isCell_own isCell_ptr isCell_fn isCell_rp isCell_yld cellsOk_I cellsOk_B cellsOk_nil cellsOk_sl cellsOk_own cellsOk_ptr cellsOk_fn cellsOk_rp cellsOk_yld cellsOk_agg cells_nil cells_ptr cells_fn cells_rp List.all_cons List.all_nil Bool.and_true Nat.mul_one Nat.zero_mul Nat.one_mul List.take_zero List.take_nil List.drop_nil List.drop_zero List.not_mem_nil Nat.le_refl Nat.zero_le mS_length mS_cells mS_sz mS_isCell mS_mid mS_append mS_take mS_drop cells_sI isCell_sI cellsOk_sI sI_eq succ_le_self' List.take_succ_cons List.drop_succ_cons List.take_length beq_self_eq_true List.mem_cons or_false forall_eq mI_put mI_rep O_guard' D_earlyG' D_stepG' W_cond' G_tt G_tf G_ft G_ff GE_tt GE_tf GE_ft GE_ff GS_tt GS_tf GS_ft GS_ff G_u GE_u GS_u IC_t IC_f xft xff xtt xtf z00 z20 z22 z02 zz tn0

theorem small_bits : ∀ n : Nat, n < 7 → ∀ k : Nat, k < 2 ^ n → ∀ j : Nat, j < 6 → n ≤ j → Sp.has k j = false := by decide +kernel
theorem blocks_ref {w : List (List Int)} {d : List Int} {st : Bool} {k : Nat} (hn : w.length ≤ 6) (hk : k < 2 ^ w.length) : Sp.refB w d k st w.length 0 k false = blocksP w d k st := by
  have := (two_pow hn).2.1
  rw [blocksP, Sp.blk_ref hn ⟨by omega, by omega⟩ fun j h1 h2 => small_bits w.length (by omega) k hk j h2 h1]

set_option maxHeartbeats 2000000 in
theorem s68 (w : List (List Int)) (d : List Int) (st : Bool) (g : Sp.Good w) (hd : d.length = w.length) (hdr : ∀ x ∈ d, 0 ≤ x ∧ x < w.length) :
    Abs.Spec Try.prog 68 [.sl false false (mS w), .sl false false (mI d), B st] [] fun v H' => H' = [] ∧ v = .tup [I (blockG w d st 1 (2 ^ w.length - 1)).1, I (blockG w d st 1 (2 ^ w.length - 1)).2] := by
  have g1 := g.n1
  have g6 := g.n6
  have hp := two_pow g6
  refine Abs.Spec.walk mixed fn68 nn68 t68 q68 nt68 (by simp) ?_
  simp only [w68, go_sem, Nat.reduceEqDiff, Nat.reduceAdd, Nat.reduceLT, Nat.reduceLeDiff, reduceIte, reduceCtorEq]
  refine W_loop (fun q : { k : Nat // 1 ≤ k ∧ k ≤ 2 ^ w.length ∧ blockG w d st k (2 ^ w.length - k) = blockG w d st 1 (2 ^ w.length - 1) } => ([(0, .sl false false (mS w)), (1, .sl false false (mI d)), (2, B st), (8, I q.1)], [])) (fun q => 2 ^ w.length - q.1)
    ⟨1, Nat.le_refl 1, hp.1, rfl⟩ [] (Wk.nil (by simp [fle, vle, Fr.get, mS_bnd, mI_bnd])) ?_
  rintro ⟨k, hk1, hkn, hk⟩
  dsimp only
  by_cases hlt : k < 2 ^ w.length
  · have hz' : decide ((k : Int) < IntKind.i64.wrap (1 * 2 ^ min w.length 64)) = true := by
      have : IntKind.i64.wrap (1 * 2 ^ min w.length 64) = ((2 ^ w.length : Nat) : Int) := hp.2.2
      rw [this]; exact decide_eq_true (by omega)
    have hwc : IntKind.i64.wrap ((k : Int) + 1) = ((k + 1 : Nat) : Int) := by rw [wrap64 (by omega) (by omega)]; rfl
    have e : 2 ^ w.length - k = (2 ^ w.length - (k + 1)) + 1 := by omega
    rw [e] at hk
    simp only [w68L0, hz', go_sem, Nat.reduceEqDiff, Nat.reduceAdd, Nat.reduceLT, Nat.reduceLeDiff, reduceIte, reduceCtorEq]
    refine CallK.pure (liftV (s85 w d k st g hd hdr w.length 0 k false (by omega) ⟨by omega, by omega⟩) (by simp [bndL, AVal.bnd, mS_bnd, mI_bnd]) rfl _) ?_
    rw [blocks_ref g6 hlt]
    simp only [go_sem, Nat.reduceEqDiff, Nat.reduceAdd, Nat.reduceLT, Nat.reduceLeDiff, reduceIte, reduceCtorEq]
    refine IC.split (fun h => ?_) fun h => ?_
    · simp only [go_sem, Nat.reduceEqDiff, Nat.reduceAdd, Nat.reduceLT, Nat.reduceLeDiff, reduceIte, reduceCtorEq]
      refine leaf2 (.tup [I k, I 0]) ⟨rfl, rfl, trivial⟩ ⟨rfl, ?_⟩
      rw [← hk, blockG, if_pos h]
    · simp only [hwc, go_sem, Nat.reduceEqDiff, Nat.reduceAdd, Nat.reduceLT, Nat.reduceLeDiff, reduceIte, reduceCtorEq]
      refine round0 rfl ⟨k + 1, by omega, by omega, by rw [← hk]; conv => rhs; rw [blockG, if_neg (by rw [h]; simp)]⟩ (by dsimp only; omega) rfl ?_
      simp [fle, vle, Fr.get, mS_bnd, mI_bnd]
  · have hz' : decide ((k : Int) < IntKind.i64.wrap (1 * 2 ^ min w.length 64)) = false := by
      have : IntKind.i64.wrap (1 * 2 ^ min w.length 64) = ((2 ^ w.length : Nat) : Int) := hp.2.2
      rw [this]; exact decide_eq_false (by omega)
    simp only [w68L0, hz', w68T1, go_sem, Nat.reduceEqDiff, Nat.reduceAdd, Nat.reduceLT, Nat.reduceLeDiff, reduceIte, reduceCtorEq]
    refine leaf2 (.tup [I 0, I 4]) ⟨rfl, rfl, trivial⟩ ⟨rfl, ?_⟩
    rw [show 2 ^ w.length - k = 0 by omega, blockG] at hk
    rw [← hk]

theorem s40 (w : List (List Int)) (d : List Int) (g : Sp.Good w) (hd : d.length = w.length) (hdr : ∀ x ∈ d, 0 ≤ x ∧ x < w.length) :
    Abs.Spec Try.prog 40 [.sl false false (mS w), .sl false false (mI d)] [] fun v H' => H' = [] ∧ v = .tup [I (blockG w d false 1 (2 ^ w.length - 1)).1, I (blockG w d false 1 (2 ^ w.length - 1)).2] := by
  refine Abs.Spec.walk mixed fn40 nn40 t40 q40 nt40 (by simp) ?_
  simp only [w40, go_sem, Nat.reduceEqDiff, Nat.reduceAdd, Nat.reduceLT, Nat.reduceLeDiff, reduceIte, reduceCtorEq]
  refine CallK.by (CallV.of_spec (s68 w d false g hd hdr)) fun v H' ⟨h1, h2⟩ => ?_
  subst h1 h2
  simp only [List.getD_cons_zero, List.getD_cons_succ, go_sem, Nat.reduceEqDiff, Nat.reduceAdd, Nat.reduceLT, Nat.reduceLeDiff, reduceIte, reduceCtorEq]
  exact leaf2 (.tup [I (blockG w d false 1 (2 ^ w.length - 1)).1, I (blockG w d false 1 (2 ^ w.length - 1)).2]) ⟨rfl, rfl, trivial⟩ ⟨rfl, rfl⟩
theorem s41 (w : List (List Int)) (d : List Int) (g : Sp.Good w) (hd : d.length = w.length) (hdr : ∀ x ∈ d, 0 ≤ x ∧ x < w.length) :
    Abs.Spec Try.prog 41 [.sl false false (mS w), .sl false false (mI d)] [] fun v H' => H' = [] ∧ v = .tup [I (blockG w d true 1 (2 ^ w.length - 1)).1, I (blockG w d true 1 (2 ^ w.length - 1)).2] := by
  refine Abs.Spec.walk mixed fn41 nn41 t41 q41 nt41 (by simp) ?_
  simp only [w41, go_sem, Nat.reduceEqDiff, Nat.reduceAdd, Nat.reduceLT, Nat.reduceLeDiff, reduceIte, reduceCtorEq]
  refine CallK.by (CallV.of_spec (s68 w d true g hd hdr)) fun v H' ⟨h1, h2⟩ => ?_
  subst h1 h2
  simp only [List.getD_cons_zero, List.getD_cons_succ, go_sem, Nat.reduceEqDiff, Nat.reduceAdd, Nat.reduceLT, Nat.reduceLeDiff, reduceIte, reduceCtorEq]
  exact leaf2 (.tup [I (blockG w d true 1 (2 ^ w.length - 1)).1, I (blockG w d true 1 (2 ^ w.length - 1)).2]) ⟨rfl, rfl, trivial⟩ ⟨rfl, rfl⟩

set_option maxHeartbeats 4000000 in
set_option maxRecDepth 20000 in
theorem s9 (w : List (List Int)) (d : List Int) (hw : ∀ l ∈ w, l.length < 9223372036854775808) (hl : w.length < 9223372036854775808) (hd : d.length < 9223372036854775808) :
    Abs.Spec Try.prog 9 [.sl false false (mS w), .sl false false (mI d)] [] fun v H' => H' = [] ∧ v = B true := by
  obtain ⟨hw', hl'⟩ := tab_len hw hl
  have hd9 : (d.take 9).length < 9223372036854775808 := by simp; omega
  refine Abs.Spec.walk mixed fn9 nn9 t9 q9 nt9 (by simp) ?_
  simp only [w9, go_sem, Nat.reduceEqDiff, Nat.reduceAdd, Nat.reduceLT, Nat.reduceLeDiff, reduceIte, reduceCtorEq]
  refine CallK.by (CallV.of_spec (s16 false false w hw hl)) fun v H' ⟨h1, h2⟩ => ?_
  subst h1 h2
  simp only [go_sem, Nat.reduceEqDiff, Nat.reduceAdd, Nat.reduceLT, Nat.reduceLeDiff, reduceIte, reduceCtorEq]
  refine CallK.by (CallV.of_spec (s27 false false d hd)) fun v H' ⟨h1, h2⟩ => ?_
  subst h1 h2
  simp only [go_sem, Nat.reduceEqDiff, Nat.reduceAdd, Nat.reduceLT, Nat.reduceLeDiff, reduceIte, reduceCtorEq]
  refine CallK.by (CallV.of_spec (s37 (Sp.table w) (d.take 9) hw' hl' hd9)) fun v H' ⟨h1, h2⟩ => ?_
  subst h1 h2
  obtain ⟨⟨a, e⟩, hA⟩ : ∃ A, blockA (Sp.table w) (d.take 9) false = A := ⟨_, rfl⟩
  rw [hA]
  simp only [List.getD_cons_zero, List.getD_cons_succ, go_sem, Nat.reduceEqDiff, Nat.reduceAdd, Nat.reduceLT, Nat.reduceLeDiff, reduceIte, reduceCtorEq]
  refine CallK.by (CallV.of_spec (s16 false false w hw hl)) fun v H' ⟨h1, h2⟩ => ?_
  subst h1 h2
  simp only [go_sem, Nat.reduceEqDiff, Nat.reduceAdd, Nat.reduceLT, Nat.reduceLeDiff, reduceIte, reduceCtorEq]
  refine CallK.by (CallV.of_spec (s27 false false d hd)) fun v H' ⟨h1, h2⟩ => ?_
  subst h1 h2
  simp only [go_sem, Nat.reduceEqDiff, Nat.reduceAdd, Nat.reduceLT, Nat.reduceLeDiff, reduceIte, reduceCtorEq]
  refine CallK.by (CallV.of_spec (s38 (Sp.table w) (d.take 9) hw' hl' hd9)) fun v H' ⟨h1, h2⟩ => ?_
  subst h1 h2
  obtain ⟨⟨b, f⟩, hB⟩ : ∃ A, blockA (Sp.table w) (d.take 9) true = A := ⟨_, rfl⟩
  rw [hB]
  simp only [List.getD_cons_zero, List.getD_cons_succ, go_sem, Nat.reduceEqDiff, Nat.reduceAdd, Nat.reduceLT, Nat.reduceLeDiff, reduceIte, reduceCtorEq]
  refine CallK.by (CallV.of_spec (s16 false false w hw hl)) fun v H' ⟨h1, h2⟩ => ?_
  subst h1 h2
  simp only [go_sem, Nat.reduceEqDiff, Nat.reduceAdd, Nat.reduceLT, Nat.reduceLeDiff, reduceIte, reduceCtorEq]
  refine CallK.by (CallV.of_spec (s27 false false d hd)) fun v H' ⟨h1, h2⟩ => ?_
  subst h1 h2
  simp only [go_sem, Nat.reduceEqDiff, Nat.reduceAdd, Nat.reduceLT, Nat.reduceLeDiff, reduceIte, reduceCtorEq]
  refine CallK.by (CallV.of_spec (s39 (Sp.table w) (d.take 9) hw' hl' hd9)) fun v H' ⟨h1, h2⟩ => ?_
  subst h1 h2
  obtain ⟨C, j, hC, hCl⟩ : ∃ C j, wasteA (Sp.table w) (d.take 9) = .tup [.sl false false (mI C), I j] ∧ if Sp.valid (Sp.table w) && Sp.isOrder (d.take 9) (Sp.table w).length then C.length ≤ 6 else C = [] ∧ j = 2 := by
    unfold wasteA wasteR
    cases hk : (Sp.valid (Sp.table w) && Sp.isOrder (d.take 9) (Sp.table w).length) with
    | false => exact ⟨_, _, rfl, rfl, rfl⟩
    | true =>
      cases hO : wasteO (Sp.table w) (d.take 9) with
      | none => exact ⟨_, _, rfl, by simp⟩
      | some o =>
        have h1 := (Sp.all_ok (List.mem_of_find?_eq_some hO)).1
        have h2 := (Sp.valid_good (Bool.and_eq_true _ _ ▸ hk).1).n6
        exact ⟨_, _, rfl, by simp; omega⟩
  have hCC := hC
  rw [hC]
  simp only [List.getD_cons_zero, List.getD_cons_succ, go_sem, Nat.reduceEqDiff, Nat.reduceAdd, Nat.reduceLT, Nat.reduceLeDiff, reduceIte, reduceCtorEq]
  refine CallK.by (CallV.of_spec (s28 false false false false w d hw hl hd)) fun v H' ⟨h1, h2⟩ => ?_
  subst h1 h2
  have hsame : (Sp.valid w && Sp.all d w.length) = (Sp.valid w && Sp.isOrder d w.length) := by
    cases hv : Sp.valid w with
    | false => rfl
    | true => rw [Sp.all_eq (Sp.valid_good hv).n6]
  rw [hsame]
  have zl : (((0 : Nat) : Int) == 0) = true := rfl
  rw [take_ok.1] at hCl
  unfold blockA at hA hB
  rw [take_ok.1] at hA hB
  cases hk : (Sp.valid w && Sp.isOrder d w.length) with
  | false =>
    rw [hk] at hCl hA hB
    obtain ⟨rfl, rfl⟩ := hCl
    obtain ⟨rfl, rfl⟩ : 0 = a ∧ 2 = e := Prod.mk.inj hA
    obtain ⟨rfl, rfl⟩ : 0 = b ∧ 2 = f := Prod.mk.inj hB
    simp only [zl, go_sem, Nat.reduceEqDiff, Nat.reduceAdd, Nat.reduceLT, Nat.reduceLeDiff, reduceIte, reduceCtorEq]
    refine CallK.by (CallV.of_spec s19) fun v H' ⟨h1, h2⟩ => ?_
    subst h1 h2
    simp only [go_sem, Nat.reduceEqDiff, Nat.reduceAdd, Nat.reduceLT, Nat.reduceLeDiff, reduceIte, reduceCtorEq]
    exact leaf (B true) rfl ⟨rfl, rfl⟩
  | true =>
    obtain ⟨t1, t2⟩ := take_ok.2 hk
    rw [hk, if_pos rfl] at hCl hA hB
    rw [t1, t2] at hA hB hCC
    rw [wasteA, hk, if_pos rfl] at hCC
    rw [Bool.and_eq_true] at hk
    have g := Sp.valid_good hk.1
    obtain ⟨hdl, hdr, -⟩ := Sp.order_spec g.n6 hk.2
    simp only [w9T0, go_sem, Nat.reduceEqDiff, Nat.reduceAdd, Nat.reduceLT, Nat.reduceLeDiff, reduceIte, reduceCtorEq]
    refine CallK.by (CallV.of_spec (s40 w d g hdl hdr)) fun v H' ⟨h1, h2⟩ => ?_
    subst h1 h2
    rw [hA]
    simp only [List.getD_cons_zero, List.getD_cons_succ, go_sem, Nat.reduceEqDiff, Nat.reduceAdd, Nat.reduceLT, Nat.reduceLeDiff, reduceIte, reduceCtorEq]
    refine CallK.by (CallV.of_spec (s41 w d g hdl hdr)) fun v H' ⟨h1, h2⟩ => ?_
    subst h1 h2
    rw [hB]
    simp only [List.getD_cons_zero, List.getD_cons_succ, go_sem, Nat.reduceEqDiff, Nat.reduceAdd, Nat.reduceLT, Nat.reduceLeDiff, reduceIte, reduceCtorEq]
    refine CallK.by (CallV.of_spec (s42 w d g hdl hdr)) fun v H' ⟨h1, h2⟩ => ?_
    subst h1 h2
    rw [hCC]
    simp only [List.getD_cons_zero, List.getD_cons_succ, go_sem, Nat.reduceEqDiff, Nat.reduceAdd, Nat.reduceLT, Nat.reduceLeDiff, reduceIte, reduceCtorEq]
    refine CallK.by (CallV.of_spec (s20 false false false false C C (by omega))) fun v H' ⟨h1, h2⟩ => ?_
    subst h1 h2
    rw [beq_self_eq_true]
    simp only [go_sem, Nat.reduceEqDiff, Nat.reduceAdd, Nat.reduceLT, Nat.reduceLeDiff, reduceIte, reduceCtorEq]
    refine CallK.by (CallV.of_spec s19) fun v H' ⟨h1, h2⟩ => ?_
    subst h1 h2
    simp only [go_sem, Nat.reduceEqDiff, Nat.reduceAdd, Nat.reduceLT, Nat.reduceLeDiff, reduceIte, reduceCtorEq]
    exact leaf (B true) rfl ⟨rfl, rfl⟩
end Go.Proofs.Ytkmmngphcodjjaa
