/- Contracts: the reference's deals, and its first order. -/
import Derived.Test.YtkmmngphcodjjaaBQ
namespace Go.Proofs.Ytkmmngphcodjjaa
open Go.Abs AVal
set_option linter.unusedSimpArgs false
attribute [local go_sem] W_skip W_keep KQ_canon canon Fr.norm W_seq W_block W_exit W_ret W_ops W_draw KQ_nil KQ_norm_seq KQ_exit_seq KQ_ret_seq KQ_norm_block KQ_ret_block KQ_exit_block KQ_exit_loop KQ_ret_loop O_nil O_cons S_call S_mv SE_mv SD_mv S_pick SE_pick SD_pick S_bin SE_bin SD_bin S_eqb SE_eqb SD_eqb S_eqv SE_eqv SD_eqv S_eqnil SE_eqnil SD_eqnil S_un SE_un SD_un S_conv SE_conv SD_conv S_mkfn SE_mkfn SD_mkfn S_load SE_load SD_load S_nilck SE_nilck SD_nilck S_slS SE_slS SD_slS S_slP SE_slP SD_slP S_fldA SE_fldA SD_fldA S_fld SE_fld SD_fld S_ixS SE_ixS SD_ixS S_ixP SE_ixP SD_ixP S_ixV SE_ixV SD_ixV S_ixStr SE_ixStr SD_ixStr S_ext SE_ext SD_ext S_len SE_len SD_len S_lenStr SE_lenStr SD_lenStr S_lenc SE_lenc SD_lenc S_mn SE_mn SD_mn S_mx SE_mx SD_mx S_build SE_build SD_build S_alloc SD_alloc S_box SD_box S_bslice SD_bslice S_mksl SD_mksl S_store SD_store S_append SD_append S_copy SD_copy S_clr SD_clr aq_some aa_some al_some aqd_some aad_some ald_some ape_some D_done D_both D_early D_step SE_call SD_call IOpd.ev Fr.get Fr.put Fr.putd entryFr pickA binA binI isSh shI eqbA eqvA ints ints_mI Option.map_some eqnilA unA convA loadA nilckA intA slSA slPA fldAA fldVA ixSA ixPA ixVA ixStrA extA lenA lenStrA mnA mxA AVal.fits fillA fillOk buildA opa srcA appA stoA copA clrA rdFree zeros List.length_nil List.length_cons List.length_map List.map_cons List.map_nil Option.map_some Option.map_none if_true if_false ite_true ite_false true_and and_true and_self implies_true forall_const true_implies Bool.false_eq_true Bool.not_true Bool.not_false decide_eq_true_eq decide_eq_false_iff_not eq_self List.getElem?_cons_zero List.getElem?_cons_succ List.getElem?_nil List.set_cons_zero List.set_cons_succ List.nil_append List.cons_append List.append_nil List.replicate_zero List.replicate_succ Nat.zero_add false_implies rng_lt rng_end rng_get cells_I cells_B cells_sl cut_one Int.toNat_natCast Int.natCast_nonneg List.headD_cons Int.lt_irrefl not_false_eq_true decide_false decide_true mI_length mI_cells mI_sz mI_isCell mI_mid mI_append mI_take mI_drop cells_val cells_own cells_agg isCell_I isCell_B isCell_nil isCell_sl isCell_own isCell_ptr isCell_fn isCell_rp isCell_yld cellsOk_I cellsOk_B cellsOk_nil cellsOk_sl cellsOk_own cellsOk_ptr cellsOk_fn cellsOk_rp cellsOk_yld cellsOk_agg cells_nil cells_ptr cells_fn cells_rp List.all_cons List.all_nil Bool.and_true Nat.mul_one Nat.zero_mul Nat.one_mul List.take_zero List.take_nil List.drop_nil List.drop_zero List.not_mem_nil Nat.le_refl Nat.zero_le mS_length mS_cells mS_sz mS_isCell mS_mid mS_append mS_take mS_drop cells_sI isCell_sI cellsOk_sI sI_eq succ_le_self' List.take_succ_cons List.drop_succ_cons List.take_length beq_self_eq_true List.mem_cons or_false forall_eq mI_put mI_rep O_guard' D_earlyG' D_stepG' W_cond' G_tt G_tf G_ft G_ff GE_tt GE_tf GE_ft GE_ff GS_tt GS_tf GS_ft GS_ff G_u GE_u GS_u IC_t IC_f xft xff xtt xtf z00 z20 z22 z02 zz tn0

theorem deals_unfold (n m : Nat) (b : List Int) : Sp.dealsR n (m + 1) b = (List.range n).flatMap fun (x : Nat) => if (x : Int) ∈ b then [] else Sp.dealsR n m (b ++ [(x : Int)]) := rfl
theorem deals_len {n : Nat} (hn : n ≤ 6) : ∀ (m : Nat) (b : List Int), (Sp.dealsR n m b).length ≤ 6 ^ m
  | 0, b => by simp [Sp.dealsR]
  | m + 1, b => by
    rw [deals_unfold, List.length_flatMap]
    have key : ∀ l : List Nat, (l.map fun (x : Nat) => (if (x : Int) ∈ b then [] else Sp.dealsR n m (b ++ [(x : Int)])).length).sum ≤ l.length * 6 ^ m := by
      intro l
      induction l with
      | nil => simp
      | cons x l ih =>
        simp only [List.map_cons, List.sum_cons, List.length_cons, Nat.add_mul, Nat.one_mul]
        have : (if (x : Int) ∈ b then [] else Sp.dealsR n m (b ++ [(x : Int)])).length ≤ 6 ^ m := by
          split
          · simp
          · exact deals_len hn m _
        omega
    have := key (List.range n)
    rw [List.length_range] at this
    calc _ ≤ n * 6 ^ m := this
      _ ≤ 6 * 6 ^ m := Nat.mul_le_mul_right _ hn
      _ = 6 ^ (m + 1) := by rw [Nat.pow_succ, Nat.mul_comm]
theorem flat_len6 {n m c : Nat} (hn : n ≤ 6) (hm : m ≤ 5) (hc : c ≤ n) (b : List Int) : ((List.range c).flatMap fun (x : Nat) => if (x : Int) ∈ b then [] else Sp.dealsR n m (b ++ [(x : Int)])).length ≤ 46656 := by
  have h1 := deals_len (n := c) (by omega) (m + 1) b
  have key : ∀ l : List Nat, (l.flatMap fun (x : Nat) => if (x : Int) ∈ b then [] else Sp.dealsR n m (b ++ [(x : Int)])).length ≤ l.length * 6 ^ m := by
    intro l
    induction l with
    | nil => simp
    | cons x l ih =>
      rw [List.flatMap_cons, List.length_append, List.length_cons, Nat.add_mul, Nat.one_mul]
      have : (if (x : Int) ∈ b then [] else Sp.dealsR n m (b ++ [(x : Int)])).length ≤ 6 ^ m := by
        split
        · simp
        · exact deals_len hn m _
      omega
  have := key (List.range c)
  rw [List.length_range] at this
  have h6 : 6 ^ m ≤ 6 ^ 5 := Nat.pow_le_pow_right (by omega) hm
  have : c * 6 ^ m ≤ 6 * 6 ^ 5 := Nat.mul_le_mul (by omega) h6
  omega

variable {n : Nat}
section
variable (hn : n ≤ 6)
include hn
set_option maxHeartbeats 2000000 in
theorem s64 : ∀ (m : Nat) (b : List Int), b.length + m = n → 0 < b.length → Abs.Spec Try.prog 64 [I n, .sl false false (mI b)] [] fun v H' => H' = [] ∧ v = .sl false false (mS (Sp.dealsR n m b))
  | 0, b, hbm, hb0 => by
    refine Abs.Spec.walk mixed fn64 nn64 t64 q64 nt64 (by simp) ?_
    have hz : ((b.length : Int) == n) = true := by rw [beq_iff_eq]; omega
    simp only [w64, hz, go_sem, Nat.reduceEqDiff, Nat.reduceAdd, Nat.reduceLT, Nat.reduceLeDiff, reduceIte, reduceCtorEq]
    exact leaf (.sl false false (mS [b])) (vle_mS (cs := mS [b]) rfl (by simp) rfl rfl) ⟨rfl, rfl⟩
  | m + 1, b, hbm, hb0 => by
    refine Abs.Spec.walk mixed fn64 nn64 t64 q64 nt64 (by simp) ?_
    have hz : ((b.length : Int) == n) = false := by rw [beq_eq_false_iff_ne]; omega
    obtain ⟨F, hF⟩ : ∃ F : Nat → List (List Int), F = fun (x : Nat) => if (x : Int) ∈ b then [] else Sp.dealsR n m (b ++ [(x : Int)]) := ⟨_, rfl⟩
    rw [deals_unfold, ← hF]
    simp only [w64, hz, go_sem, Nat.reduceEqDiff, Nat.reduceAdd, Nat.reduceLT, Nat.reduceLeDiff, reduceIte, reduceCtorEq]
    refine W_loop (fun q : { c : Nat // c ≤ n } => ([(0, I n), (1, .sl false false (mI b)), (5, own 0 0 ((List.range q.1).flatMap F).length ((List.range q.1).flatMap F).length 1), (16, I n), (17, I q.1)], [.cells (mS ((List.range q.1).flatMap F))])) (fun q => n - q.1)
      ⟨0, by omega⟩ [none] (Wk.mk0 rfl (by simp [imgs, Blk.alive]) (by simp [hle, mS]) (by simp [fle, vle, Fr.get, mI_bnd])) ?_
    rintro ⟨c, hcn⟩
    dsimp only
    by_cases hc : c < n
    · have hz2 : decide ((c : Int) < n) = true := decide_eq_true (by omega)
      have hwc : IntKind.i64.wrap ((c : Int) + 1) = c + 1 := wrap64 (by omega) (by omega)
      simp only [w64L0, hz2, go_sem, Nat.reduceEqDiff, Nat.reduceAdd, Nat.reduceLT, Nat.reduceLeDiff, reduceIte, reduceCtorEq]
      refine W_loop (fun q : { q : List Int × List Int // q.1 ++ q.2 = b } => ([(0, I n), (1, .sl false false (mI b)), (5, own 0 0 ((List.range c).flatMap F).length ((List.range c).flatMap F).length 1), (6, I c), (7, B (decide ((c : Int) ∈ q.1.1))), (16, I n), (17, I c), (20, .sl false false (mI b)), (21, I b.length), (22, I q.1.1.length)], [.cells (mS ((List.range c).flatMap F))])) (fun q => q.1.2.length)
        ⟨([], b), rfl⟩ [some 0] (Wk.mk0 rfl (by simp [imgs, Blk.alive]) (by simp [hle, csle, mS_bnd]) (by simp [fle, vle, Fr.get, mI_bnd])) ?_
      rintro ⟨⟨pre, suf⟩, hp⟩
      dsimp only at hp ⊢
      subst hp
      have hlen : (pre ++ suf).length < 9223372036854775808 := by omega
      cases suf with
      | cons y suf =>
        simp only [w64L1, go_sem, Nat.reduceEqDiff, Nat.reduceAdd, Nat.reduceLT, Nat.reduceLeDiff, reduceIte, reduceCtorEq]
        have hmem : decide ((c : Int) ∈ pre ++ [y]) = (decide ((c : Int) ∈ pre) || ((c : Int) == y)) := by
          rw [Bool.eq_iff_iff]; simp
        refine G.splitP (fun h => ?_) fun h => ?_
        · simp only [go_sem, Nat.reduceEqDiff, Nat.reduceAdd, Nat.reduceLT, Nat.reduceLeDiff, reduceIte, reduceCtorEq]
          refine round1 rfl ⟨(pre ++ [y], suf), by simp⟩ [some 0] (by simp) (Wk.mk0 rfl (by simp [imgs, Blk.alive]) (by simp [hle, csle, mS_bnd]) ?_)
          dsimp only
          rw [hmem, decide_eq_true h]
          simp [fle, vle, Fr.get, mI_bnd, rng_idx' hlen]
        · simp only [go_sem, Nat.reduceEqDiff, Nat.reduceAdd, Nat.reduceLT, Nat.reduceLeDiff, reduceIte, reduceCtorEq]
          refine round1 rfl ⟨(pre ++ [y], suf), by simp⟩ [some 0] (by simp) (Wk.mk0 rfl (by simp [imgs, Blk.alive]) (by simp [hle, csle, mS_bnd]) ?_)
          dsimp only
          rw [hmem, decide_eq_false h]
          simp [fle, vle, Fr.get, mI_bnd, rng_idx' hlen]
      | nil =>
        simp only [List.append_nil] at hbm hb0 hz hF hlen ⊢
        have hrs : (List.range (c + 1)).flatMap F = (List.range c).flatMap F ++ F c := by rw [List.range_succ, List.flatMap_append]; simp
        simp only [w64L1, w64T2, List.append_nil, go_sem, Nat.reduceEqDiff, Nat.reduceAdd, Nat.reduceLT, Nat.reduceLeDiff, reduceIte, reduceCtorEq]
        refine IC.split (fun h => ?_) fun h => ?_
        · have hnm : (c : Int) ∉ pre := by simpa using h
          have hFc : F c = Sp.dealsR n m (pre ++ [(c : Int)]) := by rw [hF]; simp only [if_neg hnm]
          have hl6 := flat_len6 hn (show m ≤ 5 by omega) hcn pre
          rw [← hF] at hl6
          have hl7 := deals_len hn m (pre ++ [(c : Int)])
          have h6 : 6 ^ m ≤ 6 ^ 5 := Nat.pow_le_pow_right (by omega) (show m ≤ 5 by omega)
          simp only [w64T3, go_sem, Nat.reduceEqDiff, Nat.reduceAdd, Nat.reduceLT, Nat.reduceLeDiff, reduceIte, reduceCtorEq]
          refine ⟨⟨Int.le_refl _, Int.le_refl _, by omega⟩, ⟨.inl trivial, by omega⟩, ?_⟩
          refine CallK.by (CallV.of_spec (Spec.giveK (args1 := [I n, .sl false false (mI (pre ++ [(c : Int)]))]) (HK := [.cells (mS ((List.range c).flatMap F)), .cells [I c], .dead]) (s64 m (pre ++ [(c : Int)]) (by simp; omega) (by simp)) (by simp [bndL, AVal.bnd, mI_bnd]) (by simp [AVal.bnd, mS_bnd]) rfl (fun k b hk => ?_) rfl
            ⟨rfl, vle_mI (cs := mI pre ++ [I c]) rfl (by simp [imgs, idρ, Blk.alive]) (by simp) (by rw [mI_snoc]; exact List.take_of_length_le (by simp [mI_length])), trivial⟩)) fun v H' ⟨e1, e2⟩ => ?_
          · match k, hk with
            | 0, hk => simp at hk; subst hk; exact .inr ⟨rfl, by simp [blkOk, mS_bnd]⟩
            | 1, hk => simp at hk; subst hk; exact .inr ⟨rfl, by simp [blkOk, bndL, AVal.bnd]⟩
            | 2, hk => simp at hk; subst hk; exact .inl rfl
            | k + 3, hk => simp at hk
          subst e1 e2
          rw [← hFc] at hl7 ⊢
          by_cases hFe : F c = []
          · have hzz : (((List.range c).flatMap F).length + ([] : List (List Int)).length ≤ ((List.range c).flatMap F).length) = True := by simp
            rw [hFe]
            have hdr : List.drop ((List.range c).flatMap F).length ((List.range c).flatMap F) = [] := List.drop_length
            simp only [w64T3, hzz, List.append_nil, Nat.add_zero, hdr, go_sem, Nat.reduceEqDiff, Nat.reduceAdd, Nat.reduceLT, Nat.reduceLeDiff, reduceIte, reduceCtorEq]
            refine round1 rfl ⟨c + 1, by omega⟩ [some 0] (by dsimp only; omega) (Wk.mk0 rfl (by simp [imgs, Blk.alive]) (by dsimp only; rw [hrs, hFe, List.append_nil]; simp [hle, csle, mS_bnd]) (by dsimp only; rw [hrs, hFe, List.append_nil]; simp [fle, vle, Fr.get, mI_bnd, hwc]))
          · have hpos : 0 < (F c).length := List.length_pos_iff.2 hFe
            have hzz : ¬ (((List.range c).flatMap F).length + (F c).length ≤ ((List.range c).flatMap F).length) := by omega
            simp only [w64T3, hzz, go_sem, Nat.reduceEqDiff, Nat.reduceAdd, Nat.reduceLT, Nat.reduceLeDiff, reduceIte, reduceCtorEq]
            refine ⟨by omega, ?_⟩
            refine round1 rfl ⟨c + 1, by omega⟩ [some 3] (by dsimp only; omega) (Wk.mk0 rfl (by simp [imgs, Blk.alive]) (by dsimp only; rw [hrs]; simp [hle, csle, mS_bnd]) (by dsimp only; rw [hrs]; simp [fle, vle, Fr.get, mI_bnd, hwc]))
        · have hnm : (c : Int) ∈ pre := by simpa using h
          have hFc : F c = [] := by rw [hF]; simp only [if_pos hnm]
          simp only [w64T3, go_sem, Nat.reduceEqDiff, Nat.reduceAdd, Nat.reduceLT, Nat.reduceLeDiff, reduceIte, reduceCtorEq]
          refine round1 rfl ⟨c + 1, by omega⟩ [some 0] (by dsimp only; omega) (Wk.mk0 rfl (by simp [imgs, Blk.alive]) (by dsimp only; rw [hrs, hFc, List.append_nil]; simp [hle, csle, mS_bnd]) (by dsimp only; rw [hrs, hFc, List.append_nil]; simp [fle, vle, Fr.get, mI_bnd, hwc]))
    · have hz2 : decide ((c : Int) < n) = false := decide_eq_false (by omega)
      obtain rfl : c = n := by omega
      simp only [w64L0, hz2, w64T4, go_sem, Nat.reduceEqDiff, Nat.reduceAdd, Nat.reduceLT, Nat.reduceLeDiff, reduceIte, reduceCtorEq]
      exact leaf (.sl false false (mS ((List.range c).flatMap F))) (vle_mS rfl (by simp) rfl take_mS) ⟨rfl, rfl⟩

set_option maxHeartbeats 2000000 in
theorem s64nil (m : Nat) (hbm : m + 1 = n) : Abs.Spec Try.prog 64 [I n, nilSl] [] fun v H' => H' = [] ∧ v = .sl false false (mS (Sp.dealsR n (m + 1) [])) := by
    refine Abs.Spec.walk mixed fn64 nn64 t64 q64 nt64 (by simp) ?_
    have hz : (((0 : Nat) : Int) == n) = false := by rw [beq_eq_false_iff_ne]; omega
    have hz' : ((0 : Int) == n) = false := by rw [beq_eq_false_iff_ne]; omega
    obtain ⟨F, hF⟩ : ∃ F : Nat → List (List Int), F = fun (x : Nat) => if (x : Int) ∈ ([] : List Int) then [] else Sp.dealsR n m ([] ++ [(x : Int)]) := ⟨_, rfl⟩
    rw [deals_unfold, ← hF]
    simp only [w64, hz, hz', go_sem, Nat.reduceEqDiff, Nat.reduceAdd, Nat.reduceLT, Nat.reduceLeDiff, reduceIte, reduceCtorEq]
    refine W_loop (fun q : { c : Nat // c ≤ n } => ([(0, I n), (1, nilSl), (5, own 0 0 ((List.range q.1).flatMap F).length ((List.range q.1).flatMap F).length 1), (16, I n), (17, I q.1)], [.cells (mS ((List.range q.1).flatMap F))])) (fun q => n - q.1)
      ⟨0, by omega⟩ [none] (Wk.mk0 rfl (by simp [imgs, Blk.alive]) (by simp [hle, mS]) (by simp [fle, vle, Fr.get, mI_bnd])) ?_
    rintro ⟨c, hcn⟩
    dsimp only
    by_cases hc : c < n
    · have hz2 : decide ((c : Int) < n) = true := decide_eq_true (by omega)
      have hwc : IntKind.i64.wrap ((c : Int) + 1) = c + 1 := wrap64 (by omega) (by omega)
      simp only [w64L0, hz2, go_sem, Nat.reduceEqDiff, Nat.reduceAdd, Nat.reduceLT, Nat.reduceLeDiff, reduceIte, reduceCtorEq]
      refine W_loop (fun _ : Unit => ([(0, I n), (1, nilSl), (5, own 0 0 ((List.range c).flatMap F).length ((List.range c).flatMap F).length 1), (6, I c), (7, B false), (16, I n), (17, I c), (21, I 0), (22, I 0)], [.cells (mS ((List.range c).flatMap F))])) (fun _ => 0)
        () [some 0] (Wk.mk0 rfl (by simp [imgs, Blk.alive]) (by simp [hle, csle, mS_bnd]) (by simp [fle, vle, Fr.get])) ?_
      intro _
      dsimp only
      have hz3 : decide ((0 : Int) < 0) = false := rfl
      have hrs : (List.range (c + 1)).flatMap F = (List.range c).flatMap F ++ F c := by rw [List.range_succ, List.flatMap_append]; simp
      simp only [w64L1, w64T2, hz3, go_sem, Nat.reduceEqDiff, Nat.reduceAdd, Nat.reduceLT, Nat.reduceLeDiff, reduceIte, reduceCtorEq]
      have hnm : (c : Int) ∉ ([] : List Int) := by simp
      have hFc : F c = Sp.dealsR n m ([] ++ [(c : Int)]) := by rw [hF]; simp only [if_neg hnm]
      have hl6 := flat_len6 hn (show m ≤ 5 by omega) hcn []
      rw [← hF] at hl6
      have hl7 := deals_len hn m ([] ++ [(c : Int)])
      have h6 : 6 ^ m ≤ 6 ^ 5 := Nat.pow_le_pow_right (by omega) (show m ≤ 5 by omega)
      refine ⟨by omega, ?_⟩
      refine CallK.by (CallV.of_spec (Spec.giveK (args1 := [I n, .sl false false (mI ([] ++ [(c : Int)]))]) (HK := [.cells (mS ((List.range c).flatMap F)), .cells [I c], .dead]) (s64 hn m ([] ++ [(c : Int)]) (by simp; omega) (by simp)) (by simp [bndL, AVal.bnd, mI_bnd]) (by simp [AVal.bnd, mS_bnd]) rfl (fun k b hk => ?_) rfl
        ⟨rfl, vle_mI (cs := mI [(c : Int)]) rfl (by simp [imgs, idρ, Blk.alive]) (by simp) rfl, trivial⟩)) fun v H' ⟨e1, e2⟩ => ?_
      · match k, hk with
        | 0, hk => simp at hk; subst hk; exact .inr ⟨rfl, by simp [blkOk, mS_bnd]⟩
        | 1, hk => simp at hk; subst hk; exact .inr ⟨rfl, by simp [blkOk, bndL, AVal.bnd]⟩
        | 2, hk => simp at hk; subst hk; exact .inl rfl
        | k + 3, hk => simp at hk
      subst e1 e2
      rw [← hFc] at hl7 ⊢
      by_cases hFe : F c = []
      · have hzz : (((List.range c).flatMap F).length + ([] : List (List Int)).length ≤ ((List.range c).flatMap F).length) = True := by simp
        rw [hFe]
        have hdr : List.drop ((List.range c).flatMap F).length ((List.range c).flatMap F) = [] := List.drop_length
        simp only [w64T3, hzz, List.append_nil, Nat.add_zero, hdr, go_sem, Nat.reduceEqDiff, Nat.reduceAdd, Nat.reduceLT, Nat.reduceLeDiff, reduceIte, reduceCtorEq]
        refine round1 rfl ⟨c + 1, by omega⟩ [some 0] (by dsimp only; omega) (Wk.mk0 rfl (by simp [imgs, Blk.alive]) (by dsimp only; rw [hrs, hFe, List.append_nil]; simp [hle, csle, mS_bnd]) (by dsimp only; rw [hrs, hFe, List.append_nil]; simp [fle, vle, Fr.get, mI_bnd, hwc]))
      · have hpos : 0 < (F c).length := List.length_pos_iff.2 hFe
        have hzz : ¬ (((List.range c).flatMap F).length + (F c).length ≤ ((List.range c).flatMap F).length) := by omega
        simp only [w64T3, hzz, go_sem, Nat.reduceEqDiff, Nat.reduceAdd, Nat.reduceLT, Nat.reduceLeDiff, reduceIte, reduceCtorEq]
        refine ⟨by omega, ?_⟩
        refine round1 rfl ⟨c + 1, by omega⟩ [some 3] (by dsimp only; omega) (Wk.mk0 rfl (by simp [imgs, Blk.alive]) (by dsimp only; rw [hrs]; simp [hle, csle, mS_bnd]) (by dsimp only; rw [hrs]; simp [fle, vle, Fr.get, mI_bnd, hwc]))
    · have hz2 : decide ((c : Int) < n) = false := decide_eq_false (by omega)
      obtain rfl : c = n := by omega
      simp only [w64L0, hz2, w64T4, go_sem, Nat.reduceEqDiff, Nat.reduceAdd, Nat.reduceLT, Nat.reduceLeDiff, reduceIte, reduceCtorEq]
      exact leaf (.sl false false (mS ((List.range c).flatMap F))) (vle_mS rfl (by simp) rfl take_mS) ⟨rfl, rfl⟩
end
end Go.Proofs.Ytkmmngphcodjjaa
