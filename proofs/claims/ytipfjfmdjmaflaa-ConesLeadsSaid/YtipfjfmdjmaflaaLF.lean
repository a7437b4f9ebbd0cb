/- Contracts: all basic moves. -/
import Derived.Test.YtipfjfmdjmaflaaLE
import Derived.Test.YtipfjfmdjmaflaaKH
namespace Go.Proofs.Ytipfjfmdjmaflaa
open Go.Abs AVal Go.Abs.Srt
set_option linter.unusedSimpArgs false
attribute [local go_sem] W_skip W_keep KQ_canon canon Fr.norm W_seq W_block W_scope W_exit W_ret W_ops W_draw KQ_nil KQ_norm_seq KQ_exit_seq KQ_ret_seq KQ_norm_block KQ_ret_block KQ_exit_block KQ_exit_loop KQ_ret_loop O_nil O_cons S_call S_mv SE_mv SD_mv S_pick SE_pick SD_pick S_bin SE_bin SD_bin S_eqb SE_eqb SD_eqb S_eqv SE_eqv SD_eqv S_eqnil SE_eqnil SD_eqnil S_un SE_un SD_un S_conv SE_conv SD_conv S_mkfn SE_mkfn SD_mkfn S_load SE_load SD_load S_nilck SE_nilck SD_nilck S_slS SE_slS SD_slS S_slP SE_slP SD_slP S_fldA SE_fldA SD_fldA S_fld SE_fld SD_fld S_ixS SE_ixS SD_ixS S_ixP SE_ixP SD_ixP S_ixV SE_ixV SD_ixV S_ixStr SE_ixStr SD_ixStr S_ext SE_ext SD_ext S_len SE_len SD_len S_lenStr SE_lenStr SD_lenStr S_lenc SE_lenc SD_lenc S_mn SE_mn SD_mn S_mx SE_mx SD_mx S_build SE_build SD_build S_alloc SD_alloc S_box SD_box S_bslice SD_bslice S_mksl SD_mksl S_store SD_store S_append SD_append S_copy SD_copy S_clr SD_clr S_mlen SE_mlen SD_mlen S_mget SE_mget SD_mget S_mval SE_mval SD_mval S_mentry SE_mentry SD_mentry S_mkmap SD_mkmap S_mset SD_mset S_mrange SD_mrange S_mnext mlenA mgetA mvalA mentryA msetA mrangeA cells_mp isCell_mp cellsOk_mp aq_some aa_some al_some alA_some aqd_some aad_some ald_some ape_some D_done D_both D_early D_step SE_call SD_call IOpd.ev Fr.get Fr.put Fr.putd entryFr pickA binA binI isSh shI eqbA eqvA ints ints_mI Option.map_some eqnilA unA convA loadA nilckA intA slSA slPA fldAA fldVA ixSA ixPA ixVA ixStrA extA lenA lenStrA mnA mxA AVal.fits fillA fillOk buildA opa srcA appA stoA copA clrA rdFree zeros List.length_nil List.length_cons List.length_map List.map_cons List.map_nil Option.map_some Option.map_none if_true if_false ite_true ite_false true_and and_true and_self implies_true forall_const true_implies Bool.false_eq_true Bool.not_true Bool.not_false decide_eq_true_eq decide_eq_false_iff_not eq_self List.getElem?_cons_zero List.getElem?_cons_succ List.getElem?_nil List.set_cons_zero List.set_cons_succ List.nil_append List.cons_append List.append_nil List.replicate_zero List.replicate_succ Nat.zero_add false_implies rng_lt rng_end rng_get cells_I cells_B cells_sl cut_one Int.toNat_natCast Int.natCast_nonneg List.headD_cons Int.lt_irrefl not_false_eq_true decide_false decide_true mI_length mI_cells mI_sz mI_isCell mI_mid mI_append mI_take mI_drop cells_val cells_own cells_agg isCell_I isCell_B isCell_nil isCell_sl isCell_own isCell_ptr isCell_fn isCell_rp isCell_yld cellsOk_I cellsOk_B cellsOk_nil cellsOk_sl cellsOk_own cellsOk_ptr cellsOk_fn cellsOk_rp cellsOk_yld cellsOk_agg cells_nil cells_ptr cells_fn cells_rp List.all_cons List.all_nil Bool.and_true Nat.mul_one Nat.zero_mul Nat.one_mul List.take_zero List.take_nil List.drop_nil List.drop_zero List.not_mem_nil Nat.le_refl Nat.zero_le mS_length mS_cells mS_sz mS_isCell mS_mid mS_append mS_take mS_drop cells_sI isCell_sI cellsOk_sI sI_eq succ_le_self' List.take_succ_cons List.drop_succ_cons List.take_length beq_self_eq_true List.mem_cons or_false forall_eq mI_put mI_rep O_guard' D_earlyG' D_stepG' W_cond' G_tt G_tf G_ft G_ff GE_tt GE_tf GE_ft GE_ff GS_tt GS_tf GS_ft GS_ff G_u GE_u GS_u IC_t IC_f xft xff xtt xtf z00 z20 z22 z02 zz tn0
theorem s114 (x : List Int) (hx : x.length = 4) (bx : Sp.inB 1000 x) : Abs.Spec Try.prog 114 [vec x] [] fun v H' => H' = [] ∧ v = I (Sp.size x) := by
  obtain ⟨p, q, r, s, rfl⟩ : ∃ p q r s, x = [p, q, r, s] := by
    match x, hx with
    | [p, q, r, s], _ => exact ⟨p, q, r, s, rfl⟩
  have hp := bx p (by simp)
  have hq := bx q (by simp)
  have hr := bx r (by simp)
  have hs := bx s (by simp)
  have hm : vec [p, q, r, s] = .agg [I p, I q, I r, I s] := rfl
  have ep := Sp.absW_ab (x := p) (by omega) (by omega)
  have eq := Sp.absW_ab (x := q) (by omega) (by omega)
  have er := Sp.absW_ab (x := r) (by omega) (by omega)
  have es := Sp.absW_ab (x := s) (by omega) (by omega)
  have bp := Sp.ab_le.2 hp
  have bq := Sp.ab_le.2 hq
  have br := Sp.ab_le.2 hr
  have bs := Sp.ab_le.2 hs
  have np := Sp.ab_nonneg p
  have nq := Sp.ab_nonneg q
  have nr := Sp.ab_nonneg r
  have ns := Sp.ab_nonneg s
  refine Abs.Spec.walk mixed fn114 nn114 t114 q114 nt114 (by simp) ?_
  have t1 : Int.toNat 1 = 1 := rfl
  have t2 : Int.toNat 2 = 2 := rfl
  have t3 : Int.toNat 3 = 3 := rfl
  simp only [w114, hm, t1, t2, t3, go_sem, Nat.reduceEqDiff, Nat.reduceAdd, Nat.reduceLT, Nat.reduceLeDiff, reduceIte, reduceCtorEq]
  repeat (refine And.intro (by decide) ?_)
  refine CallKD.pure (liftV (s102 p) rfl rfl) ?_
  simp only [t1, go_sem, Nat.reduceEqDiff, Nat.reduceAdd, Nat.reduceLT, Nat.reduceLeDiff, reduceIte, reduceCtorEq]
  repeat (refine And.intro (by decide) ?_)
  refine CallKD.pure (liftV (s102 q) rfl rfl) ?_
  simp only [t2, go_sem, Nat.reduceEqDiff, Nat.reduceAdd, Nat.reduceLT, Nat.reduceLeDiff, reduceIte, reduceCtorEq]
  repeat (refine And.intro (by decide) ?_)
  refine CallKD.pure (liftV (s102 r) rfl rfl) ?_
  simp only [t3, go_sem, Nat.reduceEqDiff, Nat.reduceAdd, Nat.reduceLT, Nat.reduceLeDiff, reduceIte, reduceCtorEq]
  repeat (refine And.intro (by decide) ?_)
  refine CallKD.pure (liftV (s102 s) rfl rfl) ?_
  simp only [go_sem, Nat.reduceEqDiff, Nat.reduceAdd, Nat.reduceLT, Nat.reduceLeDiff, reduceIte, reduceCtorEq]
  refine leaf (I _) rfl ⟨rfl, ?_⟩
  rw [ep, eq, er, es, wrap64 (x := Sp.ab p + Sp.ab q) (by omega) (by omega), wrap64 (x := Sp.ab p + Sp.ab q + Sp.ab r) (by omega) (by omega), wrap64 (by omega) (by omega)]
  rfl
theorem size_bound {x : List Int} (bx : Sp.inB 1000 x) : 0 ≤ Sp.size x ∧ Sp.size x ≤ 4000 := by
  have h := fun i => Sp.ab_le.2 (Sp.inB_getD bx i)
  have h0 := h 0
  have h1 := h 1
  have h2 := h 2
  have h3 := h 3
  have n0 := Sp.ab_nonneg (x.getD 0 0)
  have n1 := Sp.ab_nonneg (x.getD 1 0)
  have n2 := Sp.ab_nonneg (x.getD 2 0)
  have n3 := Sp.ab_nonneg (x.getD 3 0)
  unfold Sp.size; omega
theorem s116 (x y : List Int) (hx : x.length = 4) (hy : y.length = 4) (bx : Sp.inB 1000 x) (b_y : Sp.inB 1000 y) : Abs.Spec Try.prog 116 [vec x, vec y, .rp [.fn (.func 114) [] []]] [] fun v H' => H' = [] ∧ v = I (Sp.size x - Sp.size y) := by
  refine Abs.Spec.walk mixed fn116 nn116 t116 q116 nt116 (by simp) ?_
  have hxl : (mI x).length = 4 := by rw [mI_length, hx]
  have hyl : (mI y).length = 4 := by rw [mI_length, hy]
  have hxc : cut true 4 (mI x) = vec x := cut_vec hx
  have hyc : cut true 4 (mI y) = vec y := cut_vec hy
  have sx := size_bound bx
  have sy := size_bound b_y
  simp only [w116, vec_eq, hxl, hyl, hxc, hyc, go_sem, Nat.reduceEqDiff, Nat.reduceAdd, Nat.reduceLT, Nat.reduceLeDiff, reduceIte, reduceCtorEq]
  refine ⟨allI_cell x, allI_cell y, by decide, ?_⟩
  refine CallKD.pure (liftV (s114 x hx bx) (by simp [bndL, AVal.bnd, mI_bnd, vec]) rfl) ?_
  simp only [vec_eq, hxl, hyl, hxc, hyc, go_sem, Nat.reduceEqDiff, Nat.reduceAdd, Nat.reduceLT, Nat.reduceLeDiff, reduceIte, reduceCtorEq]
  refine CallKD.pure (liftV (s114 y hy b_y) (by simp [bndL, AVal.bnd, mI_bnd, vec]) rfl) ?_
  simp only [go_sem, Nat.reduceEqDiff, Nat.reduceAdd, Nat.reduceLT, Nat.reduceLeDiff, reduceIte, reduceCtorEq]
  exact leaf (I _) rfl ⟨rfl, by rw [wrap64 (by omega) (by omega)]⟩
/-- What is sorted there. -/
def okV (x : List Int) : Prop := x.length = 4 ∧ Sp.inB 1000 x
theorem sortEnv {H0 : AHeap} {id sz : Nat} (hid : id < H0.length) (hok : HOk (LPb H0.length) H0) (hsz : H0[sz]? = some (.cells [.fn (.func 114) [] []])) (hne : sz ≠ id) : SEnv H0 id (.fn (.func 116) [] [.ptr sz 0]) Sp.size okV :=
  ⟨hid, hok, by have := (List.getElem?_eq_some_iff.1 hsz).1; simp [vid, this], fun x h => h.1, fun xs x y hx hy => by
    have hl := CallV.of_spec (first := []) (cap := [.ptr sz 0]) (args := [vec x, vec y]) (Spec.lend (args := [vec x, vec y, .ptr sz 0]) (args' := [vec x, vec y, .rp [.fn (.func 114) [] []]]) (s116 x y hx.1 hy.1 hx.2 hy.2) rfl (H := Hs H0 id xs) ⟨vle_vec _, vle_vec _, by
      refine ⟨rfl, by simp, by simp, ?_⟩
      unfold Hs
      rw [List.getElem?_set_ne hne.symm, hsz]; rfl, trivial⟩)
    exact hl⟩
/-- A sort of nothing. -/
theorem s144n (fv : AVal) (hf : ∀ H, vle H [] [] 3 fv fv) : Abs.Spec Try.prog 144 [nilSl, I 0, I 0, fv] [] fun v H' => H' = [] ∧ v = .tup [] := by
  refine Abs.Spec.walk mixed fn144 nn144 t144 q144 nt144 (by simp) ?_
  have w1 : IntKind.i64.wrap ((0 : Int) + 1) = 1 := rfl
  have z1 : decide ((1 : Int) < 0) = false := rfl
  simp only [w144, w1, go_sem, Nat.reduceEqDiff, Nat.reduceAdd, Nat.reduceLT, Nat.reduceLeDiff, reduceIte, reduceCtorEq]
  refine W_loop (fun _ : Unit => ([(2, I 0), (8, I 1)], [])) (fun _ => 0) () [] (Wk.nil (by simp [fle, vle, Fr.get])) ?_
  intro _
  simp only [w144L0, z1, go_sem, Nat.reduceEqDiff, Nat.reduceAdd, Nat.reduceLT, Nat.reduceLeDiff, reduceIte, reduceCtorEq]
  exact retA_nil (.inl rfl) (p := True) (vs := []) rfl trivial (v := .tup []) trivial ⟨rfl, rfl⟩
theorem s138n (fv : AVal) (hb : fv.bnd 0 = true) (hf : ∀ H, vle H [] [] 3 fv fv) : Abs.Spec Try.prog 138 [nilSl, I 0, fv] [] fun v H' => H' = [] ∧ v = .tup [] := by
  refine Abs.Spec.walk mixed fn138 nn138 t138 q138 nt138 (by simp) ?_
  have z1 : decide ((20 : Int) ≤ 0) = false := rfl
  have z2 : decide ((20 : Int) < 0) = false := rfl
  simp only [w138, go_sem, Nat.reduceEqDiff, Nat.reduceAdd, Nat.reduceLT, Nat.reduceLeDiff, reduceIte, reduceCtorEq]
  refine W_loop (fun _ : Unit => ([(0, nilSl), (1, I 0), (2, fv), (6, I 20), (7, I 0), (8, I 20)], [])) (fun _ => 0) () [] (Wk.nil (by simp [fle, vle, Fr.get, hf])) ?_
  intro _
  simp only [w138L0, z1, w138T1, go_sem, Nat.reduceEqDiff, Nat.reduceAdd, Nat.reduceLT, Nat.reduceLeDiff, reduceIte, reduceCtorEq]
  refine CallK.pure (liftV (s144n fv hf) (by simp [bndL, AVal.bnd, hb]) rfl _) ?_
  simp only [go_sem, Nat.reduceEqDiff, Nat.reduceAdd, Nat.reduceLT, Nat.reduceLeDiff, reduceIte, reduceCtorEq]
  refine W_loop (fun _ : Unit => ([(1, I 0), (6, I 20)], [])) (fun _ => 0) () [] (Wk.nil (by simp [fle, vle, Fr.get])) ?_
  intro _
  simp only [w138L2, z2, go_sem, Nat.reduceEqDiff, Nat.reduceAdd, Nat.reduceLT, Nat.reduceLeDiff, reduceIte, reduceCtorEq]
  exact retA_nil (.inl rfl) (p := True) (vs := []) rfl trivial (v := .tup []) trivial ⟨rfl, rfl⟩
theorem s115n (fv : AVal) (hb : fv.bnd 0 = true) (hf : ∀ H, vle H [] [] 3 fv fv) : Abs.Spec Try.prog 115 [nilSl, fv] [] fun v H' => H' = [] ∧ v = .tup [] := by
  refine Abs.Spec.walk mixed fn115 nn115 t115 q115 nt115 (by simp) ?_
  simp only [w115, go_sem, Nat.reduceEqDiff, Nat.reduceAdd, Nat.reduceLT, Nat.reduceLeDiff, reduceIte, reduceCtorEq]
  refine CallK.pure (liftV (s138n fv hb hf) (by simp [bndL, AVal.bnd, hb]) rfl _) ?_
  simp only [go_sem, Nat.reduceEqDiff, Nat.reduceAdd, Nat.reduceLT, Nat.reduceLeDiff, reduceIte, reduceCtorEq]
  exact retA_nil (.inl rfl) (p := True) (vs := []) rfl trivial (v := .tup []) trivial ⟨rfl, rfl⟩
theorem movesL_ok {rows : List (List Int)} {n : Nat} {x : List Int} (h : x ∈ Sp.movesL rows n) : okV x := by
  obtain ⟨h1, h2, -⟩ := Sp.growL_mem n 0 rfl (Sp.z4_in _ (by omega)) h
  exact ⟨h1, Sp.inB_mono h2 (by have := (Sp.mostOf_le rows).2; omega)⟩
set_option maxHeartbeats 4000000 in
/-- **All basic moves**: those into which none fits of those before, when all moves up to the bound are sorted by size. -/
theorem s85 (rows : List (List Int)) (n : Nat) (hn : n ≤ 4) (h0 : rows ≠ []) (hr : Sp.Rows4 rows) : Abs.Spec Try.prog 85 [matV rows n] [] fun v H' =>
    ∃ l : List (List Int), l.Perm (Sp.movesL rows n) ∧ l.Pairwise (fun x y => Sp.size x ≤ Sp.size y) ∧ v = .own 0 0 (Sp.keepMin [] l).length (Sp.keepMin [] l).length 4 ∧ H' = [.cells (mI (Sp.keepMin [] l).flatten)] := by
  refine Abs.Spec.walk mixed fn85 nn85 t85 q85 nt85 (by simp) ?_
  have hmc : cut true 2 [sl false false (mV rows), I n] = matV rows n := rfl
  have lt : ∀ {H : AHeap} {j b}, H[j]? = some b → j < H.length := fun hj => (List.getElem?_eq_some_iff.1 hj).1
  simp only [w85, matV_eq, hmc, go_sem, Nat.reduceEqDiff, Nat.reduceAdd, Nat.reduceLT, Nat.reduceLeDiff, reduceIte, reduceCtorEq]
  refine ⟨by decide, ?_⟩
  refine CallKD.pure (liftV (s112 rows n h0 hr) (by simp [bndL, matV, AVal.bnd, mV_bnd]) rfl) ?_
  simp only [go_sem, Nat.reduceEqDiff, Nat.reduceAdd, Nat.reduceLT, Nat.reduceLeDiff, reduceIte, reduceCtorEq]
  have hm16 := (Sp.mostOf_le rows).2
  have hlen := Sp.movesL_len (rows := rows) hn
  refine CallKD.by (CallV.of_spec (first := []) (cap := []) (s111 rows n (Sp.mostOf rows) 1 hn hm16 hr [] none [.cells [sl false false (mV rows), I n], .cells [nilSl]] (by show 0 + (Sp.movesL rows n).length < _; omega) (by
    intro i b hi
    match i, hi with
    | 0, hi => simp at hi; subst hi; simp [blkN, bndL, AVal.bnd, mV_bnd]
    | 1, hi => simp at hi; subst hi; rfl
    | i + 2, hi => simp at hi) ⟨fun v hv => by simp at hv, rfl, fun _ => rfl, fun k hk => by cases hk⟩)) fun v H' ⟨hv, id', hm, hto⟩ => ?_
  subst hv
  rw [List.nil_append] at hm
  change Mvs 1 (Sp.movesL rows n) id' H' at hm
  have hok' : HOk (LPb H'.length) H' := (hto.hok (LPb 0) (by
    intro i b hi
    match i, hi with
    | 0, hi => simp at hi; subst hi; simp [blkN, bndL, AVal.bnd, mV_bnd]
    | 1, hi => simp at hi; subst hi; rfl
    | i + 2, hi => simp at hi)).mono fun _ _ h => h.mono (Nat.zero_le _)
  have h1l := lt hm.cell
  obtain ⟨ML, hML⟩ : ∃ ML, ML = Sp.movesL rows n := ⟨_, rfl⟩
  have hMok : ∀ x ∈ ML, okV x := fun x hx => movesL_ok (by rw [← hML]; exact hx)
  -- behind the sort
  obtain ⟨Q, hQ⟩ : ∃ Q : QT, Q = retA 0 r85 fun v H' => ∃ l : List (List Int), l.Perm (Sp.movesL rows n) ∧ l.Pairwise (fun x y => Sp.size x ≤ Sp.size y) ∧ v = .own 0 0 (Sp.keepMin [] l).length (Sp.keepMin [] l).length 4 ∧ H' = [.cells (mI (Sp.keepMin [] l).flatten)] := ⟨_, rfl⟩
  have back : ∀ (l : List (List Int)) {fr : Fr} {H : AHeap}, l.Perm ML → l.Pairwise (fun x y => Sp.size x ≤ Sp.size y) → fr.get 5 = nilSl → fr.get 19 = I l.length → fr.get 20 = I (0 : Int) → vle H [none] [] 3 (fr.get 18) (.sl false false (mV l)) →
      W ⟨Try.prog, 0, 40, true⟩ Q (.loop c85L0) [.block 0, .seq c85T4] fr H [] := by
    intro l fr H hp hs g5 g19 g20 g18
    have hlok : ∀ x ∈ l, okV x := fun x hx => hMok x (hp.mem_iff.1 hx)
    have hll : l.length ≤ 1185921 := by rw [hp.length_eq, hML]; exact hlen
    refine W_loop (fun q : { q : List (List Int) × List (List Int) × List (List Int) // q.1 ++ q.2.1 = l ∧ Sp.keepMin [] l = Sp.keepMin q.2.2 q.2.1 ∧ (∀ x ∈ q.2.2, okV x) ∧ q.2.2.length ≤ q.1.length } => ([(5, .own 0 0 q.1.2.2.length q.1.2.2.length 4), (18, .sl false false (mV l)), (19, I l.length), (20, I q.1.1.length)], [.cells (mI q.1.2.2.flatten)])) (fun q => q.1.2.1.length)
      ⟨([], l, []), rfl, rfl, by simp, Nat.le_refl _⟩ [none] (Wk.mk0 rfl (by simp [imgs, Blk.alive]) (by simp [hle, mI]) ⟨by simp [vle, g5], by simpa [imgs, Blk.alive] using g18, by simp [vle, g19], by simp [vle, g20], trivial⟩) ?_
    rintro ⟨⟨pre, suf, out⟩, hpl, hinv, hout, hol⟩
    dsimp only at hpl hinv hout hol ⊢
    cases suf with
    | nil =>
      have hz : decide ((pre.length : Int) < l.length) = false := decide_eq_false (by rw [← hpl]; simp)
      simp only [w85L0, hz, w85T4, go_sem, Nat.reduceEqDiff, Nat.reduceAdd, Nat.reduceLT, Nat.reduceLeDiff, reduceIte, reduceCtorEq]
      rw [hQ]
      refine leafO (.own 0 0 out.length out.length 4) [.cells (mI out.flatten)] [some 0] (Wk.one rfl rfl mI_bnd (by simp [fle, vle, Fr.get])) ⟨l, by rw [← hML]; exact hp, hs, ?_⟩
      rw [hinv]; exact ⟨rfl, rfl⟩
    | cons x suf =>
      have hz : decide ((pre.length : Int) < l.length) = true := decide_eq_true (by rw [← hpl]; simp; omega)
      have hpll : pre.length < l.length := by rw [← hpl]; simp
      have hpi : (pre.length : Int) < l.length := by omega
      have hget : l.getD pre.length [] = x := by rw [← hpl]; simp [List.getD_eq_getElem?_getD]
      have hxm : x ∈ l := by rw [← hpl]; simp
      obtain ⟨hx4, hxb⟩ := hlok x hxm
      have hxl : (mI x).length = 4 := by rw [mI_length, hx4]
      have hxc : cut true 4 (mI x) = vec x := cut_vec hx4
      have hxo : (vec x).cellsOk = true := allI_cell x
      have hwk : IntKind.i64.wrap ((pre.length : Int) + 1) = ((pre.length + 1 : Nat) : Int) := by rw [wrap64 (by omega) (by omega)]; rfl
      have hmg : (mV l).getD pre.length .any = vec x := by rw [mV_get hpll, hget]
      have hinv' : Sp.keepMin [] l = if out.any (fun y => Sp.fitR y x) then Sp.keepMin out suf else Sp.keepMin (out ++ [x]) suf := by rw [hinv]; rfl
      simp only [w85L0, hz, mV_length, hpll, hmg, cells_vec, hxl, hxc, hxo, go_sem, Nat.reduceEqDiff, Nat.reduceAdd, Nat.reduceLT, Nat.reduceLeDiff, reduceIte, reduceCtorEq]
      refine ⟨by omega, ?_⟩
      refine W_loop (fun q : { j : Nat // j ≤ out.length ∧ ∀ y ∈ out.take j, Sp.fitR y x = false } => ([(5, .own 0 0 out.length out.length 4), (7, ptr 1 0), (18, .sl false false (mV l)), (19, I l.length), (20, I pre.length), (24, .own 0 0 out.length out.length 4), (25, I out.length), (26, I q.1)], [.cells (mI out.flatten), .cells (mI x)])) (fun q => out.length - q.1)
        ⟨0, Nat.zero_le _, by simp⟩ [some 0, some 1] (Wk.mk0 rfl (by simp [imgs, Blk.alive]) (by simp [hle, csle, mI_bnd]) (by simp [fle, vle, Fr.get, mV_bnd])) ?_
      rintro ⟨j, hj, hno⟩
      dsimp only
      have ho4 : ∀ v ∈ out, v.length = 4 := fun v hv => (hout v hv).1
      by_cases hjl : j < out.length
      · have hz2 : decide ((j : Int) < out.length) = true := decide_eq_true (by omega)
        have hwj : IntKind.i64.wrap ((j : Int) + 1) = ((j + 1 : Nat) : Int) := by rw [wrap64 (by omega) (by omega)]; rfl
        obtain ⟨y, hy⟩ : ∃ y, out.getD j [] = y := ⟨_, rfl⟩
        have hym : y ∈ out := by rw [← hy, List.getD_eq_getElem?_getD, List.getElem?_eq_getElem hjl]; exact List.getElem_mem _
        obtain ⟨hy4, hyb⟩ := hout y hym
        have hcj := mF_cut' ho4 hjl
        rw [hy] at hcj
        have hyl : (mI y).length = 4 := by rw [mI_length, hy4]
        have hyc : cut true 4 (mI y) = vec y := cut_vec hy4
        have hyo : (vec y).cellsOk = true := allI_cell y
        have hml : (mI out.flatten).length = out.length * 4 := mF_len ho4
        simp only [w85L1, hz2, hcj, hml, cells_vec, hyl, hyc, hyo, hxl, hxc, go_sem, Nat.reduceEqDiff, Nat.reduceAdd, Nat.reduceLT, Nat.reduceLeDiff, reduceIte, reduceCtorEq]
        repeat (refine And.intro (by omega) ?_)
        refine CallK.pure (liftV (s65 y x hy4 hx4) (by simp [bndL, vec_bnd]) rfl _) ?_
        rw [Sp.fitG_fitR (by omega) hyb hxb]
        cases hf : Sp.fitR y x with
        | true =>
          simp only [w85T3, hwk, go_sem, Nat.reduceEqDiff, Nat.reduceAdd, Nat.reduceLT, Nat.reduceLeDiff, reduceIte, reduceCtorEq]
          have hany : out.any (fun y => Sp.fitR y x) = true := List.any_eq_true.2 ⟨y, hym, hf⟩
          rw [hany] at hinv'
          exact round1 rfl ⟨(pre ++ [x], suf, out), by simp [hpl], hinv', hout, by simp; omega⟩ [some 0] (by simp) (Wk.mk0 rfl (by simp [imgs, Blk.alive]) (by simp [hle, csle, mI_bnd]) (by simp [fle, vle, Fr.get, mV_bnd]))
        | false =>
          simp only [hwj, go_sem, Nat.reduceEqDiff, Nat.reduceAdd, Nat.reduceLT, Nat.reduceLeDiff, reduceIte, reduceCtorEq]
          refine round1 rfl ⟨j + 1, hjl, fun z hz => ?_⟩ [some 0, some 1] (by dsimp only; omega) (Wk.mk0 rfl (by simp [imgs, Blk.alive]) (by simp [hle, csle, mI_bnd]) (by simp [fle, vle, Fr.get, mV_bnd]))
          rw [List.take_add_one, List.getElem?_eq_getElem hjl] at hz
          rcases List.mem_append.1 hz with hz | hz
          · exact hno z hz
          · have : out[j] = y := by rw [← hy, List.getD_eq_getElem?_getD, List.getElem?_eq_getElem hjl]; rfl
            rw [this] at hz
            simp at hz; subst hz; exact hf
      · have hz2 : decide ((j : Int) < out.length) = false := decide_eq_false (by omega)
        have hjo : j = out.length := by omega
        rw [hjo, List.take_length] at hno
        have hany : out.any (fun y => Sp.fitR y x) = false := List.any_eq_false.2 fun y hy => by simp [hno y hy]
        rw [hany] at hinv'
        have dz : mI x ++ List.drop 4 [[I 0, I 0, I 0, I 0]].flatten = mI x := by simp
        have tk : (mI x).take 4 = mI x := List.take_of_length_le (by omega)
        have g8 : (mI out.flatten).take (out.length * 4) = mI out.flatten := List.take_of_length_le (by rw [mF_len ho4]; exact Nat.le_refl _)
        have g9 : out.flatten ++ x = (out ++ [x]).flatten := by simp
        have g10 : (out.length + 1 ≤ out.length) = False := by simp
        have hml : (mI out.flatten).length = out.length * 4 := mF_len ho4
        have hpl2 : pre.length ≤ l.length := by rw [← hpl]; simp
        simp only [w85L1, hz2, w85T2, w85T3, hwk, hxl, hxc, cells_vec, dz, tk, g8, g9, g10, hml, go_sem, Nat.reduceEqDiff, Nat.reduceAdd, Nat.reduceLT, Nat.reduceLeDiff, reduceIte, reduceCtorEq]
        refine ⟨rfl, by omega, ?_⟩
        refine round1 rfl ⟨(pre ++ [x], suf, out ++ [x]), by simp [hpl], hinv', fun z hz => ?_, by simp; omega⟩ [some 3] (by simp) (Wk.mk0 rfl (by simp [imgs, Blk.alive]) (by simp [hle, csle, mI_bnd]) (by simp [fle, vle, Fr.get, mV_bnd]))
        rcases List.mem_append.1 hz with hz | hz
        · exact hout z hz
        · simp at hz; subst hz; exact ⟨hx4, hxb⟩
  rw [← hQ]
  rw [← hML] at hm
  have g1 : (H' ++ [Blk.cells [.val .nilFunc]])[H'.length]? = some (.cells [.val .nilFunc]) := app_get0 _ _
  have g2 : ∀ (b c : Blk), (H' ++ [b]).set H'.length c = H' ++ [c] := fun b c => app_set0 _ _ _
  have g3 : ∀ (b : Blk), (H' ++ [b])[H'.length]? = some b := fun b => app_get0 _ _
  cases id' with
  | none =>
    have hML0 := hm.emp rfl
    have hc : H'[1]? = some (.cells [nilSl]) := hm.cell
    have g4 : ∀ (b : Blk), (H' ++ [b])[1]? = some (.cells [nilSl]) := fun b => by rw [List.getElem?_append_left h1l]; exact hc
    simp only [g1, g2, g4, go_sem, Nat.reduceEqDiff, Nat.reduceAdd, Nat.reduceLT, Nat.reduceLeDiff, reduceIte, reduceCtorEq]
    refine CallK.pure (CallV.of_spec (first := []) (cap := []) (Spec.lend (args' := [nilSl, .fn (.func 116) [] [.rp [.fn (.func 114) [] []]]]) (s115n _ rfl (fun H => by simp [vle, vle.vleL, bndL, AVal.bnd])) rfl ⟨rfl, ⟨rfl, trivial, ⟨rfl, by simp, by simp, by rw [g3]; rfl⟩, trivial⟩, trivial⟩)) ?_
    simp only [g4, go_sem, Nat.reduceEqDiff, Nat.reduceAdd, Nat.reduceLT, Nat.reduceLeDiff, reduceIte, reduceCtorEq]
    exact back [] (by rw [hML0]) .nil rfl rfl rfl ⟨rfl, rfl, rfl⟩
  | some k =>
    obtain ⟨hk1, hk⟩ := hm.blk k rfl
    have hkl := lt hk
    have hc : H'[1]? = some (.cells [own k 0 ML.length ML.length 4]) := hm.cell
    have g4 : ∀ (b : Blk), (H' ++ [b])[1]? = some (.cells [own k 0 ML.length ML.length 4]) := fun b => by rw [List.getElem?_append_left h1l]; exact hc
    simp only [g1, g2, g4, go_sem, Nat.reduceEqDiff, Nat.reduceAdd, Nat.reduceLT, Nat.reduceLeDiff, reduceIte, reduceCtorEq]
    obtain ⟨H1, hH1⟩ : ∃ H1, H1 = H' ++ [Blk.cells [.fn (.func 114) [] []]] := ⟨_, rfl⟩
    have hself : Hs H1 k ML = H1 := by
      have h9 : H1[k]? = some (.cells (mI ML.flatten)) := by rw [hH1, List.getElem?_append_left hkl]; exact hk
      obtain ⟨hlt, he⟩ := List.getElem?_eq_some_iff.1 h9
      unfold Hs
      rw [← he]; exact List.set_getElem_self hlt
    have hE : SEnv H1 k (.fn (.func 116) [] [.ptr H'.length 0]) Sp.size okV := sortEnv (by rw [hH1]; simp; omega) (by
      rw [hH1]; exact (hok'.push (by simp [blkN, bndL, AVal.bnd])).mono fun _ _ h => h.mono (by simp)) (by rw [hH1]; exact app_get0 _ _) (by omega)
    have hcall := s115 hE ML hMok (by rw [hML]; omega)
    rw [hself, hH1] at hcall
    refine CallK.by (CallV.of_spec (first := []) (cap := []) hcall) fun v H2 ⟨hv, l, hH2, hp, hs⟩ => ?_
    subst hv hH2
    rw [← hH1]
    have g5 : (Hs H1 k l)[1]? = some (.cells [own k 0 ML.length ML.length 4]) := by
      unfold Hs; rw [List.getElem?_set_ne hk1, hH1]; exact g4 _
    simp only [g5, go_sem, Nat.reduceEqDiff, Nat.reduceAdd, Nat.reduceLT, Nat.reduceLeDiff, reduceIte, reduceCtorEq]
    refine back l hp hs rfl (by rw [← hp.length_eq]; rfl) rfl ?_
    have hl4 : ∀ v ∈ l, v.length = 4 := fun v hv => (hMok v (hp.mem_iff.1 hv)).1
    exact vle_mV hl4 (Hs_get hE.hid) (by simp) hp.length_eq.symm
end Go.Proofs.Ytipfjfmdjmaflaa
