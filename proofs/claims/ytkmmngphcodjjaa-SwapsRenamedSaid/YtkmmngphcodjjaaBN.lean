/- Contracts: choosing in turns. -/
import Derived.Test.YtkmmngphcodjjaaBM
import Derived.Test.YtkmmngphcodjjaaCE
import Derived.Test.YtkmmngphcodjjaaPO
namespace Go.Proofs.Ytkmmngphcodjjaa
open Go.Abs AVal
set_option linter.unusedSimpArgs false
attribute [local go_sem] W_skip W_keep KQ_canon canon Fr.norm W_seq W_block W_exit W_ret W_ops W_draw KQ_nil KQ_norm_seq KQ_exit_seq KQ_ret_seq KQ_norm_block KQ_ret_block KQ_exit_block KQ_exit_loop KQ_ret_loop O_nil O_cons S_call S_mv SE_mv SD_mv S_pick SE_pick SD_pick S_bin SE_bin SD_bin S_eqb SE_eqb SD_eqb S_eqv SE_eqv SD_eqv S_eqnil SE_eqnil SD_eqnil S_un SE_un SD_un S_conv SE_conv SD_conv S_mkfn SE_mkfn SD_mkfn S_load SE_load SD_load S_nilck SE_nilck SD_nilck S_slS SE_slS SD_slS S_slP SE_slP SD_slP S_fldA SE_fldA SD_fldA S_fld SE_fld SD_fld S_ixS SE_ixS SD_ixS S_ixP SE_ixP SD_ixP S_ixV SE_ixV SD_ixV S_ixStr SE_ixStr SD_ixStr S_ext SE_ext SD_ext S_len SE_len SD_len S_lenStr SE_lenStr SD_lenStr S_lenc SE_lenc SD_lenc S_mn SE_mn SD_mn S_mx SE_mx SD_mx S_build SE_build SD_build S_alloc SD_alloc S_box SD_box S_bslice SD_bslice S_mksl SD_mksl S_store SD_store S_append SD_append S_copy SD_copy S_clr SD_clr aq_some aa_some al_some aqd_some aad_some ald_some ape_some D_done D_both D_early D_step SE_call SD_call IOpd.ev Fr.get Fr.put Fr.putd entryFr pickA binA binI isSh shI eqbA eqvA ints ints_mI Option.map_some eqnilA unA convA loadA nilckA intA slSA slPA fldAA fldVA ixSA ixPA ixVA ixStrA extA lenA lenStrA mnA mxA AVal.fits fillA fillOk buildA opa srcA appA stoA copA clrA rdFree zeros List.length_nil List.length_cons List.length_map List.map_cons List.map_nil Option.map_some Option.map_none if_true if_false ite_true ite_false true_and and_true and_self implies_true forall_const true_implies Bool.false_eq_true Bool.not_true Bool.not_false decide_eq_true_eq decide_eq_false_iff_not eq_self List.getElem?_cons_zero List.getElem?_cons_succ List.getElem?_nil List.set_cons_zero List.set_cons_succ List.nil_append List.cons_append List.append_nil List.replicate_zero List.replicate_succ Nat.zero_add false_implies rng_lt rng_end rng_get cells_I cells_B cells_sl cut_one Int.toNat_natCast Int.natCast_nonneg List.headD_cons Int.lt_irrefl not_false_eq_true decide_false decide_true mI_length mI_cells mI_sz mI_isCell mI_mid mI_append mI_take mI_drop cells_val cells_own cells_agg isCell_I isCell_B isCell_nil isCell_sl isCell_own isCell_ptr isCell_fn isCell_rp isCell_yld cellsOk_I cellsOk_B cellsOk_nil cellsOk_sl cellsOk_own cellsOk_ptr cellsOk_fn cellsOk_rp cellsOk_yld cellsOk_agg cells_nil cells_ptr cells_fn cells_rp List.all_cons List.all_nil Bool.and_true Nat.mul_one Nat.zero_mul Nat.one_mul List.take_zero List.take_nil List.drop_nil List.drop_zero List.not_mem_nil Nat.le_refl Nat.zero_le mS_length mS_cells mS_sz mS_isCell mS_mid mS_append mS_take mS_drop cells_sI isCell_sI cellsOk_sI sI_eq succ_le_self' List.take_succ_cons List.drop_succ_cons List.take_length beq_self_eq_true List.mem_cons or_false forall_eq mI_put mI_rep O_guard' D_earlyG' D_stepG' W_cond' G_tt G_tf G_ft G_ff GE_tt GE_tf GE_ft GE_ff GS_tt GS_tf GS_ft GS_ff G_u GE_u GS_u IC_t IC_f xft xff xtt xtf z00 z20 z22 z02 zz tn0

theorem s62 (nn t nn' t' : Bool) (w : List (List Int)) (o : List Int) (g : Sp.Good w) (ho : o.length ≤ w.length) (hr : ∀ x ∈ o, 0 ≤ x ∧ x < w.length) :
    Abs.Spec Try.prog 62 [.sl nn t (mS w), .sl nn' t' (mI o)] [] fun v H' => H' = [] ∧ v = .sl false false (mI (Sp.turnsP w o)) := by
  have g1 := g.n1
  have g6 := g.n6
  refine Abs.Spec.walk mixed fn62 nn62 t62 q62 nt62 (by simp) ?_
  simp only [w62, go_sem, Nat.reduceEqDiff, Nat.reduceAdd, Nat.reduceLT, Nat.reduceLeDiff, reduceIte, reduceCtorEq]
  refine ⟨⟨Int.le_refl _, by omega, by omega⟩, ?_⟩
  refine W_loop (fun p : { p : (List Int × List Int) × Int × List Int // p.1.1 ++ p.1.2 = o ∧ Sp.Left w.length p.2.1 p.1.2.length ∧ p.2.2.length = w.length ∧ Sp.turnsG w p.1.2 p.2.1 p.2.2 = Sp.turnsP w o } =>
    ([(0, sl nn t (mS w)), (5, own 0 0 w.length w.length 1), (6, I p.1.2.1), (16, sl nn' t' (mI o)), (17, I o.length), (18, I p.1.1.1.length)], [.cells (mI p.1.2.2)])) (fun p => p.1.1.2.length)
    ⟨(([], o), Sp.fullS w.length, List.replicate w.length 0), rfl, ⟨(Sp.left_full g6).set, (Sp.left_full g6).lt, Nat.le_trans ho (Sp.left_full g6).pc⟩, by simp, rfl⟩ [some 0] (Wk.mk0 rfl (by simp [imgs, Blk.alive]) (by simp [hle, csle, mI_rep, mI_bnd]) (by simp [fle, vle, Fr.get, mS_bnd, mI_bnd, Sp.fullS, Sp.shl1, IntKind.bits])) ?_
  rintro ⟨⟨⟨pre, suf⟩, left, D⟩, hp, hleft, hD, hinv⟩
  dsimp only at hp hleft hD hinv
  subst hp
  have hlen : (pre ++ suf).length < 9223372036854775808 := by omega
  cases suf with
  | nil =>
    simp only [w62L0, w62T1, go_sem, Nat.reduceEqDiff, Nat.reduceAdd, Nat.reduceLT, Nat.reduceLeDiff, reduceIte, reduceCtorEq]
    rw [List.append_nil] at hinv
    exact leaf (.sl false false (mI (Sp.turnsP w pre))) (vle_mI rfl (by simp) (Sp.turnsP_len _ _).symm (by rw [← hinv, Sp.turnsG, ← hD, take_mI])) ⟨rfl, rfl⟩
  | cons x suf =>
    obtain ⟨hx0, hxn⟩ := hr x (by simp)
    obtain ⟨i, rfl⟩ : ∃ i : Nat, x = i := ⟨x.toNat, by omega⟩
    have hi : i < w.length := by omega
    have hi' : (i : Int) < w.length := by omega
    obtain ⟨c, hc, hb, hcl⟩ := hleft.best g hi
    have hiD : i < D.length := by omega
    have hbest : ∀ H, CallV Try.prog (.fn (.func 81) [] []) [.sl nn t (mS w), I i, I left] H fun v H' => v = I c ∧ H' = H := fun H => by
      rw [← hb]
      exact liftV (s81 nn t w i left hi (fun c hc => (g.rng _ (Sp.getD_mem hi) c hc).1) (by have := g.len _ (Sp.getD_mem (d := []) hi); omega) (hleft.bit g hi)) (by simp [bndL, AVal.bnd, mS_bnd]) rfl H
    have hset : (D.set i c).length = w.length := by rw [List.length_set, hD]
    have hiS : i < (D.set i (c : Int)).length := by omega
    have hget : (D.set i (c : Int)).getD i 0 = c := by simp [List.getD_eq_getElem?_getD, hiD]
    simp only [w62L0, hi', go_sem, Nat.reduceEqDiff, Nat.reduceAdd, Nat.reduceLT, Nat.reduceLeDiff, reduceIte, reduceCtorEq]
    refine CallK.pure (hbest _) ?_
    have hwk : IntKind.i64.wrap ((pre.length : Int) + 1) = pre.length + 1 := wrap64 (by simp at hlen; omega) (by simp at hlen; omega)
    simp only [hi', mI_put, Sp.put_set, hiD, hiS, mI_hd, hget, go_sem, Nat.reduceEqDiff, Nat.reduceAdd, Nat.reduceLT, Nat.reduceLeDiff, reduceIte, reduceCtorEq]
    refine ⟨by omega, by omega, ?_⟩
    refine round1 rfl ⟨((pre ++ [(i : Int)], suf), Sp.butI left (Sp.shl1 c), D.set i c), by simp, hleft.step (by omega), hset, by rw [← hinv, Sp.turnsG, Int.toNat_natCast, hb]⟩ [some 0] (by simp) (Wk.mk0 rfl (by simp [imgs, Blk.alive]) (by simp [hle, csle, mI_bnd]) (by simp [fle, vle, Fr.get, hwk, mS_bnd, mI_bnd, Sp.butI, Sp.shl1, IntKind.bits]))

theorem s30 (w : List (List Int)) (o : List Int) (hw : ∀ l ∈ w, l.length < 9223372036854775808) (hl : w.length < 9223372036854775808) (ho : o.length < 9223372036854775808) :
    Abs.Spec Try.prog 30 [.sl false false (mS w), .sl false false (mI o)] [] fun v H' => H' = [] ∧ v = if Sp.valid w && Sp.isOrder o w.length then .tup [.sl false false (mI (Sp.turnsP w o)), I 0] else .tup [.sl false false (mI []), I 2] := by
  refine Abs.Spec.walk mixed fn30 nn30 t30 q30 nt30 (by simp) ?_
  simp only [w30, go_sem, Nat.reduceEqDiff, Nat.reduceAdd, Nat.reduceLT, Nat.reduceLeDiff, reduceIte, reduceCtorEq]
  refine CallK.by (CallV.of_spec (s55 false false w hw hl)) fun v H' ⟨h1, h2⟩ => ?_
  subst h1 h2
  simp only [go_sem, Nat.reduceEqDiff, Nat.reduceAdd, Nat.reduceLT, Nat.reduceLeDiff, reduceIte, reduceCtorEq]
  refine G.split (fun hv => ?_) fun hv => ?_
  · have hv : Sp.valid w = false := by simpa using hv
    simp only [go_sem, Nat.reduceEqDiff, Nat.reduceAdd, Nat.reduceLT, Nat.reduceLeDiff, reduceIte, reduceCtorEq]
    exact leaf2 (.tup [.sl false false (mI []), I 2]) ⟨⟨mI_bnd, rfl, rfl⟩, rfl, trivial⟩ ⟨rfl, by rw [hv]; rfl⟩
  have hv : Sp.valid w = true := by simpa using hv
  have g := Sp.valid_good hv
  simp only [go_sem, Nat.reduceEqDiff, Nat.reduceAdd, Nat.reduceLT, Nat.reduceLeDiff, reduceIte, reduceCtorEq]
  refine CallK.by (CallV.of_spec (s59 false false o w.length ho)) fun v H' ⟨h1, h2⟩ => ?_
  subst h1 h2
  simp only [go_sem, Nat.reduceEqDiff, Nat.reduceAdd, Nat.reduceLT, Nat.reduceLeDiff, reduceIte, reduceCtorEq]
  refine IC.split (fun ha => ?_) fun ha => ?_
  · have ha : Sp.isOrder o w.length = false := by simpa using ha
    simp only [go_sem, Nat.reduceEqDiff, Nat.reduceAdd, Nat.reduceLT, Nat.reduceLeDiff, reduceIte, reduceCtorEq]
    exact leaf2 (.tup [.sl false false (mI []), I 2]) ⟨⟨mI_bnd, rfl, rfl⟩, rfl, trivial⟩ ⟨rfl, by rw [hv, ha]; rfl⟩
  have ha : Sp.isOrder o w.length = true := by simpa using ha
  obtain ⟨h1, h2, -⟩ := Sp.order_spec g.n6 ha
  simp only [go_sem, Nat.reduceEqDiff, Nat.reduceAdd, Nat.reduceLT, Nat.reduceLeDiff, reduceIte, reduceCtorEq]
  refine CallK.by (CallV.of_spec (s62 false false false false w o g (by omega) h2)) fun v H' ⟨h1, h2⟩ => ?_
  subst h1 h2
  simp only [go_sem, Nat.reduceEqDiff, Nat.reduceAdd, Nat.reduceLT, Nat.reduceLeDiff, reduceIte, reduceCtorEq]
  exact leaf2 (.tup [.sl false false (mI (Sp.turnsP w o)), I 0]) ⟨⟨mI_bnd, fun h => (by cases h), fun h => (by cases h), rfl⟩, rfl, trivial⟩ ⟨rfl, by rw [hv, ha]; rfl⟩

/-- The reference's turns. -/
theorem s32 (nn t nn' t' : Bool) (w : List (List Int)) (o : List Int) (g : Sp.Good w) (ho : o.length ≤ w.length) (hr : ∀ x ∈ o, 0 ≤ x ∧ x < w.length) :
    Abs.Spec Try.prog 32 [.sl nn t (mS w), .sl nn' t' (mI o)] [] fun v H' => H' = [] ∧ v = .sl false false (mI (Sp.turnsP w o)) := by
  have g1 := g.n1
  have g6 := g.n6
  refine Abs.Spec.walk mixed fn32 nn32 t32 q32 nt32 (by simp) ?_
  simp only [w32, go_sem, Nat.reduceEqDiff, Nat.reduceAdd, Nat.reduceLT, Nat.reduceLeDiff, reduceIte, reduceCtorEq]
  refine ⟨⟨Int.le_refl _, by omega, by omega⟩, ?_⟩
  refine W_loop (fun p : { p : (List Int × List Int) × (Int × Int) × List Int // p.1.1 ++ p.1.2 = o ∧ Sp.Left w.length p.2.1.2 p.1.2.length ∧ Sp.TakenOf w.length p.2.1.1 p.2.1.2 ∧ p.2.2.length = w.length ∧ Sp.turnsG w p.1.2 p.2.1.2 p.2.2 = Sp.turnsP w o } =>
    ([(0, sl nn t (mS w)), (5, own 0 0 w.length w.length 1), (6, I p.1.2.1.1), (13, sl nn' t' (mI o)), (14, I o.length), (15, I p.1.1.1.length)], [.cells (mI p.1.2.2)])) (fun p => p.1.1.2.length)
    ⟨(([], o), (0, Sp.fullS w.length), List.replicate w.length 0), rfl, ⟨(Sp.left_full g6).set, (Sp.left_full g6).lt, Nat.le_trans ho (Sp.left_full g6).pc⟩, Sp.taken_zero g6, by simp, rfl⟩ [some 0] (Wk.mk0 rfl (by simp [imgs, Blk.alive]) (by simp [hle, csle, mI_rep, mI_bnd]) (by simp [fle, vle, Fr.get, mS_bnd, mI_bnd])) ?_
  rintro ⟨⟨⟨pre, suf⟩, ⟨taken, left⟩, D⟩, hp, hleft, htk, hD, hinv⟩
  dsimp only at hp hleft htk hD hinv
  subst hp
  have hlen : (pre ++ suf).length < 9223372036854775808 := by omega
  cases suf with
  | nil =>
    simp only [w32L0, w32T4, go_sem, Nat.reduceEqDiff, Nat.reduceAdd, Nat.reduceLT, Nat.reduceLeDiff, reduceIte, reduceCtorEq]
    rw [List.append_nil] at hinv
    exact leaf (.sl false false (mI (Sp.turnsP w pre))) (vle_mI rfl (by simp) (Sp.turnsP_len _ _).symm (by rw [← hinv, Sp.turnsG, ← hD, take_mI])) ⟨rfl, rfl⟩
  | cons x suf =>
    obtain ⟨hx0, hxn⟩ := hr x (by simp)
    obtain ⟨i, rfl⟩ : ∃ i : Nat, x = i := ⟨x.toNat, by omega⟩
    have hi : i < w.length := by omega
    have hi' : (i : Int) < w.length := by omega
    obtain ⟨c, hc, hb, hcl⟩ := hleft.best g hi
    have hiD : i < D.length := by omega
    have hrow := g.len _ (Sp.getD_mem (d := []) hi)
    have hrng := g.rng _ (Sp.getD_mem (d := []) hi)
    have hwn : IntKind.i64.wrap ((w.length : Int) - 1) = w.length - 1 := wrap64 (by omega) (by omega)
    have hwk : IntKind.i64.wrap ((pre.length : Int) + 1) = pre.length + 1 := wrap64 (by simp at hlen; omega) (by simp at hlen; omega)
    obtain ⟨q, hq⟩ : ∃ q : Int → Bool, q = fun c => Sp.bitAt taken c == 0 := ⟨_, rfl⟩
    have hpick := Sp.pick_taken g htk hleft hi (D.getD i 0)
    rw [hb, ← hq] at hpick
    simp only [w32L0, hi', go_sem, Nat.reduceEqDiff, Nat.reduceAdd, Nat.reduceLT, Nat.reduceLeDiff, reduceIte, reduceCtorEq]
    refine W_loop (fun p : { m : Nat // m ≤ w.length } =>
      ([(0, sl nn t (mS w)), (5, own 0 0 w.length w.length 1), (6, I taken), (8, I i), (9, I ((p.1 : Int) - 1)), (13, sl nn' t' (mI (pre ++ (i : Int) :: suf))), (14, I (pre ++ (i : Int) :: suf).length), (15, I pre.length)],
       [.cells (mI (D.set i (Sp.pickT q (D.getD i 0) ((w.getD i []).drop p.1))))])) (fun p => p.1)
      ⟨w.length, Nat.le_refl _⟩ [some 0] (Wk.mk0 rfl (by simp [imgs, Blk.alive]) ?_ (by simp [fle, vle, Fr.get, mS_bnd, mI_bnd, hwn])) ?_
    · have e : D.set i (Sp.pickT q (D.getD i 0) ((w.getD i []).drop w.length)) = D := by
        rw [List.drop_of_length_le (by omega), Sp.pickT, List.getD_eq_getElem?_getD, List.getElem?_eq_getElem hiD]
        exact List.set_getElem_self hiD
      dsimp only
      rw [e]
      simp [hle, csle, mI_bnd]
    rintro ⟨m, hm⟩
    dsimp only
    cases m with
    | zero =>
      rw [List.drop_zero, hpick]
      have hget : (D.set i (c : Int)).getD i 0 = c := by simp [List.getD_eq_getElem?_getD, hiD]
      have hiS : i < (D.set i (c : Int)).length := by simpa using hiD
      have hz : decide ((((0 : Nat) : Int) - 1) ≥ 0) = false := rfl
      simp only [w32L1, hz, w32T2, w32T3, mI_hd, hget, hiS, hi', go_sem, Nat.reduceEqDiff, Nat.reduceAdd, Nat.reduceLT, Nat.reduceLeDiff, reduceIte, reduceCtorEq]
      refine ⟨by omega, ?_⟩
      refine round1 rfl ⟨((pre ++ [(i : Int)], suf), (Sp.orI taken (Sp.shl1 c), Sp.butI left (Sp.shl1 c)), D.set i c), by simp, hleft.step (by omega), htk.step hleft.set g6 hc, by rw [List.length_set, hD], by rw [← hinv, Sp.turnsG, Int.toNat_natCast, hb]⟩ [some 0] (by simp) (Wk.mk0 rfl (by simp [imgs, Blk.alive]) (by simp [hle, csle, mI_bnd]) (by simp [fle, vle, Fr.get, hwk, mS_bnd, mI_bnd, Sp.orI, Sp.shl1, IntKind.bits]))
    | succ m =>
      have hmr : m < (w.getD i []).length := by omega
      have hz : decide ((((m + 1 : Nat) : Int) - 1) ≥ 0) = true := decide_eq_true (by omega)
      have e1 : (((m + 1 : Nat) : Int) - 1) = m := by omega
      have hwm : IntKind.i64.wrap ((m : Int) - 1) = m - 1 := wrap64 (by omega) (by omega)
      obtain ⟨x, hx⟩ : ∃ x, x = (w.getD i []).getD m 0 := ⟨_, rfl⟩
      have hx' := hx.symm
      have hxr := hrng x (by rw [hx]; exact Sp.getD_mem hmr)
      have hpd := Sp.pickT_drop (p := q) (d := D.getD i 0) hmr
      rw [hx'] at hpd
      obtain ⟨E, hE⟩ : ∃ E, E = D.set i (Sp.pickT q (D.getD i 0) ((w.getD i []).drop (m + 1))) := ⟨_, rfl⟩
      have hEl : E.length = w.length := by rw [hE, List.length_set, hD]
      have hiE : i < E.length := by omega
      rw [← hE]
      simp only [w32L1, hz, e1, mS_get, hi, mI_get, mI_hd, hmr, hi', hx', go_sem, Nat.reduceEqDiff, Nat.reduceAdd, Nat.reduceLT, Nat.reduceLeDiff, reduceIte, reduceCtorEq]
      refine ⟨by omega, hxr.1, ?_⟩
      refine IC.split (fun h => ?_) fun h => ?_
      · have hqx : q x = true := by rw [hq]; exact h
        rw [if_pos hqx] at hpd
        simp only [mS_get, hi, mI_get, mI_hd, hmr, hi', hx', Sp.put_set, hiE, go_sem, Nat.reduceEqDiff, Nat.reduceAdd, Nat.reduceLT, Nat.reduceLeDiff, reduceIte, reduceCtorEq]
        refine ⟨by omega, by omega, ?_⟩
        refine round1 rfl ⟨m, by omega⟩ [some 0] (by dsimp only; omega) (Wk.mk0 rfl (by simp [imgs, Blk.alive]) (by dsimp only; rw [hpd]; simp [hle, csle, mI_bnd, hE]) (by simp [fle, vle, Fr.get, hwm, mS_bnd, mI_bnd]))
      · have hqx : q x = false := by rw [hq]; exact h
        rw [hqx, if_neg (by simp)] at hpd
        simp only [go_sem, Nat.reduceEqDiff, Nat.reduceAdd, Nat.reduceLT, Nat.reduceLeDiff, reduceIte, reduceCtorEq]
        refine round1 rfl ⟨m, by omega⟩ [some 0] (by dsimp only; omega) (Wk.mk0 rfl (by simp [imgs, Blk.alive]) (by dsimp only; rw [hpd]; simp [hle, csle, mI_bnd, hE]) (by simp [fle, vle, Fr.get, hwm, mS_bnd, mI_bnd]))
end Go.Proofs.Ytkmmngphcodjjaa
