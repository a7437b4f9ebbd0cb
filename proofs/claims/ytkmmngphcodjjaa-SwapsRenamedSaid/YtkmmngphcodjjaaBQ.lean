/- Contracts: the program's first order that makes a deal. -/
import Derived.Test.YtkmmngphcodjjaaBP
namespace Go.Proofs.Ytkmmngphcodjjaa
open Go.Abs AVal
set_option linter.unusedSimpArgs false
attribute [local go_sem] W_skip W_keep KQ_canon canon Fr.norm W_seq W_block W_exit W_ret W_ops W_draw KQ_nil KQ_norm_seq KQ_exit_seq KQ_ret_seq KQ_norm_block KQ_ret_block KQ_exit_block KQ_exit_loop KQ_ret_loop O_nil O_cons S_call S_mv SE_mv SD_mv S_pick SE_pick SD_pick S_bin SE_bin SD_bin S_eqb SE_eqb SD_eqb S_eqv SE_eqv SD_eqv S_eqnil SE_eqnil SD_eqnil S_un SE_un SD_un S_conv SE_conv SD_conv S_mkfn SE_mkfn SD_mkfn S_load SE_load SD_load S_nilck SE_nilck SD_nilck S_slS SE_slS SD_slS S_slP SE_slP SD_slP S_fldA SE_fldA SD_fldA S_fld SE_fld SD_fld S_ixS SE_ixS SD_ixS S_ixP SE_ixP SD_ixP S_ixV SE_ixV SD_ixV S_ixStr SE_ixStr SD_ixStr S_ext SE_ext SD_ext S_len SE_len SD_len S_lenStr SE_lenStr SD_lenStr S_lenc SE_lenc SD_lenc S_mn SE_mn SD_mn S_mx SE_mx SD_mx S_build SE_build SD_build S_alloc SD_alloc S_box SD_box S_bslice SD_bslice S_mksl SD_mksl S_store SD_store S_append SD_append S_copy SD_copy S_clr SD_clr aq_some aa_some al_some aqd_some aad_some ald_some ape_some D_done D_both D_early D_step SE_call SD_call IOpd.ev Fr.get Fr.put Fr.putd entryFr pickA binA binI isSh shI eqbA eqvA ints ints_mI Option.map_some eqnilA unA convA loadA nilckA intA slSA slPA fldAA fldVA ixSA ixPA ixVA ixStrA extA lenA lenStrA mnA mxA AVal.fits fillA fillOk buildA opa srcA appA stoA copA clrA rdFree zeros List.length_nil List.length_cons List.length_map List.map_cons List.map_nil Option.map_some Option.map_none if_true if_false ite_true ite_false true_and and_true and_self implies_true forall_const true_implies Bool.false_eq_true Bool.not_true Bool.not_false decide_eq_true_eq decide_eq_false_iff_not eq_self List.getElem?_cons_zero List.getElem?_cons_succ List.getElem?_nil List.set_cons_zero List.set_cons_succ List.nil_append List.cons_append List.append_nil List.replicate_zero List.replicate_succ Nat.zero_add false_implies rng_lt rng_end rng_get cells_I cells_B cells_sl cut_one Int.toNat_natCast Int.natCast_nonneg List.headD_cons Int.lt_irrefl not_false_eq_true decide_false decide_true mI_length mI_cells mI_sz mI_isCell mI_mid mI_append mI_take mI_drop cells_val cells_own cells_agg isCell_I isCell_B isCell_nil isCell_sl isCell_own isCell_ptr isCell_fn isCell_rp isCell_yld cellsOk_I cellsOk_B cellsOk_nil cellsOk_sl cellsOk_own cellsOk_ptr cellsOk_fn cellsOk_rp cellsOk_yld cellsOk_agg cells_nil cells_ptr cells_fn cells_rp List.all_cons List.all_nil Bool.and_true Nat.mul_one Nat.zero_mul Nat.one_mul List.take_zero List.take_nil List.drop_nil List.drop_zero List.not_mem_nil Nat.le_refl Nat.zero_le mS_length mS_cells mS_sz mS_isCell mS_mid mS_append mS_take mS_drop cells_sI isCell_sI cellsOk_sI sI_eq succ_le_self' List.take_succ_cons List.drop_succ_cons List.take_length beq_self_eq_true List.mem_cons or_false forall_eq mI_put mI_rep O_guard' D_earlyG' D_stepG' W_cond' G_tt G_tf G_ft G_ff GE_tt GE_tf GE_ft GE_ff GS_tt GS_tf GS_ft GS_ff G_u GE_u GS_u IC_t IC_f xft xff xtt xtf z00 z20 z22 z02 zz tn0

/-- What is dealt lies in a block of its own. -/
theorem s62o (nn t nn' t' : Bool) (w : List (List Int)) (o : List Int) (g : Sp.Good w) (ho : o.length ≤ w.length) (hr : ∀ x ∈ o, 0 ≤ x ∧ x < w.length) :
    Abs.Spec Try.prog 62 [.sl nn t (mS w), .sl nn' t' (mI o)] [] fun v H' => v = .own 0 0 (Sp.turnsP w o).length w.length 1 ∧ H' = [.cells (mI (Sp.turnsP w o))] := by
  have g1 := g.n1
  have g6 := g.n6
  refine Abs.Spec.walk mixed fn62 nn62 t62 q62 nt62 (by simp) ?_
  simp only [w62, go_sem, Nat.reduceEqDiff, Nat.reduceAdd, Nat.reduceLT, Nat.reduceLeDiff, reduceIte, reduceCtorEq]
  refine ⟨⟨Int.le_refl _, by omega, by omega⟩, ?_⟩
  refine W_loop (fun p : { p : (List Int × List Int) × Int × List Int // p.1.1 ++ p.1.2 = o ∧ Sp.Left w.length p.2.1 p.1.2.length ∧ p.2.2.length = w.length ∧ Sp.turnsG w p.1.2 p.2.1 p.2.2 = Sp.turnsP w o } =>
    ([(0, sl nn t (mS w)), (5, own 0 0 w.length w.length 1), (6, I p.1.2.1), (16, sl nn' t' (mI o)), (17, I o.length), (18, I p.1.1.1.length)], [.cells (mI p.1.2.2)])) (fun p => p.1.1.2.length)
    ⟨(([], o), Sp.fullS w.length, List.replicate w.length 0), rfl, ⟨(Sp.left_full g6).set, (Sp.left_full g6).lt, Nat.le_trans ho (Sp.left_full g6).pc⟩, by simp, rfl⟩ [some 0] (Wk.mk0 rfl (by simp [imgs, Blk.alive]) (by simp [hle, csle, mI_rep, mI_bnd]) (by simp [fle, vle, Fr.get, mS_bnd, mI_bnd, Sp.fullS, Sp.shl1, IntKind.bits])) ?_
  rintro ⟨⟨⟨pre, suf⟩, left, D⟩, hp, hleft, hD, hinv⟩
  dsimp only at hp hleft hD hinv
  subst hp
  have hlen : (pre ++ suf).length < 9223372036854775808 := by omega
  cases suf with
  | nil =>
    simp only [w62L0, w62T1, go_sem, Nat.reduceEqDiff, Nat.reduceAdd, Nat.reduceLT, Nat.reduceLeDiff, reduceIte, reduceCtorEq]
    rw [List.append_nil] at hinv
    have hDe : D = Sp.turnsP w pre := by rw [← hinv, Sp.turnsG]
    rw [hDe]
    exact leafO _ _ [some 0] (Wk.mk0 rfl (by simp [imgs, Blk.alive]) (by simp [hle, csle, mI_bnd]) (by simp [fle, vle, Fr.get, Sp.turnsP_len])) ⟨rfl, rfl⟩
  | cons x suf =>
    obtain ⟨hx0, hxn⟩ := hr x (by simp)
    obtain ⟨i, rfl⟩ : ∃ i : Nat, x = i := ⟨x.toNat, by omega⟩
    have hi : i < w.length := by omega
    have hi' : (i : Int) < w.length := by omega
    obtain ⟨c, hc, hb, hcl⟩ := hleft.best g hi
    have hiD : i < D.length := by omega
    have hbest : ∀ H, CallV Try.prog (.fn (.func 81) [] []) [.sl nn t (mS w), I i, I left] H fun v H' => v = I c ∧ H' = H := fun H => by
      rw [← hb]
      exact liftV (s81 nn t w i left hi (fun c hc => (g.rng _ (Sp.getD_mem hi) c hc).1) (by have := g.len _ (Sp.getD_mem (d := []) hi); omega) (hleft.bit g hi)) (by simp [bndL, AVal.bnd, mS_bnd]) rfl H
    have hset : (D.set i c).length = w.length := by rw [List.length_set, hD]
    have hiS : i < (D.set i (c : Int)).length := by omega
    have hget : (D.set i (c : Int)).getD i 0 = c := by simp [List.getD_eq_getElem?_getD, hiD]
    simp only [w62L0, hi', go_sem, Nat.reduceEqDiff, Nat.reduceAdd, Nat.reduceLT, Nat.reduceLeDiff, reduceIte, reduceCtorEq]
    refine CallK.pure (hbest _) ?_
    have hwk : IntKind.i64.wrap ((pre.length : Int) + 1) = pre.length + 1 := wrap64 (by simp at hlen; omega) (by simp at hlen; omega)
    simp only [hi', mI_put, Sp.put_set, hiD, hiS, mI_hd, hget, go_sem, Nat.reduceEqDiff, Nat.reduceAdd, Nat.reduceLT, Nat.reduceLeDiff, reduceIte, reduceCtorEq]
    refine ⟨by omega, by omega, ?_⟩
    refine round1 rfl ⟨((pre ++ [(i : Int)], suf), Sp.butI left (Sp.shl1 c), D.set i c), by simp, hleft.step (by omega), hset, by rw [← hinv, Sp.turnsG, Int.toNat_natCast, hb]⟩ [some 0] (by simp) (Wk.mk0 rfl (by simp [imgs, Blk.alive]) (by simp [hle, csle, mI_bnd]) (by simp [fle, vle, Fr.get, hwk, mS_bnd, mI_bnd, Sp.butI, Sp.shl1, IntKind.bits]))


theorem s43o (t : Bool) (xs : List Int) (h1 : 1 ≤ xs.length) (hl : xs.length ≤ 137438953472) : Abs.Spec Try.prog 43 [.sl false t (mI xs)] [] fun v H' => v = .own 0 0 xs.length xs.length 1 ∧ H' = [.cells (mI xs)] := by
  refine Spec.split_nil (fun h => by have : xs = [] := by simpa [mI] using h
                                     subst this; simp at h1) ?_
  refine Abs.Spec.walk mixed fn43 nn43 t43 q43 nt43 (by simp) ?_
  have h0 : ¬ xs.length ≤ 0 := by omega
  simp only [w43, h0, go_sem, Nat.reduceEqDiff, Nat.reduceAdd, Nat.reduceLT, Nat.reduceLeDiff, reduceIte, reduceCtorEq]
  refine ⟨by omega, ?_⟩
  exact leafO _ _ [some 1] (Wk.mk0 rfl (by simp [imgs, Blk.alive]) (by simp [hle, csle, mI_bnd]) (by simp [fle, vle, Fr.get])) ⟨rfl, rfl⟩

/-- What Order answers. -/
def orderP (w : List (List Int)) (d : List Int) : Option (List Int) := (Sp.allDeals w.length).find? fun o => Sp.turnsP w o == d
def orderA (w : List (List Int)) (d : List Int) : AVal := if Sp.valid w && Sp.isOrder d w.length then (match orderP w d with
  | some o => .tup [.sl false false (mI o), I 0]
  | none => .tup [.sl false false (mI []), I 4]) else .tup [.sl false false (mI []), I 2]

noncomputable def rngLoop (st : LoopState) (pend : Option Code) (fr : Fr) : Blk := .loop st pend fr 34 #[26] (asOf Try.f31 0) (bdOf Try.f31 0)
noncomputable def Hp31 (w : List (List Int)) (d : List Int) (fr : Fr) : AHeap := [.cells [.sl false false (mI d)], .cells [nilSl], .cells [I 0], .cells [.sl false false (mS w)], .defs, rngLoop .ready none fr]
noncomputable def Hs31 (w : List (List Int)) (d : List Int) (fr : Fr) (o : List Int) : AHeap := [.cells [.sl false false (mI d)], .cells [.sl false false (mI o)], .cells [I 0], .cells [.sl false false (mS w)], .defs, rngLoop .done (some .ret) fr]
theorem ok31 {w : List (List Int)} {d : List Int} {fr : Fr} {B : Nat} (hb : (fr.all fun p => p.2.bnd B) = true) (o : List Int) : (∀ x ∈ Hp31 w d fr, blkOk B x = true) ∧ ∀ x ∈ Hs31 w d fr o, blkOk B x = true := by
  constructor <;> intro x hx <;> simp only [Hp31, Hs31, List.mem_cons, List.not_mem_nil, or_false] at hx <;> rcases hx with rfl | rfl | rfl | rfl | rfl | rfl <;> first | exact hb | simp [blkOk, bndL, AVal.bnd, mI_bnd, mS_bnd, vid]

set_option maxHeartbeats 2000000 in
theorem y31 {w : List (List Int)} {d : List Int} {fr : Fr} (g : Sp.Good w) (hd : d.length < 9223372036854775808) (h3 : fr.get 3 = ptr 0 0) (h4 : fr.get 4 = ptr 1 0) (h5 : fr.get 5 = ptr 2 0) (h6 : fr.get 6 = ptr 3 0) (hb : (fr.all fun p => p.2.bnd 10) = true) (set : Int) (D : List Int) (hD : DOk w.length set D) :
    CallV Try.prog (.yld 5) [.own 7 0 w.length w.length 1] (HS (Hp31 w d fr) 6 5 w.length set D) fun v H' => ((Sp.turnsP w D == d) = false ∧ v = B true ∧ H' = HS (Hp31 w d fr) 6 5 w.length set D) ∨ ((Sp.turnsP w D == d) = true ∧ v = B false ∧ H' = HS (Hs31 w d fr D) 6 5 w.length set D) := by
  have g1 := g.n1
  have g6 := g.n6
  have hDl := hD.len
  refine CallV.yldW mixed (L := 5) (fr := fr) (n := 34) (ps := [26]) rfl t31R0a t31R0b rfl (by simp) ?_
  simp only [w31R0a, putArgs, go_sem, Nat.reduceEqDiff, Nat.reduceAdd, Nat.reduceLT, Nat.reduceLeDiff, reduceIte, reduceCtorEq]
  refine ⟨rfl, ?_⟩
  have hlend : ∀ H' : AHeap, H'[7]? = some (.cells (mI D)) → vle.vleL H' [] [] 3 [.own 7 0 w.length w.length 1] [.sl false false (mI D)] := fun H' hH => ⟨vle_mI hH (by simp) hDl.symm (by rw [← hDl, take_mI]), trivial⟩
  simp only [w31R0b, HS, Hp31, rngLoop, h6, go_sem, Nat.reduceEqDiff, Nat.reduceAdd, Nat.reduceLT, Nat.reduceLeDiff, reduceIte, reduceCtorEq]
  have htl := Sp.turnsP_len w D
  refine ⟨by simp, CallKD.fills (by omega) (fun H' hf => CallV.of_spec (Spec.lendInts (s62o false false false false w D g (by omega) hD.rng) ⟨⟨mS_bnd, fun h => h, fun h => h, rfl⟩, (hlend H' (hf 7 _ rfl (by simp))).1, trivial⟩)) ?_⟩
  simp only [h3, go_sem, Nat.reduceEqDiff, Nat.reduceAdd, Nat.reduceLT, Nat.reduceLeDiff, reduceIte, reduceCtorEq]
  refine CallKD.pure (liftV (s20 false false false false (Sp.turnsP w D) d (by omega)) (by simp [bndL, AVal.bnd, mI_bnd]) rfl) ?_
  simp only [go_sem, Nat.reduceEqDiff, Nat.reduceAdd, Nat.reduceLT, Nat.reduceLeDiff, reduceIte, reduceCtorEq]
  refine IC.split (fun hp => ?_) fun hp => ?_
  · simp only [go_sem, Nat.reduceEqDiff, Nat.reduceAdd, Nat.reduceLT, Nat.reduceLeDiff, reduceIte, reduceCtorEq]
    refine CallK.pure (CallV.of_spec (Spec.lendInts (s43o false D (by omega) (by omega)) (hlend _ rfl))) ?_
    simp only [h4, h5, go_sem, Nat.reduceEqDiff, Nat.reduceAdd, Nat.reduceLT, Nat.reduceLeDiff, reduceIte, reduceCtorEq]
    exact ⟨idρ 10, HS (Hs31 w d fr D) 6 5 w.length set D, WkB (B := 10) rfl (HS_ok D (by omega) (ok31 hb D).2) (by simp), .inr ⟨hp, rfl, rfl⟩⟩
  · simp only [go_sem, Nat.reduceEqDiff, Nat.reduceAdd, Nat.reduceLT, Nat.reduceLeDiff, reduceIte, reduceCtorEq]
    exact ⟨idρ 10, HS (Hp31 w d fr) 6 5 w.length set D, WkB (B := 10) rfl (HS_ok D (by omega) (ok31 hb D).1) (by simp), .inl ⟨hp, rfl, rfl⟩⟩

set_option maxHeartbeats 2000000 in
theorem s31r {w : List (List Int)} {d : List Int} {fr : Fr} (g : Sp.Good w) (hd : d.length < 9223372036854775808) (h3 : fr.get 3 = ptr 0 0) (h4 : fr.get 4 = ptr 1 0) (h5 : fr.get 5 = ptr 2 0) (h6 : fr.get 6 = ptr 3 0) (h25 : fr.get 25 = .fn (.func 82) [] [.rp [I w.length], .rp [I (Sp.fullS w.length)]])
    (hb6 : (fr.all fun p => p.2.bnd 6) = true) (hb10 : (fr.all fun p => p.2.bnd 10) = true)
    (hA : orderA w d = match orderP w d with
      | some o => .tup [.sl false false (mI o), I 0]
      | none => .tup [.sl false false (mI []), I 4]) :
    W ⟨Try.prog, 0, 34, true⟩ (retA 0 r31 fun v H' => H' = [] ∧ v = orderA w d) (.range (.t 25) [26] (asOf Try.f31 0) (bdOf Try.f31 0)) [.block 0, .seq c31T0] fr
      [.cells [.sl false false (mI d)], .cells [nilSl], .cells [I 0], .cells [.sl false false (mS w)]] [] := by
  refine W_range rfl h25 ((s82 (Hp := Hp31 w d fr) (Hs := Hs31 w d fr) (b := 6) (L := 5) (n := w.length) (set := Sp.fullS w.length) (p := fun o => Sp.turnsP w o == d) rfl (by omega) g.n1 g.n6 (ok31 hb6 []).1 (ok31 hb10 []).1 (fun _ => rfl) (fun o => (ok31 hb6 o).2) (fun o => (ok31 hb10 o).2) (fun D hD => y31 g hd h3 h4 h5 h6 hb10 _ D hD)).mono fun v H' hv => ?_)
  rw [Sp.comps_all g.n6] at hv
  unfold allR at hv
  unfold orderP at hA
  cases hf : (Sp.allDeals w.length).find? fun o => Sp.turnsP w o == d with
  | none =>
    rw [hf] at hv hA
    dsimp only at hv hA
    subst hv
    refine ⟨.ready, none, rfl, (fun h => by cases h), ?_⟩
    show KQ _ _ .norm _ _ _ _
    simp only [Hp31, w31T0, h4, h5, go_sem, Nat.reduceEqDiff, Nat.reduceAdd, Nat.reduceLT, Nat.reduceLeDiff, reduceIte, reduceCtorEq]
    exact leafCC nilSl (I 4) (.tup [.sl false false (mI []), I 4]) (p := 0 + 1 ≤ 1 ∧ (false = false → 1 = 1)) (q := 0 + 1 ≤ 1 ∧ (false = false → 1 = 1)) rfl (by rw [h4]; rfl) (by rw [h5]; rfl) ⟨by simp, by simp⟩ ⟨by simp, by simp⟩ ⟨⟨mI_bnd, rfl, rfl⟩, rfl, trivial⟩ ⟨rfl, hA.symm⟩
  | some o =>
    rw [hf] at hv hA
    dsimp only at hv hA
    subst hv
    refine ⟨.done, some .ret, rfl, (fun h => by cases h), ?_⟩
    show KQ _ _ .ret _ _ _ _
    simp only [Hs31, go_sem, Nat.reduceEqDiff, Nat.reduceAdd, Nat.reduceLT, Nat.reduceLeDiff, reduceIte, reduceCtorEq]
    exact leafCC (.sl false false (mI o)) (I 0) (.tup [.sl false false (mI o), I 0]) (p := 0 + 1 ≤ 1 ∧ (false = false → 1 = 1)) (q := 0 + 1 ≤ 1 ∧ (false = false → 1 = 1)) rfl (by rw [h4]; rfl) (by rw [h5]; rfl) ⟨by simp, by simp⟩ ⟨by simp, by simp⟩ ⟨⟨mI_bnd, fun h => h, fun h => h, rfl⟩, rfl, trivial⟩ ⟨rfl, hA.symm⟩

set_option maxHeartbeats 2000000 in
theorem s31 (w : List (List Int)) (d : List Int) (hw : ∀ l ∈ w, l.length < 9223372036854775808) (hl : w.length < 9223372036854775808) (hd : d.length < 9223372036854775808) :
    Abs.Spec Try.prog 31 [.sl false false (mS w), .sl false false (mI d)] [] fun v H' => H' = [] ∧ v = orderA w d := by
  refine Abs.Spec.walk mixed fn31 nn31 t31 q31 nt31 (by simp) ?_
  have eBad : (Sp.valid w && Sp.isOrder d w.length) = false → orderA w d = .tup [.sl false false (mI []), I 2] := fun h => by rw [orderA, h]; rfl
  simp only [w31R0a, w31R0b, w31T0, w31, go_sem, Nat.reduceEqDiff, Nat.reduceAdd, Nat.reduceLT, Nat.reduceLeDiff, reduceIte, reduceCtorEq]
  refine CallK.pure (liftV (s55 false false w hw hl) (by simp [bndL, AVal.bnd, mS_bnd]) rfl _) ?_
  simp only [go_sem, Nat.reduceEqDiff, Nat.reduceAdd, Nat.reduceLT, Nat.reduceLeDiff, reduceIte, reduceCtorEq]
  refine G.split (fun hv => ?_) fun hv => ?_
  · have hv : Sp.valid w = false := by simpa using hv
    simp only [go_sem, Nat.reduceEqDiff, Nat.reduceAdd, Nat.reduceLT, Nat.reduceLeDiff, reduceIte, reduceCtorEq]
    exact leafCC nilSl (I 2) (.tup [.sl false false (mI []), I 2]) rfl rfl rfl ⟨by simp, by simp⟩ ⟨by simp, by simp⟩ ⟨⟨mI_bnd, rfl, rfl⟩, rfl, trivial⟩ ⟨rfl, (eBad (by rw [hv]; rfl)).symm⟩
  have hv : Sp.valid w = true := by simpa using hv
  have g := Sp.valid_good hv
  have g1 := g.n1
  have g6 := g.n6
  simp only [go_sem, Nat.reduceEqDiff, Nat.reduceAdd, Nat.reduceLT, Nat.reduceLeDiff, reduceIte, reduceCtorEq]
  refine CallK.pure (liftV (s59 false false d w.length hd) (by simp [bndL, AVal.bnd, mI_bnd]) rfl _) ?_
  simp only [go_sem, Nat.reduceEqDiff, Nat.reduceAdd, Nat.reduceLT, Nat.reduceLeDiff, reduceIte, reduceCtorEq]
  refine IC.split (fun ha => ?_) fun ha => ?_
  · have ha : Sp.isOrder d w.length = false := by simpa using ha
    simp only [go_sem, Nat.reduceEqDiff, Nat.reduceAdd, Nat.reduceLT, Nat.reduceLeDiff, reduceIte, reduceCtorEq]
    exact leafCC nilSl (I 2) (.tup [.sl false false (mI []), I 2]) rfl rfl rfl ⟨by simp, by simp⟩ ⟨by simp, by simp⟩ ⟨⟨mI_bnd, rfl, rfl⟩, rfl, trivial⟩ ⟨rfl, (eBad (by rw [hv, ha]; rfl)).symm⟩
  have ha : Sp.isOrder d w.length = true := by simpa using ha
  have hA : orderA w d = match orderP w d with
    | some o => .tup [.sl false false (mI o), I 0]
    | none => .tup [.sl false false (mI []), I 4] := by rw [orderA, hv, ha]; rfl
  simp only [go_sem, Nat.reduceEqDiff, Nat.reduceAdd, Nat.reduceLT, Nat.reduceLeDiff, reduceIte, reduceCtorEq]
  refine CallK.pure (liftV (s63 w.length (Sp.fullS w.length)) (by simp [bndL, AVal.bnd]) (by simp [bndL, AVal.bnd]) _) ?_
  simp only [go_sem, Nat.reduceEqDiff, Nat.reduceAdd, Nat.reduceLT, Nat.reduceLeDiff, reduceIte, reduceCtorEq]
  exact s31r g hd rfl rfl rfl rfl rfl (by simp [AVal.bnd, bndL, mI_bnd, mS_bnd]) (by simp [AVal.bnd, bndL, mI_bnd, mS_bnd]) hA
end Go.Proofs.Ytkmmngphcodjjaa
