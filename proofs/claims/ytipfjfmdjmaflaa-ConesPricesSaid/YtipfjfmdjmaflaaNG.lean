/- Contracts: the reference's Step. -/
import Derived.Test.YtipfjfmdjmaflaaNF
import Derived.Test.YtipfjfmdjmaflaaMY
namespace Go.Proofs.Ytipfjfmdjmaflaa
open Go.Abs AVal
set_option linter.unusedSimpArgs false
attribute [local go_sem] W_skip W_keep KQ_canon canon Fr.norm W_seq W_block W_scope W_exit W_ret W_ops W_draw KQ_nil KQ_norm_seq KQ_exit_seq KQ_ret_seq KQ_norm_block KQ_ret_block KQ_exit_block KQ_exit_loop KQ_ret_loop O_nil O_cons S_call S_mv SE_mv SD_mv S_pick SE_pick SD_pick S_bin SE_bin SD_bin S_eqb SE_eqb SD_eqb S_eqv SE_eqv SD_eqv S_eqnil SE_eqnil SD_eqnil S_un SE_un SD_un S_conv SE_conv SD_conv S_mkfn SE_mkfn SD_mkfn S_load SE_load SD_load S_nilck SE_nilck SD_nilck S_slS SE_slS SD_slS S_slP SE_slP SD_slP S_fldA SE_fldA SD_fldA S_fld SE_fld SD_fld S_ixS SE_ixS SD_ixS S_ixP SE_ixP SD_ixP S_ixV SE_ixV SD_ixV S_ixStr SE_ixStr SD_ixStr S_ext SE_ext SD_ext S_len SE_len SD_len S_lenStr SE_lenStr SD_lenStr S_lenc SE_lenc SD_lenc S_mn SE_mn SD_mn S_mx SE_mx SD_mx S_build SE_build SD_build S_alloc SD_alloc S_box SD_box S_bslice SD_bslice S_mksl SD_mksl S_store SD_store S_append SD_append S_copy SD_copy S_clr SD_clr aq_some aa_some al_some aqd_some aad_some ald_some ape_some D_done D_both D_early D_step SE_call SD_call IOpd.ev Fr.get Fr.put Fr.putd entryFr pickA binA binI isSh shI eqbA eqvA ints ints_mI Option.map_some eqnilA unA convA loadA nilckA intA slSA slPA fldAA fldVA ixSA ixPA ixVA ixStrA extA lenA lenStrA mnA mxA AVal.fits fillA fillOk buildA opa srcA appA stoA copA clrA rdFree zeros List.length_nil List.length_cons List.length_map List.map_cons List.map_nil Option.map_some Option.map_none if_true if_false ite_true ite_false true_and and_true and_self implies_true forall_const true_implies Bool.false_eq_true Bool.not_true Bool.not_false decide_eq_true_eq decide_eq_false_iff_not eq_self List.getElem?_cons_zero List.getElem?_cons_succ List.getElem?_nil List.set_cons_zero List.set_cons_succ List.nil_append List.cons_append List.append_nil List.replicate_zero List.replicate_succ Nat.zero_add false_implies rng_lt rng_end rng_get cells_I cells_B cells_sl cut_one Int.toNat_natCast Int.natCast_nonneg List.headD_cons Int.lt_irrefl not_false_eq_true decide_false decide_true mI_length mI_cells mI_sz mI_isCell mI_mid mI_append mI_take mI_drop cells_val cells_own cells_agg isCell_I isCell_B isCell_nil isCell_sl isCell_own isCell_ptr isCell_fn isCell_rp isCell_yld cellsOk_I cellsOk_B cellsOk_nil cellsOk_sl cellsOk_own cellsOk_ptr cellsOk_fn cellsOk_rp cellsOk_yld cellsOk_agg cells_nil cells_ptr cells_fn cells_rp List.all_cons List.all_nil Bool.and_true Nat.mul_one Nat.zero_mul Nat.one_mul List.take_zero List.take_nil List.drop_nil List.drop_zero List.not_mem_nil Nat.le_refl Nat.zero_le mS_length mS_cells mS_sz mS_isCell mS_mid mS_append mS_take mS_drop cells_sI isCell_sI cellsOk_sI sI_eq succ_le_self' List.take_succ_cons List.drop_succ_cons List.take_length beq_self_eq_true List.mem_cons or_false forall_eq mI_put mI_rep O_guard' D_earlyG' D_stepG' W_cond' G_tt G_tf G_ft G_ff GE_tt GE_tf GE_ft GE_ff GS_tt GS_tf GS_ft GS_ff G_u GE_u GS_u IC_t IC_f xft xff xtt xtf z00 z20 z22 z02 zz tn0

theorem dp_pad {p x : List Int} (h : p.length = x.length) : Sp.dp (Sp.pad p) (Sp.pad x) = Sp.dp p x := by
  have key : ∀ (p x : List Int) (k : Nat), p.length = x.length → Sp.dp (p ++ List.replicate k 0) (x ++ List.replicate k 0) = Sp.dp p x := by
    intro p
    induction p with
    | nil =>
      intro x k h
      obtain rfl : x = [] := by cases x with
        | nil => rfl
        | cons a b => simp at h
      induction k with
      | zero => rfl
      | succ k ih => rw [List.nil_append] at ih ⊢; rw [List.replicate_succ]; simp only [Sp.dp]; rw [ih]; rfl
    | cons a p ih =>
      intro x k h
      cases x with
      | nil => simp at h
      | cons b x => simp only [List.cons_append, Sp.dp]; rw [ih x k (by simpa using h)]
  unfold Sp.pad
  rw [h]
  exact key p x _ h
/-- What one move leads to, in the reference. -/
def nearR (x : List Int) (l : List (List Int)) : List (List Int) := (l.map (plusV 1 x)).filter fun y => Sp.numbers y 0 1000000
theorem nearR_snoc (x : List Int) (l : List (List Int)) (m : List Int) : nearR x (l ++ [m]) = nearR x l ++ (if Sp.numbers (plusV 1 x m) 0 1000000 then [plusV 1 x m] else []) := by
  unfold nearR; rw [List.map_append, List.filter_append]; simp [List.filter_cons]
/-- The best so far, as a value. -/
def optV : Option (List Int) → AVal
  | none => nilSl
  | some z => .sl false false (mI z)
theorem num_posV {y : List Int} (h : Sp.inB 1000000 y) : Sp.numbers y 0 1000000 = posV y := by
  unfold Sp.numbers posV
  rw [Bool.eq_iff_iff, List.all_eq_true, List.all_eq_true]
  refine ⟨fun k z hz => ?_, fun k z hz => ?_⟩
  · have := k z hz; simp only [Bool.and_eq_true, decide_eq_true_eq] at this; exact decide_eq_true this.1
  · have h1 := of_decide_eq_true (k z hz)
    have h2 := h z hz
    simp only [Bool.and_eq_true, decide_eq_true_eq]; omega
theorem plus_inB {x y : List Int} {A B : Int} (hl : x.length = y.length) (hx : Sp.inB A x) (hy : Sp.inB B y) : Sp.inB (A + B) (plusV 1 x y) := by
  intro z hz
  obtain ⟨j, hj, rfl⟩ := List.getElem_of_mem hz
  unfold plusV at hj ⊢
  rw [List.length_zipWith] at hj
  rw [List.getElem_zipWith]
  have := hx _ (List.getElem_mem (show j < x.length by omega))
  have := hy _ (List.getElem_mem (show j < y.length by omega))
  omega
/-- The reference looks at the same vectors. -/
theorem near_same {a : List (List Int)} {x : List Int} (hm : Sp.mat a = true) (xl : x.length = (a.getD 0 []).length) (bx : Sp.inB 1000 x) (y : List Int) : y ∈ (nearR x (Sp.basL a)).map Sp.pad ↔ y ∈ nearL (Sp.pad x) (Sp.basB (a.map Sp.pad) (a.getD 0 []).length) := by
  obtain ⟨-, -, n1, n4⟩ := mat_rows hm
  have hb : ∀ b ∈ Sp.basL a, b.length = (a.getD 0 []).length ∧ Sp.inB 16 b := fun b hb => ⟨((Sp.mem_basL hm).1 hb).1, Sp.ans_num hm (Sp.basB_is _ _) hb⟩
  unfold nearR nearL
  simp only [List.mem_map, List.mem_filter]
  constructor
  · rintro ⟨z, ⟨⟨b, hbL, rfl⟩, hn⟩, rfl⟩
    obtain ⟨bl, bb⟩ := hb b hbL
    rw [num_posV (Sp.inB_mono (plus_inB (by omega) bx bb) (by decide))] at hn
    exact ⟨⟨Sp.pad b, (Sp.mem_bs hm (Sp.basB_is _ _)).2 ((Sp.mem_basL hm).1 hbL).2, (Sp.pad_plus xl bl).symm⟩, by rw [Sp.posV_pad]; exact hn⟩
  · rintro ⟨⟨m, hmb, rfl⟩, hp⟩
    have hM := (Sp.mem_bs hm (Sp.basB_is _ _)).1 hmb
    have e := Sp.take_pad n4 hM.mv.len hM.mv.pad
    have bl : (m.take (a.getD 0 []).length).length = (a.getD 0 []).length := by rw [List.length_take, hM.mv.len]; omega
    have hbL : m.take (a.getD 0 []).length ∈ Sp.basL a := (Sp.mem_basL hm).2 ⟨bl, by rw [e]; exact hM⟩
    have pe : Sp.pad (plusV 1 x (m.take (a.getD 0 []).length)) = plusV 1 (Sp.pad x) m := by rw [Sp.pad_plus xl bl, e]
    refine ⟨plusV 1 x (m.take (a.getD 0 []).length), ⟨⟨_, hbL, rfl⟩, ?_⟩, pe⟩
    rw [num_posV (Sp.inB_mono (plus_inB (by omega) bx (hb _ hbL).2) (by decide)), ← Sp.posV_pad, pe]
    exact hp
theorem upd_len {pr : List Int → Int} {d0 : Int} {n : Nat} {l : List (List Int)} (hl : ∀ y ∈ l, y.length = n) : ∀ z, Sp.stepF pr d0 l = some z → z.length = n := fun z hz => hl z ((Sp.stepF_is pr d0 l).yes z hz).1
set_option maxRecDepth 20000 in
set_option maxHeartbeats 4000000 in
theorem s35 (a : List (List Int)) (x p : List Int) (ha : ∀ l ∈ a, l.length < 9223372036854775808) (hl : a.length < 9223372036854775808) (hok : prOk a x p 1000 = true) :
    Abs.Spec Try.prog 35 [.sl false false (mS a), .sl false false (mI x), .sl false false (mI p)] [] fun v H' => H' = [] ∧ v = match stepA a (Sp.pad p) (Sp.pad x) with
      | none => .tup [.sl false false (mI []), I 4]
      | some z => .tup [.sl false false (mI (z.take (a.getD 0 []).length)), I 0] := by
  refine Abs.Spec.walk mixed fn35 nn35 t35 q35 nt35 (by simp) ?_
  obtain ⟨hm, xl, pl, Xl, Pl, bX, pX, bP, bp, bx⟩ := prOk_spec (by decide) hok
  obtain ⟨n, hn⟩ : ∃ n, (a.getD 0 []).length = n := ⟨_, rfl⟩
  obtain ⟨r1, r2, n1, n4⟩ := mat_rows hm
  obtain ⟨L, hL⟩ : ∃ L, Sp.basL a = L := ⟨_, rfl⟩
  rw [hn] at n1 n4 ⊢
  have h50 := C50_ok a ha hl hm
  rw [hL] at h50
  have hLl : ∀ y ∈ L, y.length = n := fun y hy => by rw [← hL] at hy; rw [← hn]; exact ((Sp.mem_basL hm).1 hy).1
  have hLb : ∀ y ∈ L, Sp.inB 16 y := fun y hy => by rw [← hL] at hy; exact Sp.ans_num hm (Sp.basB_is _ _) hy
  have hLn : L.length ≤ 400 := by rw [← hL]; exact Sp.ans_len hm (Sp.basB_is _ _)
  simp only [w35, go_sem, Nat.reduceEqDiff, Nat.reduceAdd, Nat.reduceLT, Nat.reduceLeDiff, reduceIte, reduceCtorEq]
  refine CallK.pure (liftV h50 (by simp [bndL, AVal.bnd, mS_bnd]) (by simp [AVal.bnd, mS_bnd]) _) ?_
  simp only [go_sem, Nat.reduceEqDiff, Nat.reduceAdd, Nat.reduceLT, Nat.reduceLeDiff, reduceIte, reduceCtorEq]
  have fin : stepA a (Sp.pad p) (Sp.pad x) = (Sp.stepF (fun y => Sp.dp (Sp.pad p) (Sp.pad y)) (Sp.dp (Sp.pad p) (Sp.pad x)) (nearR x L)).map Sp.pad := by
    have hnl : ∀ y ∈ nearR x L, y.length = n := fun y hy => by
      obtain ⟨hy1, -⟩ := List.mem_filter.1 hy
      obtain ⟨b, hb, rfl⟩ := List.mem_map.1 hy1
      have := hLl b hb
      unfold plusV; rw [List.length_zipWith]; omega
    have e := Sp.stepF_map (pr := Sp.dp (Sp.pad p)) (d0 := Sp.dp (Sp.pad p) (Sp.pad x)) (nearR x L) none hnl (fun z hz => by cases hz)
    have e' : (Sp.stepF (fun y => Sp.dp (Sp.pad p) (Sp.pad y)) (Sp.dp (Sp.pad p) (Sp.pad x)) (nearR x L)).map Sp.pad = Sp.stepF (Sp.dp (Sp.pad p)) (Sp.dp (Sp.pad p) (Sp.pad x)) ((nearR x L).map Sp.pad) := e
    rw [e']
    refine Sp.IsStep.uniq (Sp.stepF_is _ _ _) (Sp.stepF_is _ _ _) fun y => ?_
    rw [← hL]
    exact (near_same hm xl bx y).symm
  obtain ⟨pr, hpr⟩ : ∃ pr : List Int → Int, (fun y => Sp.dp (Sp.pad p) (Sp.pad y)) = pr := ⟨_, rfl⟩
  have hpe : ∀ y : List Int, y.length = n → Sp.dp p y = pr y := fun y hy => by rw [← hpr]; exact (dp_pad (by omega)).symm
  have hpx : Sp.dp (Sp.pad p) (Sp.pad x) = pr x := by rw [← hpr]
  rw [fin, hpr, hpx]
  refine W_loop (fun i : { i : Nat // i ≤ L.length } => ([(1, .sl false false (mI x)), (2, .sl false false (mI p)), (8, optV (Sp.stepF pr (pr x) (nearR x (L.take i.1)))), (13, .sl false false (mS L)), (14, I L.length), (15, I i.1)], [])) (fun i => L.length - i.1) ⟨0, Nat.zero_le _⟩ [] (Wk.nil ⟨⟨mI_bnd, fun h => h, fun h => h, rfl⟩, ⟨mI_bnd, fun h => h, fun h => h, rfl⟩, rfl, ⟨mS_bnd, fun h => h, fun h => h, rfl⟩, rfl, rfl, trivial⟩) ?_
  rintro ⟨i, hi⟩
  dsimp only
  obtain ⟨r, hr⟩ : ∃ r, Sp.stepF pr (pr x) (nearR x (L.take i)) = r := ⟨_, rfl⟩
  have hst := Sp.stepF_is pr (pr x) (nearR x (L.take i))
  rw [hr] at hst ⊢
  have rl : ∀ z, r = some z → z.length = n := fun z hz => upd_len (pr := pr) (d0 := pr x) (l := nearR x (L.take i)) (fun y hy => by
    obtain ⟨hy1, -⟩ := List.mem_filter.1 hy
    obtain ⟨b, hb, rfl⟩ := List.mem_map.1 hy1
    have := hLl b (List.mem_of_mem_take hb)
    unfold plusV; rw [List.length_zipWith]; omega) z (by rw [hr]; exact hz)
  have rbd : ∀ z, r = some z → Sp.inB 100000 z := fun z hz => by
    obtain ⟨hz1, -, -⟩ := hst.yes z hz
    obtain ⟨hy1, -⟩ := List.mem_filter.1 hz1
    obtain ⟨b, hb, rfl⟩ := List.mem_map.1 hy1
    exact Sp.inB_mono (plus_inB (by rw [hLl b (List.mem_of_mem_take hb)]; omega) bx (hLb b (List.mem_of_mem_take hb))) (by decide)
  by_cases hiL : i < L.length
  · have d1 : (i : Int) < L.length := by omega
    obtain ⟨b, hb⟩ : ∃ b, L.getD i [] = b := ⟨_, rfl⟩
    have gb := mS_getD hiL
    rw [hb] at gb
    have bL : b ∈ L := by rw [← hb]; exact gd_mem' hiL
    have bl := hLl b bL
    have bb := hLb b bL
    obtain ⟨y, hy⟩ : ∃ y, plusV 1 x b = y := ⟨_, rfl⟩
    have h79 := s79 x b n n1 n4 (by omega) bl (Sp.inB_mono bx (by decide)) (Sp.inB_mono bb (by decide))
    have yb := plus_inB (by omega) bx bb
    rw [hy] at h79 yb
    have yl : y.length = n := by rw [← hy]; unfold plusV; rw [List.length_zipWith]; omega
    have yb1 : Sp.inB 100000 y := Sp.inB_mono yb (by decide)
    have ltk : L.take (i + 1) = L.take i ++ [b] := by
      rw [List.take_add_one, List.getElem?_eq_getElem hiL, ← hb, List.getD_eq_getElem?_getD, List.getElem?_eq_getElem hiL]; rfl
    have hsn : nearR x (L.take (i + 1)) = nearR x (L.take i) ++ (if Sp.numbers y 0 1000000 then [y] else []) := by rw [ltk, nearR_snoc, hy]
    have ei : IntKind.i64.wrap ((i : Int) + 1) = ((i + 1 : Nat) : Int) := by rw [wrap64 (by omega) (by omega)]; omega
    have h37 : ∀ z : List Int, z.length = n → Sp.inB 100000 z → Abs.Spec Try.prog 37 [.sl false false (mI z), .sl false false (mI p)] [] fun v H' => H' = [] ∧ v = I (pr z) := fun z hz bz => by
      rw [← hpe z hz]; exact s37 false false false false z p (by omega) (by omega) bz bp
    have nx : ∀ r' : Option (List Int), Sp.stepF pr (pr x) (nearR x (L.take (i + 1))) = r' → ∀ {fr : Fr}, (∀ q ∈ [(1, AVal.sl false false (mI x)), (2, .sl false false (mI p)), (8, optV r'), (13, .sl false false (mS L)), (14, I L.length), (15, I ((i + 1 : Nat) : Int))], fr.get q.1 = q.2) → fle [] [] [] fr [(1, AVal.sl false false (mI x)), (2, .sl false false (mI p)), (8, optV (Sp.stepF pr (pr x) (nearR x (L.take (i + 1))))), (13, .sl false false (mS L)), (14, I L.length), (15, I ((i + 1 : Nat) : Int))] := fun r' hr' fr hf => by
      simp only [List.mem_cons, List.not_mem_nil, or_false, forall_eq_or_imp, forall_eq] at hf
      obtain ⟨f1, f2, f8, f13, f14, f15⟩ := hf
      rw [hr']
      have h8 : vle [] [] [] 3 (optV r') (optV r') := by cases r' with
        | none => rfl
        | some z => exact ⟨mI_bnd, fun h => h, fun h => h, rfl⟩
      simp [fle, f1, f2, f8, f13, f14, f15, vle, mI_bnd, mS_bnd]
      exact h8
    simp only [w35L0, d1, gb, go_sem, Nat.reduceEqDiff, Nat.reduceAdd, Nat.reduceLT, Nat.reduceLeDiff, reduceIte, reduceCtorEq]
    refine CallK.pure (liftV h79 (by simp [bndL, AVal.bnd, mI_bnd]) (by simp [AVal.bnd, mI_bnd]) _) ?_
    simp only [go_sem, Nat.reduceEqDiff, Nat.reduceAdd, Nat.reduceLT, Nat.reduceLeDiff, reduceIte, reduceCtorEq]
    refine CallK.pure (liftV (s24 false false y 0 1000000 (by omega)) (by simp [bndL, AVal.bnd, mI_bnd]) rfl _) ?_
    cases hnum : Sp.numbers y 0 1000000 with
    | false =>
      rw [hnum, if_neg (by decide), List.append_nil] at hsn
      simp only [ei, go_sem, Nat.reduceEqDiff, Nat.reduceAdd, Nat.reduceLT, Nat.reduceLeDiff, reduceIte, reduceCtorEq]
      refine round0 rfl ⟨i + 1, hiL⟩ (by dsimp only; omega) rfl (nx r (by rw [hsn, hr]) (by simp [Fr.get]))
    | true =>
      rw [hnum, if_pos rfl] at hsn
      have hsu : Sp.stepF pr (pr x) (nearR x (L.take (i + 1))) = Sp.upd pr (pr x) r y := by rw [hsn, Sp.stepF_snoc, hr]
      simp only [go_sem, Nat.reduceEqDiff, Nat.reduceAdd, Nat.reduceLT, Nat.reduceLeDiff, reduceIte, reduceCtorEq]
      refine CallK.pure (liftV (h37 y yl yb1) (by simp [bndL, AVal.bnd, mI_bnd]) rfl _) ?_
      simp only [go_sem, Nat.reduceEqDiff, Nat.reduceAdd, Nat.reduceLT, Nat.reduceLeDiff, reduceIte, reduceCtorEq]
      refine CallK.pure (liftV (h37 x (by omega) (Sp.inB_mono bx (by decide))) (by simp [bndL, AVal.bnd, mI_bnd]) rfl _) ?_
      by_cases hge : pr y ≥ pr x
      · have z1 : decide (pr y ≥ pr x) = true := decide_eq_true hge
        have hu : Sp.upd pr (pr x) r y = r := by
          cases r with
          | none => simp only [Sp.upd]; rw [if_neg (by omega)]
          | some z =>
            obtain ⟨-, h2, -⟩ := hst.yes z rfl
            simp only [Sp.upd]; rw [if_neg (by omega)]
        simp only [z1, ei, go_sem, Nat.reduceEqDiff, Nat.reduceAdd, Nat.reduceLT, Nat.reduceLeDiff, reduceIte, reduceCtorEq]
        refine round0 rfl ⟨i + 1, hiL⟩ (by dsimp only; omega) rfl (nx r (by rw [hsu, hu]) (by simp [Fr.get]))
      · have z1 : decide (pr y ≥ pr x) = false := decide_eq_false hge
        cases r with
        | none =>
          have hu : Sp.upd pr (pr x) none y = some y := by simp only [Sp.upd]; rw [if_pos (by omega)]
          simp only [z1, optV, ei, go_sem, Nat.reduceEqDiff, Nat.reduceAdd, Nat.reduceLT, Nat.reduceLeDiff, reduceIte, reduceCtorEq]
          refine round0 rfl ⟨i + 1, hiL⟩ (by dsimp only; omega) rfl (nx (some y) (by rw [hsu, hu]) (by simp [Fr.get, optV]))
        | some z =>
          have zl := rl z rfl
          have zb := rbd z rfl
          have zne : ¬ mI z = [] := fun e => by have h := congrArg List.length e; rw [mI_length, List.length_nil] at h; omega
          simp only [z1, optV, ei, go_sem, Nat.reduceEqDiff, Nat.reduceAdd, Nat.reduceLT, Nat.reduceLeDiff, reduceIte, reduceCtorEq]
          refine ⟨zne, CallK.pure (liftV (h37 y yl yb1) (by simp [bndL, AVal.bnd, mI_bnd]) rfl _) ?_⟩
          simp only [go_sem, Nat.reduceEqDiff, Nat.reduceAdd, Nat.reduceLT, Nat.reduceLeDiff, reduceIte, reduceCtorEq]
          refine CallK.pure (liftV (h37 z zl zb) (by simp [bndL, AVal.bnd, mI_bnd]) rfl _) ?_
          by_cases hlt : pr y < pr z
          · have z2 : decide (pr y < pr z) = true := decide_eq_true hlt
            have hu : Sp.upd pr (pr x) (some z) y = some y := by simp only [Sp.upd]; rw [if_pos (.inl hlt)]
            simp only [z2, ei, go_sem, Nat.reduceEqDiff, Nat.reduceAdd, Nat.reduceLT, Nat.reduceLeDiff, reduceIte, reduceCtorEq]
            refine round0 rfl ⟨i + 1, hiL⟩ (by dsimp only; omega) rfl (nx (some y) (by rw [hsu, hu]) (by simp [Fr.get, optV]))
          · have z2 : decide (pr y < pr z) = false := decide_eq_false hlt
            simp only [z2, go_sem, Nat.reduceEqDiff, Nat.reduceAdd, Nat.reduceLT, Nat.reduceLeDiff, reduceIte, reduceCtorEq]
            refine CallK.pure (liftV (h37 y yl yb1) (by simp [bndL, AVal.bnd, mI_bnd]) rfl _) ?_
            simp only [go_sem, Nat.reduceEqDiff, Nat.reduceAdd, Nat.reduceLT, Nat.reduceLeDiff, reduceIte, reduceCtorEq]
            refine CallK.pure (liftV (h37 z zl zb) (by simp [bndL, AVal.bnd, mI_bnd]) rfl _) ?_
            by_cases heq : pr y = pr z
            · have z3 : (pr y == pr z) = true := beq_iff_eq.2 heq
              simp only [z3, go_sem, Nat.reduceEqDiff, Nat.reduceAdd, Nat.reduceLT, Nat.reduceLeDiff, reduceIte, reduceCtorEq]
              refine CallK.pure (liftV (s83 false false false false y z (by omega) (by omega)) (by simp [bndL, AVal.bnd, mI_bnd]) rfl _) ?_
              by_cases hc : Sp.cmpL y z < 0
              · have hu : Sp.upd pr (pr x) (some z) y = some y := by simp only [Sp.upd]; rw [if_pos (.inr ⟨heq, hc⟩)]
                simp only [hc, decide_true, ei, go_sem, Nat.reduceEqDiff, Nat.reduceAdd, Nat.reduceLT, Nat.reduceLeDiff, reduceIte, reduceCtorEq]
                refine round0 rfl ⟨i + 1, hiL⟩ (by dsimp only; omega) rfl (nx (some y) (by rw [hsu, hu]) (by simp [Fr.get, optV]))
              · have hu : Sp.upd pr (pr x) (some z) y = some z := by simp only [Sp.upd]; rw [if_neg (fun h => h.elim hlt fun h => hc h.2)]
                simp only [hc, decide_false, ei, go_sem, Nat.reduceEqDiff, Nat.reduceAdd, Nat.reduceLT, Nat.reduceLeDiff, reduceIte, reduceCtorEq]
                refine round0 rfl ⟨i + 1, hiL⟩ (by dsimp only; omega) rfl (nx (some z) (by rw [hsu, hu]) (by simp [Fr.get, optV]))
            · have z3 : (pr y == pr z) = false := beq_eq_false_iff_ne.2 heq
              have hu : Sp.upd pr (pr x) (some z) y = some z := by simp only [Sp.upd]; rw [if_neg (fun h => h.elim hlt fun h => heq h.1)]
              simp only [z3, ei, go_sem, Nat.reduceEqDiff, Nat.reduceAdd, Nat.reduceLT, Nat.reduceLeDiff, reduceIte, reduceCtorEq]
              refine round0 rfl ⟨i + 1, hiL⟩ (by dsimp only; omega) rfl (nx (some z) (by rw [hsu, hu]) (by simp [Fr.get, optV]))
  · have d1 : ¬ (i : Int) < L.length := by omega
    obtain rfl : i = L.length := by omega
    rw [List.take_length] at hr
    rw [hr]
    cases r with
    | none =>
      simp only [w35L0, w35T1, d1, optV, go_sem, Nat.reduceEqDiff, Nat.reduceAdd, Nat.reduceLT, Nat.reduceLeDiff, reduceIte, reduceCtorEq]
      exact leaf2 (.tup [.sl false false (mI []), I 4]) ⟨⟨rfl, rfl, rfl⟩, rfl, trivial⟩ ⟨rfl, rfl⟩
    | some z =>
      have zl := rl z rfl
      have zne : ¬ mI z = [] := fun e => by have h := congrArg List.length e; rw [mI_length, List.length_nil] at h; omega
      simp only [w35L0, w35T1, d1, optV, go_sem, Nat.reduceEqDiff, Nat.reduceAdd, Nat.reduceLT, Nat.reduceLeDiff, reduceIte, reduceCtorEq]
      refine ⟨zne, leaf2 (.tup [.sl false false (mI z), I 0]) ⟨⟨mI_bnd, fun h => h, fun h => h, rfl⟩, rfl, trivial⟩ ⟨rfl, ?_⟩⟩
      show _ = AVal.tup [.sl false false (mI (List.take n (Sp.pad z))), I 0]
      rw [Sp.pad_take zl]
end Go.Proofs.Ytipfjfmdjmaflaa
