/- Contracts: CheckWay. -/
import Derived.Test.YtipfjfmdjmaflaaOC
import Derived.Test.YtipfjfmdjmaflaaOD
import Derived.Test.YtipfjfmdjmaflaaMH
import Derived.Test.YtipfjfmdjmaflaaML
namespace Go.Proofs.Ytipfjfmdjmaflaa
open Go.Abs AVal
set_option linter.unusedSimpArgs false
attribute [local go_sem] W_skip W_keep KQ_canon canon Fr.norm W_seq W_block W_scope W_exit W_ret W_ops W_draw KQ_nil KQ_norm_seq KQ_exit_seq KQ_ret_seq KQ_norm_block KQ_ret_block KQ_exit_block KQ_exit_loop KQ_ret_loop O_nil O_cons S_call S_mv SE_mv SD_mv S_pick SE_pick SD_pick S_bin SE_bin SD_bin S_eqb SE_eqb SD_eqb S_eqv SE_eqv SD_eqv S_eqnil SE_eqnil SD_eqnil S_un SE_un SD_un S_conv SE_conv SD_conv S_mkfn SE_mkfn SD_mkfn S_load SE_load SD_load S_nilck SE_nilck SD_nilck S_slS SE_slS SD_slS S_slP SE_slP SD_slP S_fldA SE_fldA SD_fldA S_fld SE_fld SD_fld S_ixS SE_ixS SD_ixS S_ixP SE_ixP SD_ixP S_ixV SE_ixV SD_ixV S_ixStr SE_ixStr SD_ixStr S_ext SE_ext SD_ext S_len SE_len SD_len S_lenStr SE_lenStr SD_lenStr S_lenc SE_lenc SD_lenc S_mn SE_mn SD_mn S_mx SE_mx SD_mx S_build SE_build SD_build S_alloc SD_alloc S_box SD_box S_bslice SD_bslice S_mksl SD_mksl S_store SD_store S_append SD_append S_copy SD_copy S_clr SD_clr S_mlen SE_mlen SD_mlen S_mget SE_mget SD_mget S_mval SE_mval SD_mval S_mentry SE_mentry SD_mentry S_mkmap SD_mkmap S_mset SD_mset S_mrange SD_mrange S_mnext mlenA mgetA mvalA mentryA msetA mrangeA cells_mp isCell_mp cellsOk_mp aq_some aa_some al_some alA_some aqd_some aad_some ald_some ape_some D_done D_both D_early D_step SE_call SD_call IOpd.ev Fr.get Fr.put Fr.putd entryFr pickA binA binI isSh shI eqbA eqvA ints ints_mI Option.map_some eqnilA unA convA loadA nilckA intA slSA slPA fldAA fldVA ixSA ixPA ixVA ixStrA extA lenA lenStrA mnA mxA AVal.fits fillA fillOk buildA opa srcA appA stoA copA clrA rdFree zeros List.length_nil List.length_cons List.length_map List.map_cons List.map_nil Option.map_some Option.map_none if_true if_false ite_true ite_false true_and and_true and_self implies_true forall_const true_implies Bool.false_eq_true Bool.not_true Bool.not_false decide_eq_true_eq decide_eq_false_iff_not eq_self List.getElem?_cons_zero List.getElem?_cons_succ List.getElem?_nil List.set_cons_zero List.set_cons_succ List.nil_append List.cons_append List.append_nil List.replicate_zero List.replicate_succ Nat.zero_add false_implies rng_lt rng_end rng_get cells_I cells_B cells_sl cut_one Int.toNat_natCast Int.natCast_nonneg List.headD_cons Int.lt_irrefl not_false_eq_true decide_false decide_true mI_length mI_cells mI_sz mI_isCell mI_mid mI_append mI_take mI_drop cells_val cells_own cells_agg isCell_I isCell_B isCell_nil isCell_sl isCell_own isCell_ptr isCell_fn isCell_rp isCell_yld cellsOk_I cellsOk_B cellsOk_nil cellsOk_sl cellsOk_own cellsOk_ptr cellsOk_fn cellsOk_rp cellsOk_yld cellsOk_agg cells_nil cells_ptr cells_fn cells_rp List.all_cons List.all_nil Bool.and_true Nat.mul_one Nat.zero_mul Nat.one_mul List.take_zero List.take_nil List.drop_nil List.drop_zero List.not_mem_nil Nat.le_refl Nat.zero_le mS_length mS_cells mS_sz mS_isCell mS_mid mS_append mS_take mS_drop cells_sI isCell_sI cellsOk_sI sI_eq succ_le_self' List.take_succ_cons List.drop_succ_cons List.take_length beq_self_eq_true List.mem_cons or_false forall_eq mI_put mI_rep O_guard' D_earlyG' D_stepG' W_cond' G_tt G_tf G_ft G_ff GE_tt GE_tf GE_ft GE_ff GS_tt GS_tf GS_ft GS_ff G_u GE_u GS_u IC_t IC_f xft xff xtt xtf z00 z20 z22 z02 zz tn0
theorem s68g (x y : List Int) (hx : x.length = 4) (hy : y.length = 4) (bx : ∀ z ∈ x, 0 ≤ z ∧ z < 9223372036854775808) (by' : ∀ j, 0 ≤ y.getD j 0 ∧ y.getD j 0 ≤ 100000) : Abs.Spec Try.prog 68 [vec x, I (-1), vec y] [] fun v H' => H' = [] ∧ v = vec (plusV (-1) x y) := by
  refine Abs.Spec.walk mixed fn68 nn68 t68 q68 nt68 (by simp) ?_
  have hxl : (mI x).length = 4 := by rw [mI_length, hx]
  have hyl : (mI y).length = 4 := by rw [mI_length, hy]
  obtain ⟨P, hP⟩ : ∃ P, plusV (-1) x y = P := ⟨_, rfl⟩
  have pl : P.length = 4 := by rw [← hP]; exact plusV_len hx hy
  simp only [w68, vec_eq, hxl, hyl, go_sem, Nat.reduceEqDiff, Nat.reduceAdd, Nat.reduceLT, Nat.reduceLeDiff, reduceIte, reduceCtorEq]
  refine ⟨allI_cell x, allI_cell y, ?_⟩
  have z4e : [I 0, I 0, I 0, I 0] = mI [0, 0, 0, 0] := rfl
  rw [z4e]
  refine W_loop (fun p : { i : Nat // i ≤ 4 } => ([(1, I (-1)), (3, ptr 0 0), (5, ptr 1 0), (6, ptr 2 0), (8, I p.1)], [.cells (mI (P.take p.1 ++ x.drop p.1)), .cells (mI y), .cells (mI [0, 0, 0, 0])])) (fun p => 4 - p.1) ⟨0, by omega⟩ [some 0, some 1, some 2] (Wk.mk0 rfl (by simp [imgs, Blk.alive]) (by simp [hle, csle, mI_bnd]) (by simp [fle, vle, Fr.get])) ?_
  rintro ⟨i, hin⟩
  dsimp only
  have ml : (P.take i ++ x.drop i).length = 4 := by rw [List.length_append, List.length_take, List.length_drop]; omega
  by_cases hi : i < 4
  · have d1 : (i : Int) < 4 := by omega
    have qi : (P.take i ++ x.drop i).getD i 0 = x.getD i 0 := by
      rw [List.getD_eq_getElem?_getD, List.getElem?_append_right (by rw [List.length_take]; omega), List.length_take, List.getElem?_drop, show i + (i - min i P.length) = i by omega, ← List.getD_eq_getElem?_getD]
    have qs : (P.take i ++ x.drop i).set i (P.getD i 0) = P.take (i + 1) ++ x.drop (i + 1) := by
      rw [List.set_append_right _ _ (by rw [List.length_take]; omega), List.length_take, show i - min i P.length = 0 by omega, List.drop_eq_getElem_cons (show i < x.length by omega), List.set_cons_zero, List.getD_eq_getElem?_getD, List.getElem?_eq_getElem (show i < P.length by omega), List.take_add_one, List.getElem?_eq_getElem (show i < P.length by omega)]
      simp only [Nat.sub_self, List.append_assoc, Option.toList, Option.getD_some, List.cons_append, List.nil_append]
    have xi : 0 ≤ x.getD i 0 ∧ x.getD i 0 < 9223372036854775808 := by
      rw [List.getD_eq_getElem?_getD, List.getElem?_eq_getElem (by omega)]; exact bx _ (List.getElem_mem _)
    have yi := by' i
    have pe : P.getD i 0 = x.getD i 0 + -1 * y.getD i 0 := by rw [← hP]; exact plusV_get hx hy i
    have e1 : IntKind.i64.wrap (-1 * y.getD i 0) = -1 * y.getD i 0 := wrap64 (by omega) (by omega)
    have e2 : IntKind.i64.wrap (x.getD i 0 + -1 * y.getD i 0) = P.getD i 0 := by rw [pe]; exact wrap64 (by omega) (by omega)
    have hw : IntKind.i64.wrap ((i : Int) + 1) = i + 1 := wrap64 (by omega) (by omega)
    obtain ⟨Q, hQ⟩ : ∃ Q, P.take i ++ x.drop i = Q := ⟨_, rfl⟩
    rw [hQ] at ml qi qs
    have p1 := mI_hd0 (l := Q) (i := i) (by omega)
    have p2 := mI_hd0 (l := y) (i := i) (by omega)
    have p3 := mI_pt0 (l := Q) (i := i) (by omega) (P.getD i 0)
    rw [qi] at p1
    rw [qs] at p3
    obtain ⟨X, hX⟩ : ∃ X, x.getD i 0 = X := ⟨_, rfl⟩
    obtain ⟨Y, hY⟩ : ∃ Y, y.getD i 0 = Y := ⟨_, rfl⟩
    obtain ⟨Z, hZ⟩ : ∃ Z, P.getD i 0 = Z := ⟨_, rfl⟩
    rw [hX] at p1 e2
    rw [hY] at p2 e1 e2
    rw [hZ] at p3 e2
    rw [hQ]
    simp only [w68L0, d1, p1, p2, e1, e2, p3, hw, go_sem, Nat.reduceEqDiff, Nat.reduceAdd, Nat.reduceLT, Nat.reduceLeDiff, reduceIte, reduceCtorEq]
    refine ⟨by omega, by omega, by omega, by omega, by omega, by omega, ?_⟩
    exact round1 rfl ⟨i + 1, by omega⟩ [some 0, some 1, some 2] (by dsimp only; omega) (Wk.mk0 rfl (by simp [imgs, Blk.alive]) (by simp [hle, csle, mI_bnd]) (by simp [fle, vle, Fr.get]))
  · have d1 : ¬ (i : Int) < 4 := by omega
    have ei : i = 4 := by omega
    subst ei
    rw [List.take_of_length_le (by omega), List.drop_of_length_le (by omega), List.append_nil]
    have pc := cut_vec pl
    have pm : (mI P).length = 4 := by rw [mI_length, pl]
    simp only [w68L0, w68T1, d1, pc, vec_eq, pl, pm, go_sem, Nat.reduceEqDiff, Nat.reduceAdd, Nat.reduceLT, Nat.reduceLeDiff, reduceIte, reduceCtorEq]
    refine ⟨allI_cell P, ?_⟩
    exact leafC (cut true 4 (mI P)) (vec P) rfl ⟨by rw [pm]; omega, fun h => by cases h⟩ (by rw [pc]; exact vle_vec _) ⟨rfl, by rw [hP]; rfl⟩
theorem chn_iff {N : List Int → List Int → Prop} : ∀ {P : List (List Int)}, Chn N P ↔ ∀ i, i + 1 < P.length → N (P.getD i []) (P.getD (i + 1) [])
  | [] => ⟨fun _ i hi => by simp at hi, fun _ => trivial⟩
  | [u] => ⟨fun _ i hi => by simp at hi, fun _ => trivial⟩
  | u :: v :: l => by
    constructor
    · intro h i hi
      cases i with
      | zero => exact h.1
      | succ i => exact chn_iff.1 h.2 i (by simp at hi ⊢; omega)
    · intro h
      exact ⟨h 0 (by simp), chn_iff.2 fun i hi => h (i + 1) (by simp at hi ⊢; omega)⟩
/-- Each of a list is an assortment, and a basic move leads to it from the one before it. -/
def stepOk (a : List (List Int)) (l : List (List Int)) (i : Nat) : Prop :=
  (l.getD i []).length = (a.getD 0 []).length ∧ posV (l.getD i []) = true ∧ (0 < i → Nr a (Sp.pad (l.getD (i - 1) [])) (Sp.pad (l.getD i [])))
def WayOk (a : List (List Int)) (x y : List Int) (l : List (List Int)) : Prop := l.head? = some x ∧ l.getLast? = some y ∧ ∀ i, i < l.length → stepOk a l i
def chkR (a : List (List Int)) (x y : List Int) (l : List (List Int)) (v : AVal) : Prop :=
  (twoOk a x y = false ∧ v = .tup [B false, I 2]) ∨ (twoOk a x y = true ∧ ∃ b, v = .tup [B b, I 0] ∧ (b = true ↔ WayOk a x y l))
theorem minL_pos {l : List Int} (h : l ≠ []) : posV l = true ↔ 0 ≤ Sp.minL l := by
  obtain ⟨M, hM⟩ : ∃ M : Int, ∀ z ∈ l, z ≤ M := by
    clear h
    induction l with
    | nil => exact ⟨0, by simp⟩
    | cons z l ih =>
      obtain ⟨M, hM⟩ := ih
      refine ⟨max z M, fun w hw => ?_⟩
      rcases List.mem_cons.1 hw with rfl | hw
      · omega
      · have := hM w hw; omega
  have h1 := Sp.numbers_iff h (lo := 0) (hi := max M (Sp.maxL l))
  have h2 : Sp.numbers l 0 (max M (Sp.maxL l)) = true ↔ posV l = true := by
    unfold Sp.numbers posV
    rw [List.all_eq_true, List.all_eq_true]
    constructor
    · intro h z hz
      have := h z hz
      simp at this ⊢; omega
    · intro h z hz
      have := h z hz
      have := hM z hz
      simp at *; omega
  rw [← h2, h1]
  exact ⟨fun h => h.1, fun h => ⟨h, by omega⟩⟩
theorem near_minus {bs : List (List Int)} {u v : List Int} (h4 : ∀ m ∈ bs, m.length = 4) (hu : u.length = 4) (hv : v.length = 4) (pv : posV v = true) : (bs.any fun z => plusV (-1) v u == z) = true ↔ nearR bs u v := by
  unfold nearR
  rw [mem_near, List.any_eq_true]
  constructor
  · rintro ⟨m, hm, e⟩
    have e := eq_of_beq e
    subst e
    refine ⟨_, hm, ?_, pv⟩
    refine Sp.ext4 hv (plusV_len hu (plusV_len hv hu)) fun j => ?_
    rw [plusV_get hu (plusV_len hv hu), plusV_get hv hu]; omega
  · rintro ⟨m, hm, rfl, -⟩
    refine ⟨m, hm, beq_iff_eq.2 ?_⟩
    have m4 := h4 m hm
    refine Sp.ext4 (plusV_len hv hu) m4 fun j => ?_
    rw [plusV_get hv hu, plusV_get hu m4]; omega
set_option maxRecDepth 20000 in
set_option maxHeartbeats 4000000 in
theorem s28 (a : List (List Int)) (x y : List Int) (l : List (List Int)) (ha : ∀ l ∈ a, l.length < 9223372036854775808) (hl : a.length < 9223372036854775808) (hx : x.length < 9223372036854775808) (hy : y.length < 9223372036854775808)
    (hll : l.length ≤ 250) (hls : ∀ s ∈ l, s.length < 9223372036854775808 ∧ ∀ z ∈ s, z < 9223372036854775808) :
    Abs.Spec Try.prog 28 [.sl false false (mS a), .sl false false (mI x), .sl false false (mI y), .sl false false (mS l)] [] fun v H' => H' = [] ∧ chkR a x y l v := by
  refine Abs.Spec.walk mixed fn28 nn28 t28 q28 nt28 (by simp) ?_
  simp only [w28, go_sem, Nat.reduceEqDiff, Nat.reduceAdd, Nat.reduceLT, Nat.reduceLeDiff, reduceIte, reduceCtorEq]
  refine CallK.by (CallV.of_spec (first := []) (cap := []) (s66 a x y ha hl hx hy)) fun v H' ⟨hH, hr⟩ => ?_
  subst hH
  rcases hr with ⟨hok, cs, c1, c2, c3, rfl⟩ | ⟨hok, bs, hB, rfl⟩
  · have z4 : mI [0, 0, 0, 0] = [I 0, I 0, I 0, I 0] := rfl
    simp only [List.getD_cons_zero, List.getD_cons_succ, vec_eq, z4, c2, go_sem, Nat.reduceEqDiff, Nat.reduceAdd, Nat.reduceLT, Nat.reduceLeDiff, reduceIte, reduceCtorEq]
    exact ⟨c1, leaf2 (.tup [B false, I 2]) ⟨rfl, rfl, trivial⟩ ⟨rfl, .inl ⟨hok, rfl⟩⟩⟩
  · have hok' := hok
    unfold twoOk at hok'
    rw [Bool.and_eq_true] at hok'
    obtain ⟨vx, vy⟩ := hok'
    obtain ⟨hm, xl, Xl, bX, pX, bx, Xp, px⟩ := vecOk_spec (by decide) vx
    obtain ⟨-, yl, Yl, bY, pY, by', Yp, py⟩ := vecOk_spec (by decide) vy
    obtain ⟨r1, r2, n1, n4⟩ := mat_rows hm
    have hB4 : ∀ m ∈ bs, m.length = 4 := fun m hm' => ((Sp.mem_bs hm hB).1 hm').mv.len
    have eN := nearR_Nr hm hB
    have hBl := hB.len (by omega)
    obtain ⟨q1, q2, -, -⟩ := Sp.mat_cols hm rfl
    have hB16 : ∀ m ∈ bs, Sp.inB 16 m := fun m hm' => Sp.inB_mono (((Sp.mem_bs hm hB).1 hm').bnd q1 q2 (by omega)) (by unfold Sp.bnd; split <;> (try split) <;> (try split) <;> omega)
    have yt : (Sp.pad y).take (a.getD 0 []).length = y := Sp.pad_take yl
    obtain ⟨X, hX⟩ : ∃ X, Sp.pad x = X := ⟨_, rfl⟩
    obtain ⟨Y, hY⟩ : ∃ Y, Sp.pad y = Y := ⟨_, rfl⟩
    obtain ⟨n, hn⟩ : ∃ n, (a.getD 0 []).length = n := ⟨_, rfl⟩
    have hn' := hn
    rw [hX] at Xl bX pX Xp
    rw [hY] at Yl bY pY Yp yt
    rw [hn] at n1 n4 yt
    rw [hX, hY, hn]
    have Xm : (mI X).length = 4 := by rw [mI_length, Xl]
    have Ym : (mI Y).length = 4 := by rw [mI_length, Yl]
    have acX := allI_cell X
    have acY := allI_cell Y
    have gY : cut true 4 (mI Y) = .agg (mI Y) := cut_vec Yl
    have gX : cut true 4 (mI X) = .agg (mI X) := cut_vec Xl
    obtain ⟨tc, htc⟩ : ∃ tc, AVal.sl false false (mV (a.map Sp.pad)) :: I n :: .sl false false (mV bs) :: mI X = tc := ⟨_, rfl⟩
    have htl : tc.length = 7 := by rw [← htc]; simp [Xm]
    have htA : tc.all AVal.isCell = true := by rw [← htc]; show (true && (true && (true && (mI X).all AVal.isCell))) = true; rw [acX]; rfl
    have htb : bndL 0 tc = true := by rw [← htc]; simp [bndL, AVal.bnd, mV_bnd, mI_bnd]
    have gM : cut true 2 tc = matV (a.map Sp.pad) n := by rw [← htc]; rfl
    have hd3 : List.drop 3 tc = mI X := by rw [← htc]; rfl
    have hd2 : List.drop 2 tc = .sl false false (mV bs) :: mI X := by rw [← htc]; rfl
    have hd1 : List.drop 1 tc = I n :: .sl false false (mV bs) :: mI X := by rw [← htc]; rfl
    by_cases hl0 : l = []
    · subst hl0
      have z0 : (((0 : Nat) : Int) == 0) = true := rfl
      simp only [List.getD_cons_zero, List.getD_cons_succ, taskV_eq, vec_eq, htc, htl, Ym, Yl, gY, gM, hd3, gX, Xl, Xm, List.set_cons_succ, List.set_cons_zero, w28T0, mS_nil, z0, List.length_nil, go_sem, Nat.reduceEqDiff, Nat.reduceAdd, Nat.reduceLT, Nat.reduceLeDiff, reduceIte, reduceCtorEq]
      exact ⟨htA, acY, leaf2 (.tup [B false, I 0]) ⟨rfl, rfl, trivial⟩ ⟨rfl, .inr ⟨hok, false, rfl, fun h => (by cases h), fun h => (by cases h.1)⟩⟩⟩
    have hlp : 0 < l.length := List.length_pos_iff.2 hl0
    have z0 : ((l.length : Int) == 0) = false := by rw [beq_eq_false_iff_ne]; omega
    have g0 := mS_getD hlp
    have hll1 : l.length - 1 < l.length := by omega
    have gl := mS_getD hll1
    have hh : l.head? = some (l.getD 0 []) := by cases l with
      | nil => exact absurd rfl hl0
      | cons u r => rfl
    have ht : l.getLast? = some (l.getD (l.length - 1) []) := by rw [List.getLast?_eq_getElem?, List.getD_eq_getElem?_getD, List.getElem?_eq_getElem hll1]; rfl
    have m0 : l.getD 0 [] ∈ l := by rw [List.getD_eq_getElem?_getD, List.getElem?_eq_getElem hlp]; exact List.getElem_mem hlp
    have mt : l.getD (l.length - 1) [] ∈ l := by rw [List.getD_eq_getElem?_getD, List.getElem?_eq_getElem hll1]; exact List.getElem_mem hll1
    obtain ⟨s0, hs0⟩ : ∃ s0, l.getD 0 [] = s0 := ⟨_, rfl⟩
    obtain ⟨st, hst⟩ : ∃ st, l.getD (l.length - 1) [] = st := ⟨_, rfl⟩
    rw [hs0] at g0 hh m0
    rw [hst] at gl ht mt
    have el : IntKind.i64.wrap ((l.length : Int) - 1) = ((l.length - 1 : Nat) : Int) := by rw [wrap64 (by omega) (by omega)]; omega
    have d0 : ((l.length - 1 : Nat) : Int) < l.length := by omega
    have d00 : (0 : Int) < l.length := by omega
    have h71 := s71 (a.map Sp.pad) n n1 n4 Y Yl
    rw [vec_eq, yt] at h71
    simp only [List.getD_cons_zero, List.getD_cons_succ, taskV_eq, vec_eq, htc, htl, Ym, Yl, gY, gM, hd3, gX, Xl, Xm, List.set_cons_succ, List.set_cons_zero, w28T0, z0, g0, d00, go_sem, Nat.reduceEqDiff, Nat.reduceAdd, Nat.reduceLT, Nat.reduceLeDiff, reduceIte, reduceCtorEq]
    refine ⟨htA, acY, Int.le_refl _, CallKD.by (CallV.of_spec (first := []) (cap := []) (Spec.lift (s22 false false false false s0 x (hls s0 m0).1) (by simp [bndL, AVal.bnd, mI_bnd]) rfl _)) fun v H' ⟨hv, hH⟩ => ?_⟩
    subst hv hH
    cases h0 : (s0 == x) with
    | false =>
      simp only [go_sem, Nat.reduceEqDiff, Nat.reduceAdd, Nat.reduceLT, Nat.reduceLeDiff, reduceIte, reduceCtorEq]
      refine leaf2 (.tup [B false, I 0]) ⟨rfl, rfl, trivial⟩ ⟨rfl, .inr ⟨hok, false, rfl, fun h => (by cases h), fun h => ?_⟩⟩
      have := h.1
      rw [hh] at this
      rw [beq_eq_false_iff_ne] at h0
      exact absurd (Option.some.inj this) h0
    | true =>
    simp only [el, gl, d0, gM, gY, Ym, Yl, List.getElem?_cons_succ, List.getElem?_cons_zero, List.getD_cons_zero, List.getD_cons_succ, go_sem, Nat.reduceEqDiff, Nat.reduceAdd, Nat.reduceLT, Nat.reduceLeDiff, reduceIte, reduceCtorEq]
    refine ⟨by omega, by decide, CallKD.pure (fun H => liftV h71 (by simp [bndL, AVal.bnd, matV, mV_bnd, mI_bnd]) (by simp [AVal.bnd, mI_bnd]) H) ?_⟩
    simp only [go_sem, Nat.reduceEqDiff, Nat.reduceAdd, Nat.reduceLT, Nat.reduceLeDiff, reduceIte, reduceCtorEq]
    refine CallKD.by (CallV.of_spec (first := []) (cap := []) (Spec.lift (s22 false false false false st y (hls st mt).1) (by simp [bndL, AVal.bnd, mI_bnd]) rfl _)) fun v H' ⟨hv, hH⟩ => ?_
    subst hv hH
    cases h1 : (st == y) with
    | false =>
      simp only [go_sem, Nat.reduceEqDiff, Nat.reduceAdd, Nat.reduceLT, Nat.reduceLeDiff, reduceIte, reduceCtorEq]
      refine leaf2 (.tup [B false, I 0]) ⟨rfl, rfl, trivial⟩ ⟨rfl, .inr ⟨hok, false, rfl, fun h => (by cases h), fun h => ?_⟩⟩
      have := h.2.1
      rw [ht] at this
      rw [beq_eq_false_iff_ne] at h1
      exact absurd (Option.some.inj this) h1
    | true =>
    have e0 : s0 = x := eq_of_beq h0
    have e1 : st = y := eq_of_beq h1
    subst e0 e1
    simp only [w28T1, hd3, gX, Xm, htl, Xl, vec_eq, List.set_cons_succ, List.set_cons_zero, go_sem, Nat.reduceEqDiff, Nat.reduceAdd, Nat.reduceLT, Nat.reduceLeDiff, reduceIte, reduceCtorEq]
    refine ⟨acX, W_loop (fun q : { q : Nat × List Int // q.1 ≤ l.length ∧ (∀ k, k < q.1 → stepOk a l k) ∧ (0 < q.1 → q.2 = Sp.pad (l.getD (q.1 - 1) [])) ∧ q.2.length = 4 ∧ ∀ j, 0 ≤ q.2.getD j 0 ∧ q.2.getD j 0 ≤ 6 + 16 * q.1 } =>
      ([(10, .ptr 0 0), (13, .ptr 1 0), (53, .sl false false (mS l)), (54, I l.length), (55, I q.1.1)], [.cells tc, .cells (mI q.1.2)])) (fun q => l.length - q.1.1)
      ⟨(0, X), by omega, fun k hk => absurd hk (by omega), fun h => absurd h (Nat.lt_irrefl 0), Xl, fun j => ⟨Sp.posV_get.1 pX j, by have := Sp.inB_getD bX j; show X.getD j 0 ≤ 6 + 16 * ((0 : Nat) : Int); omega⟩⟩ [some 0, some 2] (Wk.mk0 rfl (by simp [imgs, Blk.alive]) (by simp only [hle, csle]; simp [htb, mI_bnd, Xl, List.take_of_length_le]) (by simp [fle, vle, Fr.get, mS_bnd])) ?_⟩
    rintro ⟨⟨i, u⟩, hi, hst', hu, ul, ub⟩
    dsimp only at hi hst' hu ul ub ⊢
    by_cases hil : i < l.length
    rotate_left
    · have d1 : ¬ (i : Int) < l.length := by omega
      obtain rfl : i = l.length := by omega
      simp only [w28L2, w28T6, d1, decide_false, go_sem, Nat.reduceEqDiff, Nat.reduceAdd, Nat.reduceLT, Nat.reduceLeDiff, reduceIte, reduceCtorEq]
      exact leaf2 (.tup [B true, I 0]) ⟨rfl, rfl, trivial⟩ ⟨rfl, .inr ⟨hok, true, rfl, fun _ => ⟨hh, ht, hst'⟩, fun _ => rfl⟩⟩
    have d1 : (i : Int) < l.length := by omega
    have gi := mS_getD hil
    have ms : l.getD i [] ∈ l := by rw [List.getD_eq_getElem?_getD, List.getElem?_eq_getElem hil]; exact List.getElem_mem hil
    have hbad : ∀ P : Prop, ¬ stepOk a l i → (WayOk a s0 st l → P) := fun P hn h => absurd (h.2.2 i hil) hn
    unfold stepOk at hbad
    obtain ⟨s, hs⟩ : ∃ s, l.getD i [] = s := ⟨_, rfl⟩
    rw [hs] at gi ms hbad
    rw [hn] at hbad
    obtain ⟨sln, sz⟩ := hls s ms
    simp only [w28L2, w28T3, d1, decide_true, gi, hd1, htl, List.drop_zero, go_sem, Nat.reduceEqDiff, Nat.reduceAdd, Nat.reduceLT, Nat.reduceLeDiff, reduceIte, reduceCtorEq]
    by_cases hsn : s.length = n
    rotate_left
    · have nb : ((s.length : Int) != (n : Int)) = true := by rw [bne_iff_ne]; omega
      simp only [nb, go_sem, Nat.reduceEqDiff, Nat.reduceAdd, Nat.reduceLT, Nat.reduceLeDiff, reduceIte, reduceCtorEq]
      exact leaf2 (.tup [B false, I 0]) ⟨rfl, rfl, trivial⟩ ⟨rfl, .inr ⟨hok, false, rfl, fun h => (by cases h), hbad _ fun h => hsn h.1⟩⟩
    have nb : ((s.length : Int) != (n : Int)) = false := by rw [hsn]; exact bne_self_eq_false _
    have sne : s ≠ [] := fun e => by rw [e] at hsn; simp at hsn; omega
    have h72 : Abs.Spec Try.prog 72 [.sl false false (mI s)] [] fun v H' => H' = [] ∧ v = I (Sp.minL s) := by
      cases s with
      | nil => exact absurd rfl sne
      | cons z zs => exact s72 false false z zs sln
    simp only [nb, go_sem, Nat.reduceEqDiff, Nat.reduceAdd, Nat.reduceLT, Nat.reduceLeDiff, reduceIte, reduceCtorEq]
    refine CallKD.by (CallV.of_spec (first := []) (cap := []) (Spec.lift h72 (by simp [bndL, AVal.bnd, mI_bnd]) rfl _)) fun v H' ⟨hv, hH⟩ => ?_
    subst hv hH
    cases hps : posV s with
    | false =>
      have mn : decide (Sp.minL s < 0) = true := decide_eq_true (by
        by_cases h : 0 ≤ Sp.minL s
        · rw [(minL_pos sne).2 h] at hps; cases hps
        · omega)
      simp only [mn, go_sem, Nat.reduceEqDiff, Nat.reduceAdd, Nat.reduceLT, Nat.reduceLeDiff, reduceIte, reduceCtorEq]
      exact leaf2 (.tup [B false, I 0]) ⟨rfl, rfl, trivial⟩ ⟨rfl, .inr ⟨hok, false, rfl, fun h => (by cases h), hbad _ fun h => by rw [h.2.1] at hps; cases hps⟩⟩
    | true =>
      have mn : decide (Sp.minL s < 0) = false := decide_eq_false (by have := (minL_pos sne).1 hps; omega)
      have h74 := s74 false false s (by omega)
      have ei : IntKind.i64.wrap ((i : Int) + 1) = ((i + 1 : Nat) : Int) := by rw [wrap64 (by omega) (by omega)]; omega
      have Spl : (Sp.pad s).length = 4 := Sp.pad_len (by omega)
      have hnxt : Sp.pad s = Sp.pad (l.getD (i + 1 - 1) []) := by rw [show i + 1 - 1 = i by omega, hs]
      have pps : posV (Sp.pad s) = true := by rw [Sp.posV_pad]; exact hps
      have sz0 : ∀ z ∈ Sp.pad s, 0 ≤ z ∧ z < 9223372036854775808 := fun z hz => by
        unfold Sp.pad at hz
        unfold posV at hps
        rw [List.all_eq_true] at hps
        rcases List.mem_append.1 hz with hz | hz
        · exact ⟨of_decide_eq_true (hps z hz), sz z hz⟩
        · obtain ⟨-, rfl⟩ := List.mem_replicate.1 hz; decide
      obtain ⟨S, hS⟩ : ∃ S, Sp.pad s = S := ⟨_, rfl⟩
      rw [hS] at h74 Spl pps sz0
      have Sm : (mI S).length = 4 := by rw [mI_length, Spl]
      have Sl := Spl
      have acS := allI_cell S
      have gu : cut true 4 (mI u) = .agg (mI u) := cut_vec ul
      have um : (mI u).length = 4 := by rw [mI_length, ul]
      by_cases hi0 : 0 < i
      · have d2 : decide ((i : Int) > 0) = true := decide_eq_true (by omega)
        have h68 := s68g S u Spl ul sz0 fun j => ⟨(ub j).1, by have := (ub j).2; omega⟩
        obtain ⟨D, hD⟩ : ∃ D, plusV (-1) S u = D := ⟨_, rfl⟩
        have Dl : D.length = 4 := by rw [← hD]; exact plusV_len Spl ul
        have hnm := near_minus hB4 ul Spl pps
        rw [hD] at hnm h68
        have h73 := s73 false false bs hB4 D Dl (by omega)
        rw [vec_eq] at h74 h73
        rw [vec_eq, vec_eq, vec_eq] at h68
        simp only [mn, d2, hd2, htl, gu, List.getElem?_cons_succ, List.getElem?_cons_zero, go_sem, Nat.reduceEqDiff, Nat.reduceAdd, Nat.reduceLT, Nat.reduceLeDiff, reduceIte, reduceCtorEq]
        refine ⟨by decide, CallKD.pure (fun H => liftV h74 (by simp [bndL, AVal.bnd, mI_bnd]) (by simp [AVal.bnd, mI_bnd]) H) ?_⟩
        simp only [gu, um, ul, List.getElem?_cons_succ, List.getElem?_cons_zero, go_sem, Nat.reduceEqDiff, Nat.reduceAdd, Nat.reduceLT, Nat.reduceLeDiff, reduceIte, reduceCtorEq]
        refine ⟨by decide, CallKD.pure (fun H => liftV h68 (by simp [bndL, AVal.bnd, mI_bnd]) (by simp [AVal.bnd, mI_bnd]) H) ?_⟩
        simp only [List.getElem?_cons_succ, List.getElem?_cons_zero, go_sem, Nat.reduceEqDiff, Nat.reduceAdd, Nat.reduceLT, Nat.reduceLeDiff, reduceIte, reduceCtorEq]
        refine CallKD.by (CallV.of_spec (first := []) (cap := []) (Spec.lift h73 (by simp [bndL, AVal.bnd, mI_bnd, mV_bnd]) rfl _)) fun v H' ⟨hv, hH⟩ => ?_
        subst hv hH
        have hup := hu hi0
        cases hnb : (bs.any fun z => D == z) with
        | false =>
          rw [hnb] at hnm
          simp only [go_sem, Nat.reduceEqDiff, Nat.reduceAdd, Nat.reduceLT, Nat.reduceLeDiff, reduceIte, reduceCtorEq]
          refine leaf2 (.tup [B false, I 0]) ⟨rfl, rfl, trivial⟩ ⟨rfl, .inr ⟨hok, false, rfl, fun h => (by cases h), hbad _ fun h => ?_⟩⟩
          have h3 := h.2.2 hi0
          rw [← eN, ← hup, hS] at h3
          exact absurd (hnm.2 h3) (by decide)
        | true =>
          have hnr := hnm.1 hnb
          have hall : ∀ k, k < i + 1 → stepOk a l k := fun k hk => by
            by_cases hki : k < i
            · exact hst' k hki
            · obtain rfl : k = i := by omega
              unfold stepOk; rw [hs, hn]; exact ⟨hsn, hps, fun _ => by rw [← eN, ← hup, hS]; exact hnr⟩
          have hb' : ∀ j, 0 ≤ S.getD j 0 ∧ S.getD j 0 ≤ 6 + 16 * ((i + 1 : Nat) : Int) := fun j => by
            obtain ⟨m, hm', e, -⟩ := mem_near.1 hnr
            have h1 := Sp.posV_get.1 pps j
            have h2 := (ub j).2
            have h3 := Sp.inB_getD (hB16 m hm') j
            have e1 := congrArg (fun l => l.getD j 0) e
            simp only [plusV_get ul (hB4 m hm')] at e1
            omega
          rw [hS] at hnxt
          simp only [go_sem, Nat.reduceEqDiff, Nat.reduceAdd, Nat.reduceLT, Nat.reduceLeDiff, reduceIte, reduceCtorEq]
          simp only [w28T4, go_sem, Nat.reduceEqDiff, Nat.reduceAdd, Nat.reduceLT, Nat.reduceLeDiff, reduceIte, reduceCtorEq]
          refine CallK.pure (liftV h74 (by simp [bndL, AVal.bnd, mI_bnd]) (by simp [AVal.bnd, vec, mI_bnd]) _) ?_
          simp only [vec_eq, Sm, Sl, ul, List.set_cons_succ, List.set_cons_zero, w28T5, ei, go_sem, Nat.reduceEqDiff, Nat.reduceAdd, Nat.reduceLT, Nat.reduceLeDiff, reduceIte, reduceCtorEq]
          rw [List.drop_of_length_le (by omega), List.append_nil]
          exact ⟨acS, round1 rfl ⟨(i + 1, S), hil, hall, fun _ => hnxt, Spl, hb'⟩ [some 0, some 1] (by dsimp only; omega) (Wk.mk0 rfl (by simp [imgs, Blk.alive]) (by simp only [hle, csle]; simp [htb, mI_bnd, imgs, Blk.alive]) (by simp [fle, vle, Fr.get, imgs, Blk.alive, mS_bnd]))⟩
      · have d2 : decide ((i : Int) > 0) = false := decide_eq_false (by omega)
        have hall : ∀ k, k < i + 1 → stepOk a l k := fun k hk => by
          by_cases hki : k < i
          · exact hst' k hki
          · obtain rfl : k = i := by omega
            unfold stepOk; rw [hs, hn]; exact ⟨hsn, hps, fun h => absurd h hi0⟩
        have hb' : ∀ j, 0 ≤ S.getD j 0 ∧ S.getD j 0 ≤ 6 + 16 * ((i + 1 : Nat) : Int) := fun j => by
          obtain rfl : i = 0 := by omega
          have e : s = s0 := by rw [← hs, hs0]
          rw [← hS, e, hX]
          have h1 := Sp.inB_getD bX j
          have h2 := Sp.posV_get.1 pX j
          omega
        rw [hS] at hnxt
        simp only [mn, d2, go_sem, Nat.reduceEqDiff, Nat.reduceAdd, Nat.reduceLT, Nat.reduceLeDiff, reduceIte, reduceCtorEq]
        simp only [w28T4, go_sem, Nat.reduceEqDiff, Nat.reduceAdd, Nat.reduceLT, Nat.reduceLeDiff, reduceIte, reduceCtorEq]
        refine CallK.pure (liftV h74 (by simp [bndL, AVal.bnd, mI_bnd]) (by simp [AVal.bnd, vec, mI_bnd]) _) ?_
        simp only [vec_eq, Sm, Sl, ul, List.set_cons_succ, List.set_cons_zero, w28T5, ei, go_sem, Nat.reduceEqDiff, Nat.reduceAdd, Nat.reduceLT, Nat.reduceLeDiff, reduceIte, reduceCtorEq]
        rw [List.drop_of_length_le (by omega), List.append_nil]
        exact ⟨acS, round1 rfl ⟨(i + 1, S), hil, hall, fun _ => hnxt, Spl, hb'⟩ [some 0, some 1] (by dsimp only; omega) (Wk.mk0 rfl (by simp [imgs, Blk.alive]) (by simp only [hle, csle]; simp [htb, mI_bnd, imgs, Blk.alive]) (by simp [fle, vle, Fr.get, imgs, Blk.alive, mS_bnd]))⟩
end Go.Proofs.Ytipfjfmdjmaflaa
