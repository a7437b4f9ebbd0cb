/- ConesLeads: there is a way between any two assortments with the same product, back it is as long. -/
import Derived.Test.YtipfjfmdjmaflaaOE
import Derived.Test.YtipfjfmdjmaflaaOF
import Derived.Test.YtipfjfmdjmaflaaKH
namespace Go.Proofs.Ytipfjfmdjmaflaa
open Go.Abs AVal
set_option linter.unusedSimpArgs false
attribute [local go_sem] W_skip W_keep KQ_canon canon Fr.norm W_seq W_block W_scope W_exit W_ret W_ops W_draw KQ_nil KQ_norm_seq KQ_exit_seq KQ_ret_seq KQ_norm_block KQ_ret_block KQ_exit_block KQ_exit_loop KQ_ret_loop O_nil O_cons S_call S_mv SE_mv SD_mv S_pick SE_pick SD_pick S_bin SE_bin SD_bin S_eqb SE_eqb SD_eqb S_eqv SE_eqv SD_eqv S_eqnil SE_eqnil SD_eqnil S_un SE_un SD_un S_conv SE_conv SD_conv S_mkfn SE_mkfn SD_mkfn S_load SE_load SD_load S_nilck SE_nilck SD_nilck S_slS SE_slS SD_slS S_slP SE_slP SD_slP S_fldA SE_fldA SD_fldA S_fld SE_fld SD_fld S_ixS SE_ixS SD_ixS S_ixP SE_ixP SD_ixP S_ixV SE_ixV SD_ixV S_ixStr SE_ixStr SD_ixStr S_ext SE_ext SD_ext S_len SE_len SD_len S_lenStr SE_lenStr SD_lenStr S_lenc SE_lenc SD_lenc S_mn SE_mn SD_mn S_mx SE_mx SD_mx S_build SE_build SD_build S_alloc SD_alloc S_box SD_box S_bslice SD_bslice S_mksl SD_mksl S_store SD_store S_append SD_append S_copy SD_copy S_clr SD_clr S_mlen SE_mlen SD_mlen S_mget SE_mget SD_mget S_mval SE_mval SD_mval S_mentry SE_mentry SD_mentry S_mkmap SD_mkmap S_mset SD_mset S_mrange SD_mrange S_mnext mlenA mgetA mvalA mentryA msetA mrangeA cells_mp isCell_mp cellsOk_mp aq_some aa_some al_some alA_some aqd_some aad_some ald_some ape_some D_done D_both D_early D_step SE_call SD_call IOpd.ev Fr.get Fr.put Fr.putd entryFr pickA binA binI isSh shI eqbA eqvA ints ints_mI Option.map_some eqnilA unA convA loadA nilckA intA slSA slPA fldAA fldVA ixSA ixPA ixVA ixStrA extA lenA lenStrA mnA mxA AVal.fits fillA fillOk buildA opa srcA appA stoA copA clrA rdFree zeros List.length_nil List.length_cons List.length_map List.map_cons List.map_nil Option.map_some Option.map_none if_true if_false ite_true ite_false true_and and_true and_self implies_true forall_const true_implies Bool.false_eq_true Bool.not_true Bool.not_false decide_eq_true_eq decide_eq_false_iff_not eq_self List.getElem?_cons_zero List.getElem?_cons_succ List.getElem?_nil List.set_cons_zero List.set_cons_succ List.nil_append List.cons_append List.append_nil List.replicate_zero List.replicate_succ Nat.zero_add false_implies rng_lt rng_end rng_get cells_I cells_B cells_sl cut_one Int.toNat_natCast Int.natCast_nonneg List.headD_cons Int.lt_irrefl not_false_eq_true decide_false decide_true mI_length mI_cells mI_sz mI_isCell mI_mid mI_append mI_take mI_drop cells_val cells_own cells_agg isCell_I isCell_B isCell_nil isCell_sl isCell_own isCell_ptr isCell_fn isCell_rp isCell_yld cellsOk_I cellsOk_B cellsOk_nil cellsOk_sl cellsOk_own cellsOk_ptr cellsOk_fn cellsOk_rp cellsOk_yld cellsOk_agg cells_nil cells_ptr cells_fn cells_rp List.all_cons List.all_nil Bool.and_true Nat.mul_one Nat.zero_mul Nat.one_mul List.take_zero List.take_nil List.drop_nil List.drop_zero List.not_mem_nil Nat.le_refl Nat.zero_le mS_length mS_cells mS_sz mS_isCell mS_mid mS_append mS_take mS_drop cells_sI isCell_sI cellsOk_sI sI_eq succ_le_self' List.take_succ_cons List.drop_succ_cons List.take_length beq_self_eq_true List.mem_cons or_false forall_eq mI_put mI_rep O_guard' D_earlyG' D_stepG' W_cond' G_tt G_tf G_ft G_ff GE_tt GE_tf GE_ft GE_ff GS_tt GS_tf GS_ft GS_ff G_u GE_u GS_u IC_t IC_f xft xff xtt xtf z00 z20 z22 z02 zz tn0
/-! ### Plain. -/
theorem dp_pad4 {p x : List Int} (h : p.length = x.length) : Sp.dp (Sp.pad p) (Sp.pad x) = Sp.dp p x := by
  by_cases h4 : p.length ≤ 4
  · rw [Sp.dp_split p.length (by rw [Sp.pad_len h4, Sp.pad_len (by omega)]), Sp.pad_take rfl, Sp.pad_take h.symm, Sp.dp_zero (Sp.drop_zero fun j hj => Sp.pad_getD h.symm hj)]
    omega
  · unfold Sp.pad
    rw [show 4 - p.length = 0 by omega, show 4 - x.length = 0 by omega]; simp
/-- The same products. -/
theorem times_same {a : List (List Int)} {x y : List Int} (hm : Sp.mat a = true) (xl : x.length = (a.getD 0 []).length) (yl : y.length = (a.getD 0 []).length) (bx : Sp.inB 1000 x) (by' : Sp.inB 1000 y) :
    ((a.map fun r => Sp.dotG 0 r x) == a.map fun r => Sp.dotG 0 r y) = Sp.moveB (a.map Sp.pad) (plusV (-1) (Sp.pad y) (Sp.pad x)) := by
  obtain ⟨r1, r2, -, r4⟩ := Sp.mat_cols hm rfl
  obtain ⟨-, -, h3⟩ := Sp.mat_spec hm
  have key : ∀ r ∈ a, Sp.dotG 0 r x = Sp.dp r x ∧ Sp.dotG 0 r y = Sp.dp r y ∧ Sp.dp (Sp.pad r) (plusV (-1) (Sp.pad y) (Sp.pad x)) = Sp.dp r y - Sp.dp r x := fun r hr => by
    have hl := (h3 r hr).1
    have hrb : Sp.inB 2 r := fun z hz => r1.bnd (Sp.pad r) (List.mem_map.2 ⟨r, hr, rfl⟩) z (by unfold Sp.pad; simp [hz])
    refine ⟨?_, ?_, ?_⟩
    · rw [Sp.dotG_dp (A := 2) (M := 1000) (by decide) (by decide) (by decide) hrb bx (by omega) (by omega) (by omega)]; omega
    · rw [Sp.dotG_dp (A := 2) (M := 1000) (by decide) (by decide) (by decide) hrb by' (by omega) (by omega) (by omega)]; omega
    · rw [Sp.dp_plus (by rw [Sp.pad_len (by omega), Sp.pad_len (by omega)]), dp_pad4 (by omega), dp_pad4 (by omega)]; omega
  rw [Bool.eq_iff_iff, beq_iff_eq, Sp.moveB_all]
  constructor
  · intro h R hR
    obtain ⟨r, hr, rfl⟩ := List.mem_map.1 hR
    obtain ⟨k1, k2, k3⟩ := key r hr
    have := List.map_inj_left.1 h r hr
    rw [k1, k2] at this
    rw [k3]; omega
  · intro h
    refine List.map_congr_left fun r hr => ?_
    obtain ⟨k1, k2, k3⟩ := key r hr
    have := h (Sp.pad r) (List.mem_map.2 ⟨r, hr, rfl⟩)
    rw [k1, k2]; omega
theorem move_turn {rows : List (List Int)} {X Y : List Int} (hX : X.length = 4) (hY : Y.length = 4) : Sp.moveB rows (plusV (-1) X Y) = Sp.moveB rows (plusV (-1) Y X) := by
  rw [Bool.eq_iff_iff, Sp.moveB_all, Sp.moveB_all]
  refine forall_congr' fun r => forall_congr' fun _ => ?_
  rw [Sp.dp_plus (by omega), Sp.dp_plus (by omega)]
  omega
theorem wayOk_of {a : List (List Int)} {x y : List Int} {P : List (List Int)} (hm : Sp.mat a = true) (xl : x.length = (a.getD 0 []).length) (yl : y.length = (a.getD 0 []).length) (hh : P.head? = some (Sp.pad x)) (ht : P.getLast? = some (Sp.pad y)) (hc : Chn (Nr a) P)
    (hP : ∀ u ∈ P, u.length = 4 ∧ posV u = true ∧ ∀ j, (a.getD 0 []).length ≤ j → u.getD j 0 = 0) : WayOk a x y (P.map fun u => u.take (a.getD 0 []).length) := by
  have n4 := (mat_rows hm).2.2.2
  refine ⟨by rw [List.head?_map, hh]; exact congrArg some (Sp.pad_take xl), by rw [List.getLast?_map, ht]; exact congrArg some (Sp.pad_take yl), fun i hi => ?_⟩
  rw [List.length_map] at hi
  have g : ∀ k, k < P.length → (P.map fun u => u.take (a.getD 0 []).length).getD k [] = (P.getD k []).take (a.getD 0 []).length := fun k hk => by
    simp [List.getD_eq_getElem?_getD, hk]
  have hmem : ∀ k, k < P.length → P.getD k [] ∈ P := fun k hk => by rw [List.getD_eq_getElem?_getD, List.getElem?_eq_getElem hk]; exact List.getElem_mem hk
  have tp : ∀ k, k < P.length → Sp.pad ((P.getD k []).take (a.getD 0 []).length) = P.getD k [] := fun k hk => by
    obtain ⟨h1, _, h3⟩ := hP _ (hmem k hk)
    exact Sp.take_pad n4 h1 h3
  obtain ⟨h1, h2, h3⟩ := hP _ (hmem i hi)
  unfold stepOk
  rw [g i hi]
  refine ⟨by rw [List.length_take]; omega, by rw [← Sp.posV_pad, tp i hi]; exact h2, fun h0 => ?_⟩
  rw [g (i - 1) (by omega), tp i hi, tp (i - 1) (by omega)]
  have := chn_iff.1 hc (i - 1) (by omega)
  rwa [show i - 1 + 1 = i by omega] at this
/-- A way and its length. -/
theorem Chn.hops {N : List Int → List Int → Prop} {X Y : List Int} {P : List (List Int)} (hh : P.head? = some X) (ht : P.getLast? = some Y) (hc : Chn N P) : Hop N X Y (P.length - 1) := by
  cases P with
  | nil => cases hh
  | cons u l =>
    simp at hh; subst hh
    have := Chn.hop (N := N) .start hc
    rw [List.getLast?_eq_some_getLast (by simp)] at ht
    rw [Option.some.inj ht] at this
    simpa using this
theorem head_rev {α : Type} {l : List α} : l.reverse.head? = l.getLast? := by simp
theorem last_rev {α : Type} {l : List α} : l.reverse.getLast? = l.head? := by simp
theorem Nr.back {a : List (List Int)} (hm : Sp.mat a = true) {P : List (List Int)} (hP : ∀ u ∈ P, u.length = 4 ∧ posV u = true) (hc : Chn (Nr a) P) : Chn (Nr a) P.reverse := by
  have hB := Sp.basB_is (a.map Sp.pad) (a.getD 0 []).length
  rw [← nearR_Nr hm hB] at hc ⊢
  exact Chn.rev (fun m hm' => ((Sp.mem_bs hm hB).1 hm').mv.len) (fun m hm' => (Sp.mem_bs hm hB).2 ((Sp.mem_bs hm hB).1 hm').neg) hP hc
theorem WayP.len_le {a : List (List Int)} {X Y : List Int} {P Q : List (List Int)} (hm : Sp.mat a = true) (hP : WayP a X Y P) (hPm : ∀ u ∈ P, u.length = 4 ∧ posV u = true) (hQ : WayP a Y X Q) : Q.length ≤ P.length := by
  have h := Chn.hops (P := P.reverse) (by rw [head_rev]; exact hP.last) (by rw [last_rev]; exact hP.head) (Nr.back hm hPm hP.chn)
  have := hQ.short _ h
  have hp : P ≠ [] := fun e => by have := hP.head; rw [e] at this; cases this
  have := List.length_pos_iff.2 hp
  simp only [List.length_reverse] at *
  omega
/-- What a way of a family is, for others. -/
theorem WayP.good {a : List (List Int)} {x Y : List Int} {P : List (List Int)} (hx : Sp.vecOk a x 0 6 = true) (h : WayP a (Sp.pad x) Y P) : ∀ u ∈ P, u.length = 4 ∧ posV u = true ∧ ∀ j, (a.getD 0 []).length ≤ j → u.getD j 0 = 0 := by
  obtain ⟨hm, xl, Xl, bX, pX, bx, Xp, px⟩ := vecOk_spec (by decide) hx
  intro u hu
  have := h.fam (Sp.Fam.self Xl Xp pX) u hu
  exact ⟨this.len, this.pos, this.pad⟩
theorem WayP.small {a : List (List Int)} {x : List Int} {Y : List Int} {P : List (List Int)} (hx : Sp.vecOk a x 0 6 = true) (h : WayP a (Sp.pad x) Y P) : ∀ u ∈ P, ∀ z ∈ u, z ≤ 500 := by
  obtain ⟨hm, xl, Xl, bX, pX, bx, Xp, px⟩ := vecOk_spec (by decide) hx
  obtain ⟨q1, q2, -, n4⟩ := Sp.mat_cols hm rfl
  have hc := chn_iff.1 h.chn
  have hg := h.good hx
  have hmem : ∀ k, k < P.length → P.getD k [] ∈ P := fun k hk => by rw [List.getD_eq_getElem?_getD, List.getElem?_eq_getElem hk]; exact List.getElem_mem hk
  have key : ∀ i, i < P.length → ∀ j, (P.getD i []).getD j 0 ≤ 6 + 16 * i := by
    intro i
    induction i with
    | zero =>
      intro hi j
      have h0 : P.getD 0 [] = Sp.pad x := by
        have := h.head
        cases P with
        | nil => cases this
        | cons u r => exact Option.some.inj this
      rw [h0]
      have := Sp.inB_getD bX j
      omega
    | succ i ih =>
      intro hi j
      obtain ⟨m, hM, e, -⟩ := hc i hi
      have hb : Sp.inB 16 m := Sp.inB_mono (hM.bnd q1 q2 n4) (by unfold Sp.bnd; split <;> (try split) <;> (try split) <;> omega)
      have h1 := ih (by omega) j
      have h2 := Sp.inB_getD hb j
      rw [e, plusV_get (hg _ (hmem i (by omega))).1 hM.mv.len]
      omega
  intro u hu z hz
  obtain ⟨i, hi, rfl⟩ := List.getElem_of_mem hu
  obtain ⟨j, hj, rfl⟩ := List.getElem_of_mem hz
  have := key i hi j
  have hf := h.few
  rw [List.getD_eq_getElem?_getD, List.getD_eq_getElem?_getD, List.getElem?_eq_getElem hi, Option.getD_some, List.getElem?_eq_getElem hj, Option.getD_some] at this
  omega
theorem chkR_bnd {a : List (List Int)} {x y : List Int} {l : List (List Int)} {v : AVal} (h : chkR a x y l v) : v.bnd 0 = true := by
  rcases h with ⟨-, rfl⟩ | ⟨-, b, rfl, -⟩ <;> simp [AVal.bnd, bndL]
theorem table_same {n : Nat} {W : List (List Int)} (hn : n ≤ 6) (hl : W.length ≤ 250) (h : ∀ u ∈ W, u.length ≤ n) : Sp.table6 W = W := by
  unfold Sp.table6
  rw [List.take_of_length_le hl]
  conv => rhs; rw [← List.map_id W]
  exact List.map_congr_left fun u hu => List.take_of_length_le (by have := h u hu; omega)
set_option maxRecDepth 20000 in
set_option maxHeartbeats 4000000 in
theorem law5 (a : List (List Int)) (x y : List Int) (ha : ∀ l ∈ a, l.length < 9223372036854775808) (hl : a.length < 9223372036854775808) (hx : x.length < 9223372036854775808) (hy : y.length < 9223372036854775808) :
    Abs.Spec Try.prog 5 [.sl false false (mS a), .sl false false (mI x), .sl false false (mI y)] [] fun v H' => H' = [] ∧ v = B true := by
  obtain ⟨t1, t2⟩ := tab6_len ha hl
  have x6 : (x.take 6).length < 9223372036854775808 := by rw [List.length_take]; omega
  have y6 : (y.take 6).length < 9223372036854775808 := by rw [List.length_take]; omega
  have e18 : ∀ H, CallV Try.prog (.fn (.func 18) [] []) [.sl false false (mS a)] H fun v H' => v = .sl false false (mS (Sp.table6 a)) ∧ H' = H := fun H => liftV (s18 false false a ha hl) (by simp [bndL, AVal.bnd, mS_bnd]) (by simp [AVal.bnd, mS_bnd]) H
  have e19 : ∀ H, CallV Try.prog (.fn (.func 19) [] []) [.sl false false (mI x)] H fun v H' => v = .sl false false (mI (x.take 6)) ∧ H' = H := fun H => liftV (s19 false false x hx) (by simp [bndL, AVal.bnd, mI_bnd]) (by simp [AVal.bnd, mI_bnd]) H
  have e19y : ∀ H, CallV Try.prog (.fn (.func 19) [] []) [.sl false false (mI y)] H fun v H' => v = .sl false false (mI (y.take 6)) ∧ H' = H := fun H => liftV (s19 false false y hy) (by simp [bndL, AVal.bnd, mI_bnd]) (by simp [AVal.bnd, mI_bnd]) H
  have e25 : ∀ H, CallV Try.prog (.fn (.func 25) [] []) [] H fun v H' => v = B true ∧ H' = H := fun H => liftV s25 rfl rfl H
  have e21 : ∀ H, CallV Try.prog (.fn (.func 21) [] []) [.sl false false (mS a), .sl false false (mI x), I 0, I 6] H fun v H' => v = B (Sp.vecOk a x 0 6) ∧ H' = H := fun H => liftV (s21 false false false false a x 0 6 ha hl hx) (by simp [bndL, AVal.bnd, mS_bnd, mI_bnd]) rfl H
  have e21y : ∀ H, CallV Try.prog (.fn (.func 21) [] []) [.sl false false (mS a), .sl false false (mI y), I 0, I 6] H fun v H' => v = B (Sp.vecOk a y 0 6) ∧ H' = H := fun H => liftV (s21 false false false false a y 0 6 ha hl hy) (by simp [bndL, AVal.bnd, mS_bnd, mI_bnd]) rfl H
  refine Abs.Spec.walk mixed fn5 nn5 t5 q5 nt5 (by simp) ?_
  simp only [w5, go_sem, Nat.reduceEqDiff, Nat.reduceAdd, Nat.reduceLT, Nat.reduceLeDiff, reduceIte, reduceCtorEq]
  refine CallK.pure (e18 _) ?_
  simp only [go_sem, Nat.reduceEqDiff, Nat.reduceAdd, Nat.reduceLT, Nat.reduceLeDiff, reduceIte, reduceCtorEq]
  refine CallK.pure (e19 _) ?_
  simp only [go_sem, Nat.reduceEqDiff, Nat.reduceAdd, Nat.reduceLT, Nat.reduceLeDiff, reduceIte, reduceCtorEq]
  refine CallK.pure (e19y _) ?_
  simp only [go_sem, Nat.reduceEqDiff, Nat.reduceAdd, Nat.reduceLT, Nat.reduceLeDiff, reduceIte, reduceCtorEq]
  refine CallK.by (CallV.of_spec (first := []) (cap := []) (s27 (Sp.table6 a) (x.take 6) (y.take 6) t1 t2 x6 y6)) fun v H' hr => ?_
  have z2 : ((2 : Int) == 2) = true := rfl
  unfold wayR twoOk at hr
  rw [Sp.vecOk_take, Sp.vecOk_take] at hr
  by_cases hok : (Sp.vecOk a x 0 6 && Sp.vecOk a y 0 6) = true
  rotate_left
  · rcases hr with ⟨-, rfl, rfl⟩ | ⟨h, -⟩ | ⟨h, -⟩
    rotate_left
    · exact absurd h hok
    · exact absurd h hok
    simp only [List.getD_cons_zero, List.getD_cons_succ, go_sem, Nat.reduceEqDiff, Nat.reduceAdd, Nat.reduceLT, Nat.reduceLeDiff, reduceIte, reduceCtorEq]
    refine CallK.pure (e21 _) ?_
    cases hvx : Sp.vecOk a x 0 6 with
    | false =>
      simp only [z2, go_sem, Nat.reduceEqDiff, Nat.reduceAdd, Nat.reduceLT, Nat.reduceLeDiff, reduceIte, reduceCtorEq]
      refine CallK.pure (e25 _) ?_
      simp only [go_sem, Nat.reduceEqDiff, Nat.reduceAdd, Nat.reduceLT, Nat.reduceLeDiff, reduceIte, reduceCtorEq]
      exact leaf (B true) rfl ⟨rfl, rfl⟩
    | true =>
      have hvy : Sp.vecOk a y 0 6 = false := by rw [hvx] at hok; simpa using hok
      simp only [go_sem, Nat.reduceEqDiff, Nat.reduceAdd, Nat.reduceLT, Nat.reduceLeDiff, reduceIte, reduceCtorEq]
      refine CallK.pure (e21y _) ?_
      simp only [hvy, z2, go_sem, Nat.reduceEqDiff, Nat.reduceAdd, Nat.reduceLT, Nat.reduceLeDiff, reduceIte, reduceCtorEq]
      refine CallK.pure (e25 _) ?_
      simp only [go_sem, Nat.reduceEqDiff, Nat.reduceAdd, Nat.reduceLT, Nat.reduceLeDiff, reduceIte, reduceCtorEq]
      exact leaf (B true) rfl ⟨rfl, rfl⟩
  have hok2 := hok
  rw [Bool.and_eq_true] at hok2
  obtain ⟨vx, vy⟩ := hok2
  have hokr : (Sp.vecOk a y 0 6 && Sp.vecOk a x 0 6) = true := by rw [vx, vy]; rfl
  obtain ⟨k1, k2⟩ := (⟨by
    have h := vx
    unfold Sp.vecOk at h
    simp only [Bool.and_eq_true, decide_eq_true_eq] at h
    exact Sp.mat_table.2 h.1, trivial⟩ : Sp.table6 a = a ∧ True)
  obtain ⟨hm, xl, Xl, bX, pX, bx, Xp, px⟩ := vecOk_spec (by decide) vx
  obtain ⟨-, yl, Yl, bY, pY, by', Yp, py⟩ := vecOk_spec (by decide) vy
  obtain ⟨r1, r2, n1, n4⟩ := mat_rows hm
  have kx : x.take 6 = x := List.take_of_length_le (by omega)
  have ky : y.take 6 = y := List.take_of_length_le (by omega)
  rw [k1, kx, ky] at hr
  rw [k1] at e18
  rw [kx] at e19
  rw [ky] at e19y
  have hts := times_same hm xl yl (Sp.inB_mono bx (by decide)) (Sp.inB_mono by' (by decide))
  have htn := move_turn (rows := a.map Sp.pad) Xl Yl
  have al : a.length ≤ 1000 := by have := (Sp.mat_spec hm).2.1; omega
  have rl : ∀ r ∈ a, r.length = x.length := fun r hr => by rw [((Sp.mat_spec hm).2.2 r hr).1, xl]
  have e23x := fun H => liftV (s23 false false false false a x rl al (by omega)) (by simp [bndL, AVal.bnd, mS_bnd, mI_bnd]) (by simp [AVal.bnd, mI_bnd]) H
  have e23y := fun H => liftV (s23 false false false false a y (fun r hr => by rw [rl r hr]; omega) al (by omega)) (by simp [bndL, AVal.bnd, mS_bnd, mI_bnd]) (by simp [AVal.bnd, mI_bnd]) H
  have e22 := fun H => liftV (s22 false false false false (a.map fun r => Sp.dotG 0 r x) (a.map fun r => Sp.dotG 0 r y) (by rw [List.length_map]; omega)) (by simp [bndL, AVal.bnd, mI_bnd]) rfl H
  have h27 := s27 a y x ha hl hy hx
  have z4 : ((4 : Int) == 4) = true := rfl
  have z0 : ((0 : Int) != 0) = false := rfl
  rw [hts] at e22
  rcases hr with ⟨h, -⟩ | ⟨-, hmv, rfl, rfl⟩ | ⟨-, hmv, P, hP, rfl, rfl⟩
  · rw [hok] at h; cases h
  · rw [hmv] at e22 htn
    simp only [List.getD_cons_zero, List.getD_cons_succ, go_sem, Nat.reduceEqDiff, Nat.reduceAdd, Nat.reduceLT, Nat.reduceLeDiff, reduceIte, reduceCtorEq]
    refine CallK.pure (e21 _) ?_
    rw [vx]
    simp only [go_sem, Nat.reduceEqDiff, Nat.reduceAdd, Nat.reduceLT, Nat.reduceLeDiff, reduceIte, reduceCtorEq]
    refine CallK.pure (e21y _) ?_
    rw [vy]
    simp only [go_sem, Nat.reduceEqDiff, Nat.reduceAdd, Nat.reduceLT, Nat.reduceLeDiff, reduceIte, reduceCtorEq]
    rw [w5T0]
    refine W_view [] [(0, .sl false false (mS a)), (1, .sl false false (mI x)), (2, .sl false false (mI y)), (7, .sl false false (mS [])), (8, I 4)] [] (Wk.nil (by simp [fle, vle, Fr.get, mS_bnd, mI_bnd])) ?_
    simp only [go_sem, Nat.reduceEqDiff, Nat.reduceAdd, Nat.reduceLT, Nat.reduceLeDiff, reduceIte, reduceCtorEq]
    refine CallK.pure (e18 _) ?_
    simp only [go_sem, Nat.reduceEqDiff, Nat.reduceAdd, Nat.reduceLT, Nat.reduceLeDiff, reduceIte, reduceCtorEq]
    refine CallK.pure (e19y _) ?_
    simp only [go_sem, Nat.reduceEqDiff, Nat.reduceAdd, Nat.reduceLT, Nat.reduceLeDiff, reduceIte, reduceCtorEq]
    refine CallK.pure (e19 _) ?_
    simp only [go_sem, Nat.reduceEqDiff, Nat.reduceAdd, Nat.reduceLT, Nat.reduceLeDiff, reduceIte, reduceCtorEq]
    refine CallK.by (CallV.of_spec (first := []) (cap := []) h27) fun v H' hr => ?_
    rcases hr with ⟨h, -⟩ | ⟨-, -, rfl, rfl⟩ | ⟨-, h, -⟩
    · unfold twoOk at h; rw [hokr] at h; cases h
    · simp only [List.getD_cons_zero, List.getD_cons_succ, w5T1, go_sem, Nat.reduceEqDiff, Nat.reduceAdd, Nat.reduceLT, Nat.reduceLeDiff, reduceIte, reduceCtorEq]
      refine CallK.pure (e23x _) ?_
      simp only [go_sem, Nat.reduceEqDiff, Nat.reduceAdd, Nat.reduceLT, Nat.reduceLeDiff, reduceIte, reduceCtorEq]
      refine CallK.pure (e23y _) ?_
      simp only [go_sem, Nat.reduceEqDiff, Nat.reduceAdd, Nat.reduceLT, Nat.reduceLeDiff, reduceIte, reduceCtorEq]
      refine CallK.pure (e22 _) ?_
      simp only [z4, go_sem, Nat.reduceEqDiff, Nat.reduceAdd, Nat.reduceLT, Nat.reduceLeDiff, reduceIte, reduceCtorEq]
      refine CallK.pure (e25 _) ?_
      simp only [go_sem, Nat.reduceEqDiff, Nat.reduceAdd, Nat.reduceLT, Nat.reduceLeDiff, reduceIte, reduceCtorEq]
      exact leaf (B true) rfl ⟨rfl, rfl⟩
    · rw [htn] at h; cases h
  · rw [hmv] at e22 htn
    obtain ⟨n, hn⟩ : ∃ n, (a.getD 0 []).length = n := ⟨_, rfl⟩
    have hPg := hP.good vx
    have hPl := hP.few
    have hPw := wayOk_of hm xl yl hP.head hP.last hP.chn hPg
    rw [hn] at n1 n4 hPw ⊢
    obtain ⟨W, hW⟩ : ∃ W, P.map (fun u => u.take n) = W := ⟨_, rfl⟩
    have hWl : P.length = W.length := by rw [← hW, List.length_map]
    have hWn : ∀ u ∈ W, u.length ≤ n := fun u hu => by
      rw [← hW] at hu
      obtain ⟨z, _, rfl⟩ := List.mem_map.1 hu
      rw [List.length_take]; omega
    rw [hW] at hPw ⊢
    rw [hWl]
    simp only [List.getD_cons_zero, List.getD_cons_succ, go_sem, Nat.reduceEqDiff, Nat.reduceAdd, Nat.reduceLT, Nat.reduceLeDiff, reduceIte, reduceCtorEq]
    refine CallK.pure (e21 _) ?_
    rw [vx]
    simp only [go_sem, Nat.reduceEqDiff, Nat.reduceAdd, Nat.reduceLT, Nat.reduceLeDiff, reduceIte, reduceCtorEq]
    refine CallK.pure (e21y _) ?_
    rw [vy]
    simp only [go_sem, Nat.reduceEqDiff, Nat.reduceAdd, Nat.reduceLT, Nat.reduceLeDiff, reduceIte, reduceCtorEq]
    rw [w5T0]
    refine W_view [] [(0, .sl false false (mS a)), (1, .sl false false (mI x)), (2, .sl false false (mI y)), (7, .sl false false (mS W)), (8, I 0)] [] (Wk.nil ⟨⟨mS_bnd, fun h => h, fun h => h, rfl⟩, ⟨mI_bnd, fun h => h, fun h => h, rfl⟩, ⟨mI_bnd, fun h => h, fun h => h, rfl⟩, vle_mS (cs := mS W) rfl (by simp) rfl (List.take_of_length_le (by rw [mS_length]; exact Nat.le_refl _)), rfl, trivial⟩) ?_
    simp only [go_sem, Nat.reduceEqDiff, Nat.reduceAdd, Nat.reduceLT, Nat.reduceLeDiff, reduceIte, reduceCtorEq]
    refine CallK.pure (e18 _) ?_
    simp only [go_sem, Nat.reduceEqDiff, Nat.reduceAdd, Nat.reduceLT, Nat.reduceLeDiff, reduceIte, reduceCtorEq]
    refine CallK.pure (e19y _) ?_
    simp only [go_sem, Nat.reduceEqDiff, Nat.reduceAdd, Nat.reduceLT, Nat.reduceLeDiff, reduceIte, reduceCtorEq]
    refine CallK.pure (e19 _) ?_
    simp only [go_sem, Nat.reduceEqDiff, Nat.reduceAdd, Nat.reduceLT, Nat.reduceLeDiff, reduceIte, reduceCtorEq]
    refine CallK.by (CallV.of_spec (first := []) (cap := []) h27) fun v H' hr => ?_
    rcases hr with ⟨h, -⟩ | ⟨-, h, -⟩ | ⟨-, -, Q, hQ, rfl, rfl⟩
    · unfold twoOk at h; rw [hokr] at h; cases h
    · rw [htn] at h; cases h
    have hQg := hQ.good vy
    have hQl := hQ.few
    have hPQ : P.length = Q.length := Nat.le_antisymm (hQ.len_le hm (fun u hu => ⟨(hQg u hu).1, (hQg u hu).2.1⟩) hP) (hP.len_le hm (fun u hu => ⟨(hPg u hu).1, (hPg u hu).2.1⟩) hQ)
    have hQw := wayOk_of hm xl yl (P := Q.reverse) (by rw [head_rev]; exact hQ.last) (by rw [last_rev]; exact hQ.head) (Nr.back hm (fun u hu => ⟨(hQg u hu).1, (hQg u hu).2.1⟩) hQ.chn) (fun u hu => hQg u (List.mem_reverse.1 hu))
    rw [hn] at hQw ⊢
    obtain ⟨V, hV⟩ : ∃ V, Q.map (fun u => u.take n) = V := ⟨_, rfl⟩
    have hVl : Q.length = V.length := by rw [← hV, List.length_map]
    have hVn : ∀ u ∈ V, u.length ≤ n := fun u hu => by
      rw [← hV] at hu
      obtain ⟨z, _, rfl⟩ := List.mem_map.1 hu
      rw [List.length_take]; omega
    rw [List.map_reverse, hV] at hQw
    rw [hV, hVl]
    simp only [List.getD_cons_zero, List.getD_cons_succ, w5T1, go_sem, Nat.reduceEqDiff, Nat.reduceAdd, Nat.reduceLT, Nat.reduceLeDiff, reduceIte, reduceCtorEq]
    refine CallK.pure (e23x _) ?_
    simp only [go_sem, Nat.reduceEqDiff, Nat.reduceAdd, Nat.reduceLT, Nat.reduceLeDiff, reduceIte, reduceCtorEq]
    refine CallK.pure (e23y _) ?_
    simp only [go_sem, Nat.reduceEqDiff, Nat.reduceAdd, Nat.reduceLT, Nat.reduceLeDiff, reduceIte, reduceCtorEq]
    refine CallK.pure (e22 _) ?_
    have hWp : 0 < W.length := by
      have := hPw.1
      cases W with
      | nil => cases this
      | cons u r => simp
    have hVp : 0 < V.length := by omega
    have hWV : W.length = V.length := by omega
    have c1 : ((W.length : Int) != (V.length : Int)) = false := by rw [hWV]; exact bne_self_eq_false _
    have c2 : ((W.length : Int) == 0) = false := by rw [beq_eq_false_iff_ne]; omega
    have g0 := mS_getD hWp
    have w0 : W.getD 0 [] = x := by
      have := hPw.1
      cases W with
      | nil => cases this
      | cons u r => exact Option.some.inj this
    have hll1 : W.length - 1 < W.length := by omega
    have gl := mS_getD hll1
    have wl : W.getD (W.length - 1) [] = y := by
      have := hPw.2.1
      rw [List.getLast?_eq_getElem?] at this
      rw [List.getD_eq_getElem?_getD, this]; rfl
    rw [w0] at g0
    rw [wl] at gl
    have el : IntKind.i64.wrap ((W.length : Int) - 1) = ((W.length - 1 : Nat) : Int) := by rw [wrap64 (by omega) (by omega)]; omega
    have d0 : ((W.length - 1 : Nat) : Int) < W.length := by omega
    have d00 : (0 : Int) < W.length := by omega
    have e22x : ∀ H, CallV Try.prog (.fn (.func 22) [] []) [.sl false false (mI x), .sl false false (mI x)] H fun v H' => v = B true ∧ H' = H := fun H => by
      have := liftV (s22 false false false false x x hx) (by simp [bndL, AVal.bnd, mI_bnd]) rfl H
      rwa [beq_self_eq_true] at this
    have e22y : ∀ H, CallV Try.prog (.fn (.func 22) [] []) [.sl false false (mI y), .sl false false (mI y)] H fun v H' => v = B true ∧ H' = H := fun H => by
      have := liftV (s22 false false false false y y hy) (by simp [bndL, AVal.bnd, mI_bnd]) rfl H
      rwa [beq_self_eq_true] at this
    simp only [z0, w5T1, c1, c2, g0, d00, go_sem, Nat.reduceEqDiff, Nat.reduceAdd, Nat.reduceLT, Nat.reduceLeDiff, reduceIte, reduceCtorEq]
    refine ⟨by omega, CallK.pure (e22x _) ?_⟩
    simp only [el, gl, d0, go_sem, Nat.reduceEqDiff, Nat.reduceAdd, Nat.reduceLT, Nat.reduceLeDiff, reduceIte, reduceCtorEq]
    refine CallK.pure (e22y _) ?_
    have hls : ∀ {U : List (List Int)}, (∀ u ∈ U, u.length ≤ n) → ∀ u ∈ U, u.length < 9223372036854775808 := fun h u hu => by have := h u hu; omega
    have tW : Sp.table6 W = W := table_same (show n ≤ 6 by omega) (by omega) hWn
    have h18W := s18 false false W (hls hWn) (by omega)
    rw [tW] at h18W
    have hbU : ∀ {U Z : List (List Int)}, Z.map (fun u => u.take n) = U → (∀ u ∈ Z, ∀ z ∈ u, z ≤ 500) → ∀ s ∈ U, ∀ z ∈ s, z < 9223372036854775808 := fun e h s hs z hz => by
      rw [← e] at hs
      obtain ⟨u, hu, rfl⟩ := List.mem_map.1 hs
      have := h u hu z (List.mem_of_mem_take hz)
      omega
    have h28W := s28 a x y W ha hl hx hy (by omega) fun s hs => ⟨hls hWn s hs, hbU hW (hP.small vx) s hs⟩
    have hVm : ∀ u ∈ V.reverse, u ∈ V := fun u hu => List.mem_reverse.1 hu
    have h28V := s28 a x y V.reverse ha hl hx hy (by rw [List.length_reverse]; omega) fun s hs => ⟨hls hVn s (hVm s hs), hbU hV (hQ.small vy) s (hVm s hs)⟩
    have tV : Sp.table6 V.reverse = V.reverse := table_same (show n ≤ 6 by omega) (by rw [List.length_reverse]; omega) fun u hu => hVn u (hVm u hu)
    have h18V := s18 false false V.reverse (fun u hu => hls hVn u (hVm u hu)) (by rw [List.length_reverse]; omega)
    rw [tV] at h18V
    have zz : ((0 : Int) == 0) = true := rfl
    simp only [w5T2, go_sem, Nat.reduceEqDiff, Nat.reduceAdd, Nat.reduceLT, Nat.reduceLeDiff, reduceIte, reduceCtorEq]
    refine CallK.pure (e18 _) ?_
    simp only [go_sem, Nat.reduceEqDiff, Nat.reduceAdd, Nat.reduceLT, Nat.reduceLeDiff, reduceIte, reduceCtorEq]
    refine CallK.pure (e19 _) ?_
    simp only [go_sem, Nat.reduceEqDiff, Nat.reduceAdd, Nat.reduceLT, Nat.reduceLeDiff, reduceIte, reduceCtorEq]
    refine CallK.pure (e19y _) ?_
    simp only [go_sem, Nat.reduceEqDiff, Nat.reduceAdd, Nat.reduceLT, Nat.reduceLeDiff, reduceIte, reduceCtorEq]
    refine CallK.pure (liftV h18W (by simp [bndL, AVal.bnd, mS_bnd]) (by simp [AVal.bnd, mS_bnd]) _) ?_
    simp only [go_sem, Nat.reduceEqDiff, Nat.reduceAdd, Nat.reduceLT, Nat.reduceLeDiff, reduceIte, reduceCtorEq]
    refine CallK.by (CallV.of_spec (first := []) (cap := []) (Spec.liftE h28W (by simp [bndL, AVal.bnd, mS_bnd, mI_bnd]) (fun v h => chkR_bnd h) _)) fun v H' ⟨hr, hH⟩ => ?_
    subst hH
    rcases hr with ⟨h, -⟩ | ⟨-, b, rfl, hb⟩
    · unfold twoOk at h; rw [hok] at h; cases h
    obtain rfl := hb.2 hPw
    simp only [List.getD_cons_zero, List.getD_cons_succ, go_sem, Nat.reduceEqDiff, Nat.reduceAdd, Nat.reduceLT, Nat.reduceLeDiff, reduceIte, reduceCtorEq]
    refine CallK.by (CallV.of_spec (first := []) (cap := []) (s31 V (by omega) (by omega))) fun v H' ⟨hv, hH⟩ => ?_
    subst hv hH
    simp only [go_sem, Nat.reduceEqDiff, Nat.reduceAdd, Nat.reduceLT, Nat.reduceLeDiff, reduceIte, reduceCtorEq]
    refine CallK.pure (e18 _) ?_
    simp only [go_sem, Nat.reduceEqDiff, Nat.reduceAdd, Nat.reduceLT, Nat.reduceLeDiff, reduceIte, reduceCtorEq]
    refine CallK.pure (e19 _) ?_
    simp only [go_sem, Nat.reduceEqDiff, Nat.reduceAdd, Nat.reduceLT, Nat.reduceLeDiff, reduceIte, reduceCtorEq]
    refine CallK.pure (e19y _) ?_
    simp only [go_sem, Nat.reduceEqDiff, Nat.reduceAdd, Nat.reduceLT, Nat.reduceLeDiff, reduceIte, reduceCtorEq]
    refine CallK.by (CallV.of_spec (first := []) (cap := []) (Spec.give (args := [.own 0 0 V.length V.length 1]) (H := [Blk.cells (mS V.reverse)]) (ρ := []) (R := fun H' => H' = []) (h18V.mono fun v' H' h => ⟨h.2, h.1⟩) rfl (Wk.nil ⟨vle_mS (cs := mS V.reverse) rfl (by simp) (by simp) (List.take_of_length_le (by rw [mS_length, List.length_reverse]; exact Nat.le_refl _)), trivial⟩) (by simp [AVal.bnd, bndL, mS_bnd]))) fun v H' ⟨hv, hH⟩ => ?_
    subst hv hH
    simp only [Blk.gone, go_sem, Nat.reduceEqDiff, Nat.reduceAdd, Nat.reduceLT, Nat.reduceLeDiff, reduceIte, reduceCtorEq]
    refine CallK.by (CallV.of_spec (first := []) (cap := []) (Spec.liftE h28V (by simp [bndL, AVal.bnd, mS_bnd, mI_bnd]) (fun v h => chkR_bnd h) _)) fun v H' ⟨hr, hH⟩ => ?_
    subst hH
    rcases hr with ⟨h, -⟩ | ⟨-, b, rfl, hb⟩
    · unfold twoOk at h; rw [hok] at h; cases h
    obtain rfl := hb.2 hQw
    simp only [List.getD_cons_zero, List.getD_cons_succ, zz, go_sem, Nat.reduceEqDiff, Nat.reduceAdd, Nat.reduceLT, Nat.reduceLeDiff, reduceIte, reduceCtorEq]
    refine CallK.pure (e25 _) ?_
    simp only [go_sem, Nat.reduceEqDiff, Nat.reduceAdd, Nat.reduceLT, Nat.reduceLeDiff, reduceIte, reduceCtorEq]
    exact leaf (B true) rfl ⟨rfl, rfl⟩
end Go.Proofs.Ytipfjfmdjmaflaa
