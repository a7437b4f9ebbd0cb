/- ConesAlone: an assortment is alone in its family exactly if no basic move leads anywhere. -/
import Derived.Test.YtipfjfmdjmaflaaNS
import Derived.Test.YtipfjfmdjmaflaaNV
import Derived.Test.YtipfjfmdjmaflaaMD
import Derived.Test.YtipfjfmdjmaflaaMB
namespace Go.Proofs.Ytipfjfmdjmaflaa
open Go.Abs AVal
set_option linter.unusedSimpArgs false
attribute [local go_sem] W_skip W_keep KQ_canon canon Fr.norm W_seq W_block W_scope W_exit W_ret W_ops W_draw KQ_nil KQ_norm_seq KQ_exit_seq KQ_ret_seq KQ_norm_block KQ_ret_block KQ_exit_block KQ_exit_loop KQ_ret_loop O_nil O_cons S_call S_mv SE_mv SD_mv S_pick SE_pick SD_pick S_bin SE_bin SD_bin S_eqb SE_eqb SD_eqb S_eqv SE_eqv SD_eqv S_eqnil SE_eqnil SD_eqnil S_un SE_un SD_un S_conv SE_conv SD_conv S_mkfn SE_mkfn SD_mkfn S_load SE_load SD_load S_nilck SE_nilck SD_nilck S_slS SE_slS SD_slS S_slP SE_slP SD_slP S_fldA SE_fldA SD_fldA S_fld SE_fld SD_fld S_ixS SE_ixS SD_ixS S_ixP SE_ixP SD_ixP S_ixV SE_ixV SD_ixV S_ixStr SE_ixStr SD_ixStr S_ext SE_ext SD_ext S_len SE_len SD_len S_lenStr SE_lenStr SD_lenStr S_lenc SE_lenc SD_lenc S_mn SE_mn SD_mn S_mx SE_mx SD_mx S_build SE_build SD_build S_alloc SD_alloc S_box SD_box S_bslice SD_bslice S_mksl SD_mksl S_store SD_store S_append SD_append S_copy SD_copy S_clr SD_clr S_mlen SE_mlen SD_mlen S_mget SE_mget SD_mget S_mval SE_mval SD_mval S_mentry SE_mentry SD_mentry S_mkmap SD_mkmap S_mset SD_mset S_mrange SD_mrange S_mnext mlenA mgetA mvalA mentryA msetA mrangeA cells_mp isCell_mp cellsOk_mp aq_some aa_some al_some alA_some aqd_some aad_some ald_some ape_some D_done D_both D_early D_step SE_call SD_call IOpd.ev Fr.get Fr.put Fr.putd entryFr pickA binA binI isSh shI eqbA eqvA ints ints_mI Option.map_some eqnilA unA convA loadA nilckA intA slSA slPA fldAA fldVA ixSA ixPA ixVA ixStrA extA lenA lenStrA mnA mxA AVal.fits fillA fillOk buildA opa srcA appA stoA copA clrA rdFree zeros List.length_nil List.length_cons List.length_map List.map_cons List.map_nil Option.map_some Option.map_none if_true if_false ite_true ite_false true_and and_true and_self implies_true forall_const true_implies Bool.false_eq_true Bool.not_true Bool.not_false decide_eq_true_eq decide_eq_false_iff_not eq_self List.getElem?_cons_zero List.getElem?_cons_succ List.getElem?_nil List.set_cons_zero List.set_cons_succ List.nil_append List.cons_append List.append_nil List.replicate_zero List.replicate_succ Nat.zero_add false_implies rng_lt rng_end rng_get cells_I cells_B cells_sl cut_one Int.toNat_natCast Int.natCast_nonneg List.headD_cons Int.lt_irrefl not_false_eq_true decide_false decide_true mI_length mI_cells mI_sz mI_isCell mI_mid mI_append mI_take mI_drop cells_val cells_own cells_agg isCell_I isCell_B isCell_nil isCell_sl isCell_own isCell_ptr isCell_fn isCell_rp isCell_yld cellsOk_I cellsOk_B cellsOk_nil cellsOk_sl cellsOk_own cellsOk_ptr cellsOk_fn cellsOk_rp cellsOk_yld cellsOk_agg cells_nil cells_ptr cells_fn cells_rp List.all_cons List.all_nil Bool.and_true Nat.mul_one Nat.zero_mul Nat.one_mul List.take_zero List.take_nil List.drop_nil List.drop_zero List.not_mem_nil Nat.le_refl Nat.zero_le mS_length mS_cells mS_sz mS_isCell mS_mid mS_append mS_take mS_drop cells_sI isCell_sI cellsOk_sI sI_eq succ_le_self' List.take_succ_cons List.drop_succ_cons List.take_length beq_self_eq_true List.mem_cons or_false forall_eq mI_put mI_rep O_guard' D_earlyG' D_stepG' W_cond' G_tt G_tf G_ft G_ff GE_tt GE_tf GE_ft GE_ff GS_tt GS_tf GS_ft GS_ff G_u GE_u GS_u IC_t IC_f xft xff xtt xtf z00 z20 z22 z02 zz tn0
/-! ### Plain. -/
theorem dp_pads {p x : List Int} (h : p.length = x.length) : Sp.dp (Sp.pad p) (Sp.pad x) = Sp.dp p x := by
  by_cases h4 : p.length ≤ 4
  · rw [Sp.dp_split p.length (by rw [Sp.pad_len h4, Sp.pad_len (by omega)]), Sp.pad_take rfl, Sp.pad_take h.symm, Sp.dp_zero (Sp.drop_zero fun j hj => Sp.pad_getD h.symm hj)]
    omega
  · unfold Sp.pad
    rw [show 4 - p.length = 0 by omega, show 4 - x.length = 0 by omega]; simp
theorem fam_dot {a : List (List Int)} {x y : List Int} (hm : Sp.mat a = true) (xl : x.length = (a.getD 0 []).length) (yl : y.length = (a.getD 0 []).length) (bx : Sp.inB 1000 x) (by' : Sp.inB 1000 y)
    (h : Sp.Fam (a.map Sp.pad) (a.getD 0 []).length (Sp.pad x) (Sp.pad y)) {r : List Int} (hr : r ∈ a) : Sp.dotG 0 r x = Sp.dotG 0 r y := by
  obtain ⟨r1, r2, -, r4⟩ := Sp.mat_cols hm rfl
  obtain ⟨-, -, h3⟩ := Sp.mat_spec hm
  have hl := (h3 r hr).1
  have hrb : Sp.inB 2 r := fun z hz => r1.bnd (Sp.pad r) (List.mem_map.2 ⟨r, hr, rfl⟩) z (by unfold Sp.pad; simp [hz])
  rw [Sp.dotG_dp (A := 2) (M := 1000) (by decide) (by decide) (by decide) hrb bx (by omega) (by omega) (by omega), Sp.dotG_dp (A := 2) (M := 1000) (by decide) (by decide) (by decide) hrb by' (by omega) (by omega) (by omega)]
  have h0 := Sp.moveB_all.1 h.mv (Sp.pad r) (List.mem_map.2 ⟨r, hr, rfl⟩)
  rw [Sp.dp_plus (by rw [Sp.pad_len (by omega), Sp.pad_len (by omega)]), dp_pads (by omega), dp_pads (by omega)] at h0
  omega
/-- A move leads somewhere. -/
def leadB (x m : List Int) : Bool := posV (plusV 1 x m)
theorem leads_iff {a : List (List Int)} {x : List Int} {F : List (List Int)} (hv : Sp.vecOk a x 0 6 = true) (hF : FamL a x F) : (Sp.basL a).any (leadB x) = decide (1 < F.length) := by
  obtain ⟨hm, xl, Xl, bX, pX, bx, Xp, px⟩ := vecOk_spec (by decide) hv
  have n4 := (mat_rows hm).2.2.2
  have hx : x ∈ F := (hF.2 x).2 ⟨xl, Sp.Fam.self Xl Xp pX⟩
  rw [Bool.eq_iff_iff, List.any_eq_true, decide_eq_true_eq]
  constructor
  · rintro ⟨m, hmm, hp⟩
    obtain ⟨ml, hM⟩ := (Sp.mem_basL hm).1 hmm
    have pe : Sp.pad (plusV 1 x m) = plusV 1 (Sp.pad x) (Sp.pad m) := Sp.pad_plus xl ml
    have hy : plusV 1 x m ∈ F := (hF.2 _).2 ⟨by unfold plusV; rw [List.length_zipWith]; omega, by
      rw [pe]
      refine (Sp.Fam.self Xl Xp pX).step Xl hM ?_
      rw [← pe, Sp.posV_pad]; exact hp⟩
    have hne : x ≠ plusV 1 x m := fun e => by
      refine hM.mv.ne ?_
      have e' := congrArg Sp.pad e
      rw [pe] at e'
      have m4 := hM.mv.len
      refine Sp.ext4 m4 (by simp [Sp.z4]) fun j => ?_
      have h9 : (Sp.pad x).getD j 0 = (plusV 1 (Sp.pad x) (Sp.pad m)).getD j 0 := by rw [← e']
      rw [plusV_get Xl m4] at h9
      rw [Sp.z4_getD]; omega
    rcases F with _ | ⟨f, _ | ⟨g, F⟩⟩
    · cases hx
    · simp at hx hy; exact absurd (hx.trans hy.symm) hne
    · simp
  · intro h1
    have hex : ∃ y ∈ F, y ≠ x := by
      rcases F with _ | ⟨f, _ | ⟨g, F⟩⟩
      · simp at h1
      · simp at h1
      · by_cases hf : f = x
        · refine ⟨g, by simp, fun hg => ?_⟩
          have := (List.pairwise_cons.1 hF.1).1 g (by simp)
          rw [hf, hg, Sp.cmpL_self] at this; omega
        · exact ⟨f, by simp, hf⟩
    obtain ⟨y, hy, hne⟩ := hex
    obtain ⟨yl, hfam⟩ := (hF.2 y).1 hy
    have key := Sp.fam_ind hm Xl Xp pX (P := fun Y => Y = Sp.pad x ∨ ∃ m, Sp.Mini (a.map Sp.pad) (a.getD 0 []).length m ∧ posV (plusV 1 (Sp.pad x) m) = true) (.inl rfl) (fun Z m _ hZ hM hp => by
      rcases hZ with rfl | hZ
      · exact .inr ⟨m, hM, hp⟩
      · exact .inr hZ) hfam
    rcases key with e | ⟨M, hM, hp⟩
    · refine absurd ?_ hne
      have := congrArg (List.take (a.getD 0 []).length) e
      rwa [Sp.pad_take yl, Sp.pad_take xl] at this
    · have e := Sp.take_pad n4 hM.mv.len hM.mv.pad
      have ml : (M.take (a.getD 0 []).length).length = (a.getD 0 []).length := by rw [List.length_take, hM.mv.len]; omega
      refine ⟨M.take (a.getD 0 []).length, (Sp.mem_basL hm).2 ⟨ml, by rw [e]; exact hM⟩, ?_⟩
      show posV _ = true
      rw [← Sp.posV_pad, Sp.pad_plus xl ml, e]; exact hp
theorem mI_inj {xs ys : List Int} (h : mI xs = mI ys) : xs = ys := (List.map_inj_right (f := I) fun x y h => by simpa using h).1 h
theorem mS_inj {xs ys : List (List Int)} (h : mS xs = mS ys) : xs = ys := (List.map_inj_right (f := sI) fun x y h => mI_inj (by simpa [sI] using h)).1 h
theorem vec_same {a : List (List Int)} {x : List Int} {lo hi : Int} (h : Sp.vecOk a x lo hi = true) : Sp.table6 a = a ∧ x.take 6 = x := by
  unfold Sp.vecOk at h
  simp only [Bool.and_eq_true, decide_eq_true_eq] at h
  obtain ⟨hm, xl, -⟩ := h
  obtain ⟨-, -, n1, n4⟩ := mat_rows hm
  exact ⟨Sp.mat_table.2 hm, List.take_of_length_le (by omega)⟩
theorem asc_at {L : List (List Int)} (h : L.Pairwise fun x y => Sp.cmpL x y < 0) {i j : Nat} (hij : i < j) (hj : j < L.length) : Sp.cmpL (L.getD i []) (L.getD j []) < 0 := by
  rw [List.getD_eq_getElem?_getD, List.getD_eq_getElem?_getD, List.getElem?_eq_getElem hj, List.getElem?_eq_getElem (by omega)]
  exact List.pairwise_iff_getElem.1 h i j (by omega) hj hij
theorem famR_bnd {a : List (List Int)} {x : List Int} {v : AVal} (h : famR a x v) : v.bnd 0 = true := by
  rcases h with ⟨-, rfl⟩ | ⟨-, -, rfl⟩ | ⟨-, -, F, -, -, -, rfl⟩ <;> simp [AVal.bnd, bndL, mS_bnd]
theorem countR_bnd {a : List (List Int)} {x : List Int} {v : AVal} (h : countR a x v) : v.bnd 0 = true := by
  rcases h with ⟨-, rfl⟩ | ⟨-, -, rfl⟩ | ⟨-, -, F, -, -, rfl⟩ <;> simp [AVal.bnd, bndL]
theorem posV_snoc {l : List Int} {k : Nat} (h : k < l.length) : posV (l.take (k + 1)) = (posV (l.take k) && decide (l.getD k 0 ≥ 0)) := by
  rw [Sp.take_snoc h]; unfold posV; simp
theorem plusV_at {x y : List Int} (h : x.length = y.length) {i : Nat} (hi : i < x.length) : (plusV 1 x y).getD i 0 = x.getD i 0 + y.getD i 0 := by
  unfold plusV
  rw [List.getD_eq_getElem?_getD, List.getElem?_eq_getElem (by rw [List.length_zipWith]; omega), List.getElem_zipWith]
  simp [List.getD_eq_getElem?_getD, hi, show i < y.length by omega]
theorem s60 (x y : List Int) (hy : y.length < 9223372036854775808) (hx : x.length < 9223372036854775808) : Abs.Spec Try.prog 60 [sI y, .rp [sI x]] [] fun v H' => H' = [] ∧ v = B (x == y) := by
  refine Abs.Spec.walk mixed fn60 nn60 t60 q60 nt60 (by simp) ?_
  simp only [w60, go_sem, Nat.reduceEqDiff, Nat.reduceAdd, Nat.reduceLT, Nat.reduceLeDiff, reduceIte, reduceCtorEq]
  refine CallK.by (CallV.of_spec (s22 false false false false x y hx)) fun v H' ⟨h1, h2⟩ => ?_
  subst h1 h2
  simp only [go_sem, Nat.reduceEqDiff, Nat.reduceAdd, Nat.reduceLT, Nat.reduceLeDiff, reduceIte, reduceCtorEq]
  exact leaf (B _) rfl ⟨rfl, rfl⟩
set_option maxRecDepth 20000 in
set_option maxHeartbeats 4000000 in
theorem law15 (a : List (List Int)) (x : List Int) (ha : ∀ l ∈ a, l.length < 9223372036854775808) (hl : a.length < 9223372036854775808) (hx : x.length < 9223372036854775808) :
    Abs.Spec Try.prog 15 [.sl false false (mS a), .sl false false (mI x)] [] fun v H' => H' = [] ∧ v = B true := by
  obtain ⟨t1, t2⟩ := tab6_len ha hl
  have x6 : (x.take 6).length < 9223372036854775808 := by rw [List.length_take]; omega
  have e18 : ∀ H, CallV Try.prog (.fn (.func 18) [] []) [.sl false false (mS a)] H fun v H' => v = .sl false false (mS (Sp.table6 a)) ∧ H' = H := fun H => liftV (s18 false false a ha hl) (by simp [bndL, AVal.bnd, mS_bnd]) (by simp [AVal.bnd, mS_bnd]) H
  have e19 : ∀ H, CallV Try.prog (.fn (.func 19) [] []) [.sl false false (mI x)] H fun v H' => v = .sl false false (mI (x.take 6)) ∧ H' = H := fun H => liftV (s19 false false x hx) (by simp [bndL, AVal.bnd, mI_bnd]) (by simp [AVal.bnd, mI_bnd]) H
  have e25 : ∀ H, CallV Try.prog (.fn (.func 25) [] []) [] H fun v H' => v = B true ∧ H' = H := fun H => liftV s25 rfl rfl H
  have e21 : ∀ H, CallV Try.prog (.fn (.func 21) [] []) [.sl false false (mS a), .sl false false (mI x), I 0, I 6] H fun v H' => v = B (Sp.vecOk a x 0 6) ∧ H' = H := fun H => liftV (s21 false false false false a x 0 6 ha hl hx) (by simp [bndL, AVal.bnd, mS_bnd, mI_bnd]) rfl H
  refine Abs.Spec.walk mixed fn15 nn15 t15 q15 nt15 (by simp) ?_
  simp only [w15, go_sem, Nat.reduceEqDiff, Nat.reduceAdd, Nat.reduceLT, Nat.reduceLeDiff, reduceIte, reduceCtorEq]
  refine ⟨by decide, CallKD.pure e18 ?_⟩
  simp only [List.getElem?_cons_succ, List.getElem?_cons_zero, go_sem, Nat.reduceEqDiff, Nat.reduceAdd, Nat.reduceLT, Nat.reduceLeDiff, reduceIte, reduceCtorEq]
  refine CallKD.pure e19 ?_
  simp only [go_sem, Nat.reduceEqDiff, Nat.reduceAdd, Nat.reduceLT, Nat.reduceLeDiff, reduceIte, reduceCtorEq]
  refine CallKD.by (CallV.of_spec (first := []) (cap := []) (Spec.liftE (s59 (Sp.table6 a) (x.take 6) t1 t2 x6) (by simp [bndL, AVal.bnd, mS_bnd, mI_bnd]) (fun v hr => famR_bnd hr) _)) fun v H' ⟨hr, hH⟩ => ?_
  subst hH
  obtain ⟨F, e, hv, hF⟩ : ∃ F e, v = .tup [.sl false false (mS F), I e] ∧ famR (Sp.table6 a) (x.take 6) (.tup [.sl false false (mS F), I e]) := by
    rcases id hr with ⟨-, rfl⟩ | ⟨-, -, rfl⟩ | ⟨-, -, F, -, -, -, rfl⟩ <;> exact ⟨_, _, rfl, hr⟩
  subst hv
  simp only [List.getD_cons_zero, List.getD_cons_succ, go_sem, Nat.reduceEqDiff, Nat.reduceAdd, Nat.reduceLT, Nat.reduceLeDiff, reduceIte, reduceCtorEq]
  refine ⟨by decide, CallKD.pure e18 ?_⟩
  simp only [List.getElem?_cons_succ, List.getElem?_cons_zero, go_sem, Nat.reduceEqDiff, Nat.reduceAdd, Nat.reduceLT, Nat.reduceLeDiff, reduceIte, reduceCtorEq]
  refine CallKD.pure e19 ?_
  simp only [go_sem, Nat.reduceEqDiff, Nat.reduceAdd, Nat.reduceLT, Nat.reduceLeDiff, reduceIte, reduceCtorEq]
  refine CallKD.by (CallV.of_spec (first := []) (cap := []) (Spec.liftE (s58 (Sp.table6 a) (x.take 6) t1 t2 x6) (by simp [bndL, AVal.bnd, mS_bnd, mI_bnd]) (fun v hr => countR_bnd hr) _)) fun v H' ⟨hc, hH⟩ => ?_
  subst hH
  obtain ⟨n, f, hv, hC⟩ : ∃ n f, v = .tup [I n, I f] ∧ countR (Sp.table6 a) (x.take 6) (.tup [I n, I f]) := by
    rcases id hc with ⟨-, rfl⟩ | ⟨-, -, rfl⟩ | ⟨-, -, F, -, -, rfl⟩ <;> exact ⟨_, _, rfl, hc⟩
  subst hv
  clear hr hc
  simp only [List.getD_cons_zero, List.getD_cons_succ, go_sem, Nat.reduceEqDiff, Nat.reduceAdd, Nat.reduceLT, Nat.reduceLeDiff, reduceIte, reduceCtorEq]
  have ne2 : ((2 : Int) != 0) = true := rfl
  have ne5 : ((5 : Int) != 0) = true := rfl
  have ne0 : ((0 : Int) != 0) = false := rfl
  have z2 : ((2 : Int) == 2) = true := rfl
  have z5 : ((5 : Int) == 5) = true := rfl
  have z52 : ((5 : Int) == 2) = false := rfl
  unfold famR at hF
  unfold countR at hC
  rw [Sp.vecOk_take] at hF hC
  cases hok : Sp.vecOk a x 0 6 with
  | false =>
    obtain rfl : e = 2 := by
      rcases hF with ⟨-, h⟩ | ⟨h, -⟩ | ⟨h, -⟩
      · simp only [AVal.tup.injEq, List.cons.injEq, AVal.val.injEq, Value.int.injEq, true_and, and_true] at h
        exact h.2
      · rw [hok] at h; cases h
      · rw [hok] at h; cases h
    obtain rfl : f = 2 := by
      rcases hC with ⟨-, h⟩ | ⟨h, -⟩ | ⟨h, -⟩
      · have : n = 0 ∧ f = 2 := by simpa using h
        exact this.2
      · rw [hok] at h; cases h
      · rw [hok] at h; cases h
    simp only [ne2, z2, go_sem, Nat.reduceEqDiff, Nat.reduceAdd, Nat.reduceLT, Nat.reduceLeDiff, reduceIte, reduceCtorEq]
    refine CallK.pure (e25 _) ?_
    simp only [go_sem, Nat.reduceEqDiff, Nat.reduceAdd, Nat.reduceLT, Nat.reduceLeDiff, reduceIte, reduceCtorEq]
    exact leaf (B true) rfl ⟨rfl, rfl⟩
  | true =>
  obtain ⟨k1, k2⟩ := vec_same hok
  rw [k1, k2] at hF
  rw [k1, k2] at hC
  cases hpu : (Sp.basL a).any posV with
  | true =>
    obtain rfl : e = 5 := by
      rcases hF with ⟨h, -⟩ | ⟨-, -, h⟩ | ⟨-, h, -⟩
      · rw [hok] at h; cases h
      · simp only [AVal.tup.injEq, List.cons.injEq, AVal.val.injEq, Value.int.injEq, true_and, and_true] at h
        exact h.2
      · rw [hpu] at h; cases h
    obtain rfl : f = 5 := by
      rcases hC with ⟨h, -⟩ | ⟨-, -, h⟩ | ⟨-, h, -⟩
      · rw [hok] at h; cases h
      · have : n = 0 ∧ f = 5 := by simpa using h
        exact this.2
      · rw [hpu] at h; cases h
    simp only [ne5, z5, z52, go_sem, Nat.reduceEqDiff, Nat.reduceAdd, Nat.reduceLT, Nat.reduceLeDiff, reduceIte, reduceCtorEq]
    refine CallK.pure (e25 _) ?_
    simp only [go_sem, Nat.reduceEqDiff, Nat.reduceAdd, Nat.reduceLT, Nat.reduceLeDiff, reduceIte, reduceCtorEq]
    exact leaf (B true) rfl ⟨rfl, rfl⟩
  | false =>
  have hF' : FamL a x F ∧ e = 0 ∧ F.length ≤ 23372600161 ∧ ∀ y ∈ F, ∀ z ∈ y, 0 ≤ z ∧ z ≤ 390 := by
    rcases hF with ⟨h, -⟩ | ⟨-, h, -⟩ | ⟨-, -, F', h1, h2, h3, h⟩
    · rw [hok] at h; cases h
    · rw [hpu] at h; cases h
    · simp only [AVal.tup.injEq, List.cons.injEq, AVal.sl.injEq, AVal.val.injEq, Value.int.injEq, true_and, and_true] at h
      obtain rfl := mS_inj h.1
      exact ⟨h1, h.2, h2, h3⟩
  have hC' : ∃ F', FamL a x F' ∧ n = (F'.length : Int) ∧ f = 0 := by
    rcases hC with ⟨h, -⟩ | ⟨-, h, -⟩ | ⟨-, -, F', h1, -, h⟩
    · rw [hok] at h; cases h
    · rw [hpu] at h; cases h
    · exact ⟨F', h1, by simpa using h⟩
  clear hF hC
  obtain ⟨f1, rfl, f2, f3⟩ := hF'
  obtain ⟨F', c1, rfl, rfl⟩ := hC'
  obtain rfl := f1.uniq c1
  have hld := leads_iff hok f1
  obtain ⟨hm, xl, Xl, bX, pX, bx, Xp, px⟩ := vecOk_spec (by decide) hok
  obtain ⟨r1, r2, n1, n4⟩ := mat_rows hm
  simp only [ne0, go_sem, Nat.reduceEqDiff, Nat.reduceAdd, Nat.reduceLT, Nat.reduceLeDiff, reduceIte, reduceCtorEq]
  refine CallK.pure (e21 _) ?_
  rw [hok]
  simp only [go_sem, Nat.reduceEqDiff, Nat.reduceAdd, Nat.reduceLT, Nat.reduceLeDiff, reduceIte, reduceCtorEq]
  rw [w15T0]
  refine W_view [] [(0, .sl false false (mS a)), (3, .rp [.sl false false (mI x)]), (5, .sl false false (mS F)), (7, I F.length), (8, I 0)] [] (Wk.nil ⟨⟨mS_bnd, fun h => h, fun h => h, rfl⟩, ⟨by simp [bndL, AVal.bnd, mI_bnd], by simp, by simp, rfl⟩, ⟨mS_bnd, fun h => h, fun h => h, rfl⟩, rfl, rfl, trivial⟩) ?_
  simp only [go_sem, Nat.reduceEqDiff, Nat.reduceAdd, Nat.reduceLT, Nat.reduceLeDiff, reduceIte, reduceCtorEq]
  obtain ⟨L, hL⟩ : ∃ L, Sp.basL a = L := ⟨_, rfl⟩
  have hbA : basA a = .tup [.sl false false (mS (Sp.basL a)), I 0] := by unfold basA; rw [if_pos hm]
  have h39 := s39d false false a ha hl
  rw [hbA] at h39
  have hLl : L.length ≤ 400 := by rw [← hL]; exact Sp.ans_len hm (Sp.basB_is _ _)
  have hLm : ∀ m ∈ L, m.length = x.length ∧ Sp.inB 16 m := fun m hm' => by
    rw [← hL] at hm'
    exact ⟨by rw [((Sp.mem_basL hm).1 hm').1, xl], Sp.ans_num hm (Sp.basB_is _ _) hm'⟩
  rw [hL] at h39 hld
  refine CallK.pure (e18 _) ?_
  rw [k1]
  simp only [go_sem, Nat.reduceEqDiff, Nat.reduceAdd, Nat.reduceLT, Nat.reduceLeDiff, reduceIte, reduceCtorEq]
  refine CallK.pure (liftV h39 (by simp [bndL, AVal.bnd, mS_bnd]) (by simp [AVal.bnd, bndL, mS_bnd]) _) ?_
  have z0 : ((F.length : Int) != (F.length : Int)) = false := bne_self_eq_false _
  have hFl : ∀ y ∈ F, y.length = x.length := fun y hy => by rw [((f1.2 y).1 hy).1, xl]
  have x4 : x.length ≤ 4 := by omega
  have hvr : ∀ H, vle H [] [] 3 (.fn (.func 60) [] [.rp [.sl false false (mI x)]]) (.fn (.func 60) [] [.rp [.sl false false (mI x)]]) := fun H => by simp [vle, vle.vleL, bndL, AVal.bnd, mI_bnd]
  have hmem : F.any (fun y => x == y) = true := List.any_eq_true.2 ⟨x, (f1.2 x).2 ⟨xl, Sp.Fam.self Xl Xp pX⟩, beq_self_eq_true x⟩
  simp only [List.getD_cons_zero, List.getD_cons_succ, ne0, z0, go_sem, Nat.reduceEqDiff, Nat.reduceAdd, Nat.reduceLT, Nat.reduceLeDiff, reduceIte, reduceCtorEq]
  refine CallK.pure (liftV (s44 false false F (.fn (.func 60) [] [.rp [.sl false false (mI x)]]) (fun y => x == y) (fun y hy => CallV.of_spec (first := []) (cap := [.rp [.sl false false (mI x)]]) ((s60 x y (by have := hFl y hy; omega) hx).mono fun v H' h => ⟨h.2, h.1⟩)) hvr (by omega)) (by simp [bndL, AVal.bnd, mS_bnd, mI_bnd]) rfl _) ?_
  rw [hmem]
  simp only [w15T1, go_sem, Nat.reduceEqDiff, Nat.reduceAdd, Nat.reduceLT, Nat.reduceLeDiff, reduceIte, reduceCtorEq]
  refine W_loop (fun i : { i : Nat // i ≤ F.length } => ([(0, .sl false false (mS a)), (3, .rp [.sl false false (mI x)]), (5, .sl false false (mS F)), (7, I F.length), (9, .sl false false (mS L)), (81, .sl false false (mS F)), (82, I F.length), (83, I i.1)], [])) (fun i => F.length - i.1) ⟨0, by omega⟩ [] (Wk.nil (by simp [fle, vle, Fr.get, mS_bnd, mI_bnd, bndL, AVal.bnd])) ?_
  rintro ⟨i, hi⟩
  dsimp only
  by_cases hil : i < F.length
  · have d1 : (i : Int) < F.length := by omega
    have gi := mS_getD hil
    have ym : F.getD i [] ∈ F := by rw [List.getD_eq_getElem?_getD, List.getElem?_eq_getElem hil]; exact List.getElem_mem hil
    obtain ⟨y, hy⟩ : ∃ y, F.getD i [] = y := ⟨_, rfl⟩
    rw [hy] at gi ym
    have yl := hFl y ym
    have hyx : ((y.length : Int) != (x.length : Int)) = false := by rw [yl]; exact bne_self_eq_false _
    obtain ⟨yln, hfam⟩ := (f1.2 y).1 ym
    have yb : Sp.numbers y 0 100000 = true := by
      unfold Sp.numbers
      rw [List.all_eq_true]
      intro z hz
      have := f3 y ym z hz
      simp; omega
    have hdot : (a.map fun r => Sp.dotG 0 r x) = a.map fun r => Sp.dotG 0 r y := List.map_congr_left fun r hr => fam_dot hm xl yln (Sp.inB_mono bx (by decide)) (fun z hz => by have := f3 y ym z hz; omega) hfam hr
    have al : a.length ≤ 1000 := by have := (Sp.mat_spec hm).2.1; omega
    have rl : ∀ r ∈ a, r.length = x.length := fun r hr => by rw [((Sp.mat_spec hm).2.2 r hr).1, xl]
    have e23x := fun H => liftV (s23 false false false false a x rl al (by omega)) (by simp [bndL, AVal.bnd, mS_bnd, mI_bnd]) (by simp [AVal.bnd, mI_bnd]) H
    have e23y := fun H => liftV (s23 false false false false a y (fun r hr => by rw [rl r hr, yl]) al (by omega)) (by simp [bndL, AVal.bnd, mS_bnd, mI_bnd]) (by simp [AVal.bnd, mI_bnd]) H
    simp only [w15L2, d1, decide_true, gi, w15T3, hyx, mI_length, go_sem, Nat.reduceEqDiff, Nat.reduceAdd, Nat.reduceLT, Nat.reduceLeDiff, reduceIte, reduceCtorEq]
    refine CallK.pure (liftV (s24 false false y 0 100000 (by omega)) (by simp [bndL, AVal.bnd, mI_bnd]) rfl _) ?_
    rw [yb]
    simp only [go_sem, Nat.reduceEqDiff, Nat.reduceAdd, Nat.reduceLT, Nat.reduceLeDiff, reduceIte, reduceCtorEq]
    refine CallK.pure (e23x _) ?_
    simp only [go_sem, Nat.reduceEqDiff, Nat.reduceAdd, Nat.reduceLT, Nat.reduceLeDiff, reduceIte, reduceCtorEq]
    refine CallK.pure (e23y _) ?_
    rw [← hdot]
    simp only [go_sem, Nat.reduceEqDiff, Nat.reduceAdd, Nat.reduceLT, Nat.reduceLeDiff, reduceIte, reduceCtorEq]
    refine CallK.pure (liftV (s22 false false false false (a.map fun r => Sp.dotG 0 r x) (a.map fun r => Sp.dotG 0 r x) (by rw [List.length_map]; omega)) (by simp [bndL, AVal.bnd, mI_bnd]) rfl _) ?_
    rw [beq_self_eq_true]
    have ei : IntKind.i64.wrap ((i : Int) + 1) = ((i + 1 : Nat) : Int) := by rw [wrap64 (by omega) (by omega)]; omega
    simp only [go_sem, Nat.reduceEqDiff, Nat.reduceAdd, Nat.reduceLT, Nat.reduceLeDiff, reduceIte, reduceCtorEq]
    refine G.splitP (fun h0 => ?_) fun h0 => ?_
    · have hp : i - 1 < F.length := by omega
      have gp := mS_getD hp
      have hc : Sp.cmpL (F.getD (i - 1) []) (F.getD i []) < 0 := asc_at f1.1 (show i - 1 < i by omega) hil
      have pm : F.getD (i - 1) [] ∈ F := by rw [List.getD_eq_getElem?_getD, List.getElem?_eq_getElem hp]; exact List.getElem_mem hp
      rw [hy] at hc
      obtain ⟨p, hpx⟩ : ∃ p, F.getD (i - 1) [] = p := ⟨_, rfl⟩
      rw [hpx] at gp hc pm
      have pl := hFl p pm
      have e1 : IntKind.i64.wrap ((i : Int) - 1) = ((i - 1 : Nat) : Int) := by rw [wrap64 (by omega) (by omega)]; omega
      have c3 : ((i - 1 : Nat) : Int) < F.length := by omega
      have hc' : ¬ Sp.cmpL p y ≥ 0 := by omega
      simp only [e1, gp, c3, go_sem, Nat.reduceEqDiff, Nat.reduceAdd, Nat.reduceLT, Nat.reduceLeDiff, reduceIte, reduceCtorEq]
      refine CallK.pure (liftV (s41 false false false false p y (by omega) (by omega)) (by simp [bndL, AVal.bnd, mI_bnd]) rfl _) ?_
      simp only [hc', decide_false, w15T4, ei, go_sem, Nat.reduceEqDiff, Nat.reduceAdd, Nat.reduceLT, Nat.reduceLeDiff, reduceIte, reduceCtorEq]
      exact round1 rfl ⟨i + 1, hil⟩ [] (by dsimp only; omega) (Wk.nil (by simp [fle, vle, Fr.get, mS_bnd, mI_bnd, bndL, AVal.bnd]))
    · simp only [w15T4, ei, go_sem, Nat.reduceEqDiff, Nat.reduceAdd, Nat.reduceLT, Nat.reduceLeDiff, reduceIte, reduceCtorEq]
      exact round1 rfl ⟨i + 1, hil⟩ [] (by dsimp only; omega) (Wk.nil (by simp [fle, vle, Fr.get, mS_bnd, mI_bnd, bndL, AVal.bnd]))
  · have d1 : ¬ (i : Int) < F.length := by omega
    simp only [w15L2, d1, decide_false, w15T5, go_sem, Nat.reduceEqDiff, Nat.reduceAdd, Nat.reduceLT, Nat.reduceLeDiff, reduceIte, reduceCtorEq]
    refine W_loop (fun j : { j : Nat // j ≤ L.length } => ([(3, .rp [.sl false false (mI x)]), (7, I F.length), (13, B ((L.take j.1).any (leadB x))), (123, .sl false false (mS L)), (124, I L.length), (125, I j.1)], [])) (fun j => L.length - j.1) ⟨0, by omega⟩ [] (Wk.nil (by simp [fle, vle, Fr.get, mS_bnd, mI_bnd, bndL, AVal.bnd])) ?_
    rintro ⟨j, hj⟩
    dsimp only
    by_cases hjl : j < L.length
    · have d2 : (j : Int) < L.length := by omega
      have gj := mS_getD hjl
      have mm : L.getD j [] ∈ L := by rw [List.getD_eq_getElem?_getD, List.getElem?_eq_getElem hjl]; exact List.getElem_mem hjl
      have tj : L.take (j + 1) = L.take j ++ [L.getD j []] := by rw [List.take_add_one, List.getD_eq_getElem?_getD, List.getElem?_eq_getElem hjl]; rfl
      obtain ⟨m, hmj⟩ : ∃ m, L.getD j [] = m := ⟨_, rfl⟩
      rw [hmj] at gj mm tj
      obtain ⟨ml, mb⟩ := hLm m mm
      have hmx : ((m.length : Int) == (x.length : Int)) = true := by rw [ml]; exact beq_self_eq_true _
      obtain ⟨t, ht⟩ : ∃ t, (L.take j).any (leadB x) = t := ⟨_, rfl⟩
      have et : (L.take (j + 1)).any (leadB x) = (t || leadB x m) := by rw [tj, List.any_append, ht]; simp
      rw [ht]
      simp only [w15L6, d2, decide_true, gj, w15T7, hmx, mI_length, go_sem, Nat.reduceEqDiff, Nat.reduceAdd, Nat.reduceLT, Nat.reduceLeDiff, reduceIte, reduceCtorEq]
      refine W_loop (fun k : { k : Nat // k ≤ x.length } => ([(3, .rp [.sl false false (mI x)]), (7, I F.length), (13, B t), (16, B (posV ((plusV 1 x m).take k.1))), (123, .sl false false (mS L)), (124, I L.length), (125, I j), (134, .sl false false (mI m)), (135, I x.length), (136, I k.1)], [])) (fun k => x.length - k.1) ⟨0, by omega⟩ [] (Wk.nil (by simp [fle, vle, Fr.get, mS_bnd, mI_bnd, bndL, AVal.bnd, posV, ml])) ?_
      rintro ⟨k, hk⟩
      dsimp only
      have pvl : (plusV 1 x m).length = x.length := by unfold plusV; rw [List.length_zipWith]; omega
      by_cases hkl : k < x.length
      · have d3 : (k : Int) < x.length := by omega
        have gm := mI_get (xs := m) (i := k) (by omega)
        have gx := mI_get (xs := x) (i := k) hkl
        have ek : IntKind.i64.wrap ((k : Int) + 1) = ((k + 1 : Nat) : Int) := by rw [wrap64 (by omega) (by omega)]; omega
        have b1 := Sp.inB_getD mb k
        have b2 := Sp.inB_getD bx k
        have ea : IntKind.i64.wrap (x.getD k 0 + m.getD k 0) = x.getD k 0 + m.getD k 0 := wrap64 (by omega) (by omega)
        have es := posV_snoc (l := plusV 1 x m) (k := k) (by omega)
        rw [plusV_at ml.symm hkl] at es
        cases hp : posV ((plusV 1 x m).take k) with
        | true =>
          rw [hp, Bool.true_and] at es
          simp only [w15L8, d3, decide_true, w15T9, gm, gx, ek, ea, go_sem, Nat.reduceEqDiff, Nat.reduceAdd, Nat.reduceLT, Nat.reduceLeDiff, reduceIte, reduceCtorEq]
          exact ⟨by omega, round0 rfl ⟨k + 1, hkl⟩ (by dsimp only; omega) rfl (by simp [fle, vle, Fr.get, mS_bnd, mI_bnd, bndL, AVal.bnd, es])⟩
        | false =>
          rw [hp, Bool.false_and] at es
          simp only [w15L8, d3, decide_true, w15T9, gm, gx, ek, ea, go_sem, Nat.reduceEqDiff, Nat.reduceAdd, Nat.reduceLT, Nat.reduceLeDiff, reduceIte, reduceCtorEq]
          exact ⟨by omega, round0 rfl ⟨k + 1, hkl⟩ (by dsimp only; omega) rfl (by simp [fle, vle, Fr.get, mS_bnd, mI_bnd, bndL, AVal.bnd, es])⟩
      · have d3 : ¬ (k : Int) < x.length := by omega
        obtain rfl : k = x.length := by omega
        have el : posV (List.take x.length (plusV 1 x m)) = leadB x m := by rw [List.take_of_length_le (by omega)]; rfl
        have ej : IntKind.i64.wrap ((j : Int) + 1) = ((j + 1 : Nat) : Int) := by rw [wrap64 (by omega) (by omega)]; omega
        rw [el]
        cases t with
        | true =>
          rw [Bool.true_or] at et
          simp only [w15L8, d3, decide_false, w15T10, w15T11, ej, go_sem, Nat.reduceEqDiff, Nat.reduceAdd, Nat.reduceLT, Nat.reduceLeDiff, reduceIte, reduceCtorEq]
          exact round0 rfl ⟨j + 1, hjl⟩ (by dsimp only; omega) rfl (by simp [fle, vle, Fr.get, mS_bnd, mI_bnd, bndL, AVal.bnd, et])
        | false =>
          rw [Bool.false_or] at et
          simp only [w15L8, d3, decide_false, w15T10, w15T11, ej, go_sem, Nat.reduceEqDiff, Nat.reduceAdd, Nat.reduceLT, Nat.reduceLeDiff, reduceIte, reduceCtorEq]
          exact round0 rfl ⟨j + 1, hjl⟩ (by dsimp only; omega) rfl (by simp [fle, vle, Fr.get, mS_bnd, mI_bnd, bndL, AVal.bnd, et])
    · have d2 : ¬ (j : Int) < L.length := by omega
      obtain rfl : j = L.length := by omega
      have hfin : (decide (1 < F.length) == decide ((F.length : Int) > 1)) = true := by
        rw [beq_iff_eq]; exact decide_eq_decide.2 (by omega)
      rw [List.take_length, hld]
      simp only [w15L6, d2, decide_false, w15T12, hfin, go_sem, Nat.reduceEqDiff, Nat.reduceAdd, Nat.reduceLT, Nat.reduceLeDiff, reduceIte, reduceCtorEq]
      refine CallK.pure (e25 _) ?_
      simp only [go_sem, Nat.reduceEqDiff, Nat.reduceAdd, Nat.reduceLT, Nat.reduceLeDiff, reduceIte, reduceCtorEq]
      exact leaf (B true) rfl ⟨rfl, rfl⟩
end Go.Proofs.Ytipfjfmdjmaflaa
