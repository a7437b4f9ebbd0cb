/- Contracts: the reference's Best; the statement ConesPrices. -/
import Derived.Test.YtipfjfmdjmaflaaNH
namespace Go.Proofs.Ytipfjfmdjmaflaa
open Go.Abs AVal
set_option linter.unusedSimpArgs false
attribute [local go_sem] W_skip W_keep KQ_canon canon Fr.norm W_seq W_block W_scope W_exit W_ret W_ops W_draw KQ_nil KQ_norm_seq KQ_exit_seq KQ_ret_seq KQ_norm_block KQ_ret_block KQ_exit_block KQ_exit_loop KQ_ret_loop O_nil O_cons S_call S_mv SE_mv SD_mv S_pick SE_pick SD_pick S_bin SE_bin SD_bin S_eqb SE_eqb SD_eqb S_eqv SE_eqv SD_eqv S_eqnil SE_eqnil SD_eqnil S_un SE_un SD_un S_conv SE_conv SD_conv S_mkfn SE_mkfn SD_mkfn S_load SE_load SD_load S_nilck SE_nilck SD_nilck S_slS SE_slS SD_slS S_slP SE_slP SD_slP S_fldA SE_fldA SD_fldA S_fld SE_fld SD_fld S_ixS SE_ixS SD_ixS S_ixP SE_ixP SD_ixP S_ixV SE_ixV SD_ixV S_ixStr SE_ixStr SD_ixStr S_ext SE_ext SD_ext S_len SE_len SD_len S_lenStr SE_lenStr SD_lenStr S_lenc SE_lenc SD_lenc S_mn SE_mn SD_mn S_mx SE_mx SD_mx S_build SE_build SD_build S_alloc SD_alloc S_box SD_box S_bslice SD_bslice S_mksl SD_mksl S_store SD_store S_append SD_append S_copy SD_copy S_clr SD_clr aq_some aa_some al_some aqd_some aad_some ald_some ape_some D_done D_both D_early D_step SE_call SD_call IOpd.ev Fr.get Fr.put Fr.putd entryFr pickA binA binI isSh shI eqbA eqvA ints ints_mI Option.map_some eqnilA unA convA loadA nilckA intA slSA slPA fldAA fldVA ixSA ixPA ixVA ixStrA extA lenA lenStrA mnA mxA AVal.fits fillA fillOk buildA opa srcA appA stoA copA clrA rdFree zeros List.length_nil List.length_cons List.length_map List.map_cons List.map_nil Option.map_some Option.map_none if_true if_false ite_true ite_false true_and and_true and_self implies_true forall_const true_implies Bool.false_eq_true Bool.not_true Bool.not_false decide_eq_true_eq decide_eq_false_iff_not eq_self List.getElem?_cons_zero List.getElem?_cons_succ List.getElem?_nil List.set_cons_zero List.set_cons_succ List.nil_append List.cons_append List.append_nil List.replicate_zero List.replicate_succ Nat.zero_add false_implies rng_lt rng_end rng_get cells_I cells_B cells_sl cut_one Int.toNat_natCast Int.natCast_nonneg List.headD_cons Int.lt_irrefl not_false_eq_true decide_false decide_true mI_length mI_cells mI_sz mI_isCell mI_mid mI_append mI_take mI_drop cells_val cells_own cells_agg isCell_I isCell_B isCell_nil isCell_sl isCell_own isCell_ptr isCell_fn isCell_rp isCell_yld cellsOk_I cellsOk_B cellsOk_nil cellsOk_sl cellsOk_own cellsOk_ptr cellsOk_fn cellsOk_rp cellsOk_yld cellsOk_agg cells_nil cells_ptr cells_fn cells_rp List.all_cons List.all_nil Bool.and_true Nat.mul_one Nat.zero_mul Nat.one_mul List.take_zero List.take_nil List.drop_nil List.drop_zero List.not_mem_nil Nat.le_refl Nat.zero_le mS_length mS_cells mS_sz mS_isCell mS_mid mS_append mS_take mS_drop cells_sI isCell_sI cellsOk_sI sI_eq succ_le_self' List.take_succ_cons List.drop_succ_cons List.take_length beq_self_eq_true List.mem_cons or_false forall_eq mI_put mI_rep O_guard' D_earlyG' D_stepG' W_cond' G_tt G_tf G_ft G_ff GE_tt GE_tf GE_ft GE_ff GS_tt GS_tf GS_ft GS_ff G_u GE_u GS_u IC_t IC_f xft xff xtt xtf z00 z20 z22 z02 zz tn0

theorem Least.uniq {a : List (List Int)} {P X : List Int} {m k : Int} (h : Least a P X m) (h' : Least a P X k) : m = k := by
  obtain ⟨⟨Y, hY, rfl⟩, h2⟩ := h
  obtain ⟨⟨Z, hZ, rfl⟩, h4⟩ := h'
  have := h2 Z hZ
  have := h4 Y hY
  omega
set_option maxRecDepth 20000 in
set_option maxHeartbeats 4000000 in
theorem s36 (a : List (List Int)) (x p : List Int) (ha : ∀ l ∈ a, l.length < 9223372036854775808) (hl : a.length < 9223372036854775808) (hok : prOk a x p 6 = true) (hnp : (Sp.basL a).any posV = false) :
    Abs.Spec Try.prog 36 [.sl false false (mS a), .sl false false (mI x), .sl false false (mI p)] [] fun v H' => H' = [] ∧ ∃ m, Least a (Sp.pad p) (Sp.pad x) m ∧ v = I m := by
  refine Abs.Spec.walk mixed fn36 nn36 t36 q36 nt36 (by simp) ?_
  obtain ⟨hm, xl, pl, Xl, Pl, bX, pX, bP, bp, bx⟩ := prOk_spec (by decide) hok
  obtain ⟨n, hn⟩ : ∃ n, (a.getD 0 []).length = n := ⟨_, rfl⟩
  obtain ⟨r1, r2, n1, n4⟩ := mat_rows hm
  rw [hn] at n1 n4
  have px : posV x = true := by rw [← Sp.posV_pad]; exact pX
  simp only [w36, go_sem, Nat.reduceEqDiff, Nat.reduceAdd, Nat.reduceLT, Nat.reduceLeDiff, reduceIte, reduceCtorEq]
  refine CallK.pure (liftV (s37 false false false false x p (by omega) (by omega) (Sp.inB_mono bx (by decide)) bp) (by simp [bndL, AVal.bnd, mI_bnd]) rfl _) ?_
  simp only [go_sem, Nat.reduceEqDiff, Nat.reduceAdd, Nat.reduceLT, Nat.reduceLeDiff, reduceIte, reduceCtorEq]
  refine CallK.by (CallV.of_spec (first := []) (cap := []) (s61 a x ha hl hm n hn (by omega) bx px hnp)) fun v H' ⟨hH, F, hF1, hF2, hF3, hF4, hv⟩ => ?_
  subst hH hv
  have Fl : ∀ y ∈ F, y.length = n := fun y hy => ((hF2 y).1 hy).1
  have Fb : ∀ y ∈ F, Sp.inB 390 y := fun y hy z hz => by have := hF3 y hy z hz; omega
  have Fm : ∀ y ∈ F, Sp.Fam (a.map Sp.pad) (a.getD 0 []).length (Sp.pad x) (Sp.pad y) := fun y hy => by rw [hn]; exact ((hF2 y).1 hy).2
  have dpe : ∀ y : List Int, y.length = n → Sp.dp (Sp.pad p) (Sp.pad y) = Sp.dp p y := fun y hy => dp_pad (by omega)
  simp only [go_sem, Nat.reduceEqDiff, Nat.reduceAdd, Nat.reduceLT, Nat.reduceLeDiff, reduceIte, reduceCtorEq]
  refine W_loop (fun s : { s : Nat × Int // s.1 ≤ F.length ∧ (∃ Y, Sp.Fam (a.map Sp.pad) (a.getD 0 []).length (Sp.pad x) Y ∧ s.2 = Sp.dp (Sp.pad p) Y) ∧ ∀ y ∈ F.take s.1, s.2 ≤ Sp.dp p y } => ([(2, .sl false false (mI p)), (7, I s.1.2), (15, .sl false false (mS F)), (16, I F.length), (17, I s.1.1)], [])) (fun s => F.length - s.1.1)
    ⟨(0, Sp.dp p x), Nat.zero_le _, ⟨Sp.pad x, Sp.Fam.self Xl (fun j hj => Sp.pad_getD xl hj) pX, (dpe x (by omega)).symm⟩, fun y hy => by simp at hy⟩ [] (Wk.nil (by simp [fle, vle, Fr.get, mS_bnd, mI_bnd])) ?_
  rintro ⟨⟨i, m⟩, hi, hY, hle⟩
  dsimp only at hi hY hle ⊢
  by_cases hiF : i < F.length
  · have d1 : (i : Int) < F.length := by omega
    obtain ⟨y, hy⟩ : ∃ y, F.getD i [] = y := ⟨_, rfl⟩
    have gy := mS_getD hiF
    rw [hy] at gy
    have yF : y ∈ F := by rw [← hy]; exact gd_mem' hiF
    have ei : IntKind.i64.wrap ((i : Int) + 1) = ((i + 1 : Nat) : Int) := by rw [wrap64 (by omega) (by omega)]; omega
    have ftk : F.take (i + 1) = F.take i ++ [y] := by
      rw [List.take_add_one, List.getElem?_eq_getElem hiF, ← hy, List.getD_eq_getElem?_getD, List.getElem?_eq_getElem hiF]; rfl
    simp only [w36L0, d1, gy, go_sem, Nat.reduceEqDiff, Nat.reduceAdd, Nat.reduceLT, Nat.reduceLeDiff, reduceIte, reduceCtorEq]
    refine CallK.pure (liftV (s37 false false false false y p (by rw [Fl y yF]; omega) (by omega) (Sp.inB_mono (Fb y yF) (by decide)) bp) (by simp [bndL, AVal.bnd, mI_bnd]) rfl _) ?_
    simp only [ei, go_sem, Nat.reduceEqDiff, Nat.reduceAdd, Nat.reduceLT, Nat.reduceLeDiff, reduceIte, reduceCtorEq]
    have hres : Sp.dp p y = Sp.dp (Sp.pad p) (Sp.pad y) := (dpe y (Fl y yF)).symm
    by_cases hlt : Sp.dp p y < m
    · rw [if_pos hlt]
      refine round0 rfl ⟨(i + 1, Sp.dp p y), hiF, ⟨Sp.pad y, Fm y yF, hres⟩, fun z hz => ?_⟩ (by dsimp only; omega) rfl (by simp [fle, vle, Fr.get, mS_bnd, mI_bnd])
      rw [ftk] at hz
      rcases List.mem_append.1 hz with hz | hz
      · have := hle z hz; dsimp only; omega
      · simp at hz; subst hz; exact Int.le_refl _
    · rw [if_neg hlt]
      refine round0 rfl ⟨(i + 1, m), hiF, hY, fun z hz => ?_⟩ (by dsimp only; omega) rfl (by simp [fle, vle, Fr.get, mS_bnd, mI_bnd])
      rw [ftk] at hz
      rcases List.mem_append.1 hz with hz | hz
      · exact hle z hz
      · simp at hz; subst hz; dsimp only; omega
  · have d1 : ¬ (i : Int) < F.length := by omega
    obtain rfl : i = F.length := by omega
    rw [List.take_length] at hle
    simp only [w36L0, w36T1, d1, go_sem, Nat.reduceEqDiff, Nat.reduceAdd, Nat.reduceLT, Nat.reduceLeDiff, reduceIte, reduceCtorEq]
    refine leaf (I m) rfl ⟨rfl, m, ⟨hY, fun Y hF => ?_⟩, rfl⟩
    rw [hn] at hF
    have e := Sp.take_pad n4 hF.len hF.pad
    have yl : (Y.take n).length = n := by rw [List.length_take, hF.len]; omega
    have := hle (Y.take n) ((hF2 _).2 ⟨yl, by rw [e]; exact hF⟩)
    rw [← dpe _ yl, e] at this
    exact this
theorem prOk_vec {a : List (List Int)} {x p : List Int} {most : Int} : prOk a x p most = (Sp.vecOk a x 0 most && Sp.vecOk a p (-9) 9) := by
  unfold prOk Sp.vecOk
  cases Sp.mat a <;> simp
theorem prOk_take {a : List (List Int)} {x p : List Int} {most : Int} : prOk (Sp.table6 a) (x.take 6) (p.take 6) most = prOk a x p most := by rw [prOk_vec, prOk_vec, Sp.vecOk_take, Sp.vecOk_take]
theorem prOk_6 {a : List (List Int)} {x p : List Int} : prOk a x p 6 = (prOk a x p 1000 && Sp.numbers x 0 6) := by
  have h : Sp.numbers x 0 6 = true → Sp.numbers x 0 1000 = true := fun h => by
    unfold Sp.numbers at h ⊢
    rw [List.all_eq_true] at h ⊢
    intro z hz
    have := h z hz
    simp only [Bool.and_eq_true, decide_eq_true_eq] at this ⊢
    omega
  unfold prOk Sp.vecOk
  cases h6 : Sp.numbers x 0 6 with
  | true => rw [h h6]; simp
  | false => simp
theorem bestR_bnd {a : List (List Int)} {x p : List Int} {v : AVal} (h : bestR a x p v) : v.bnd 0 = true := by
  rcases h with ⟨-, rfl⟩ | ⟨-, -, rfl⟩ | ⟨-, -, m, -, rfl⟩ <;> simp [AVal.bnd, bndL]
/-- The answer of Step, in parts. -/
def stepP (a : List (List Int)) (x p : List Int) : List Int × Int :=
  if prOk a x p 1000 then
    if (Sp.basL a).any posV then ([], 5)
    else match stepA a (Sp.pad p) (Sp.pad x) with
      | none => ([], 4)
      | some z => (z.take (a.getD 0 []).length, 0)
  else ([], 2)
theorem stepR_eq (a : List (List Int)) (x p : List Int) : stepR a x p = .tup [.sl false false (mI (stepP a x p).1), I (stepP a x p).2] := by
  unfold stepR stepP
  split
  · split
    · rfl
    · generalize stepA a (Sp.pad p) (Sp.pad x) = r
      cases r <;> rfl
  · rfl
theorem stepP_len {a : List (List Int)} {x p : List Int} : (stepP a x p).1.length < 9223372036854775808 := by
  unfold stepP
  split
  · rename_i hok
    obtain ⟨hm, -⟩ := prOk_spec (by decide) hok
    obtain ⟨-, -, n1, n4⟩ := mat_rows hm
    split
    · simp
    · split
      · simp
      · simp only [List.length_take]; omega
  · simp
set_option maxRecDepth 20000 in
set_option maxHeartbeats 4000000 in
theorem s6 (a : List (List Int)) (x p : List Int) (ha : ∀ l ∈ a, l.length < 9223372036854775808) (hl : a.length < 9223372036854775808) (hx : x.length < 9223372036854775808) (hp : p.length < 9223372036854775808) :
    Abs.Spec Try.prog 6 [.sl false false (mS a), .sl false false (mI x), .sl false false (mI p)] [] fun v H' => H' = [] ∧ v = B true := by
  obtain ⟨ha', hl'⟩ := tab6_len ha hl
  have hx6 : (x.take 6).length < 9223372036854775808 := by rw [List.length_take]; omega
  have hp6 : (p.take 6).length < 9223372036854775808 := by rw [List.length_take]; omega
  have e18 : ∀ H, CallV Try.prog (.fn (.func 18) [] []) [.sl false false (mS a)] H fun v H' => v = .sl false false (mS (Sp.table6 a)) ∧ H' = H := fun H => liftV (s18 false false a ha hl) (by simp [bndL, AVal.bnd, mS_bnd]) (by simp [AVal.bnd, mS_bnd]) H
  have e19 : ∀ H, CallV Try.prog (.fn (.func 19) [] []) [.sl false false (mI x)] H fun v H' => v = .sl false false (mI (x.take 6)) ∧ H' = H := fun H => liftV (s19 false false x hx) (by simp [bndL, AVal.bnd, mI_bnd]) (by simp [AVal.bnd, mI_bnd]) H
  have e19p : ∀ H, CallV Try.prog (.fn (.func 19) [] []) [.sl false false (mI p)] H fun v H' => v = .sl false false (mI (p.take 6)) ∧ H' = H := fun H => liftV (s19 false false p hp) (by simp [bndL, AVal.bnd, mI_bnd]) (by simp [AVal.bnd, mI_bnd]) H
  have e25 : ∀ H, CallV Try.prog (.fn (.func 25) [] []) [] H fun v H' => v = B true ∧ H' = H := fun H => liftV s25 rfl rfl H
  have e21 : ∀ H, CallV Try.prog (.fn (.func 21) [] []) [.sl false false (mS a), .sl false false (mI x), I 0, I 1000] H fun v H' => v = B (Sp.vecOk a x 0 1000) ∧ H' = H := fun H => liftV (s21 false false false false a x 0 1000 ha hl hx) (by simp [bndL, AVal.bnd, mS_bnd, mI_bnd]) rfl H
  have e21p : ∀ H, CallV Try.prog (.fn (.func 21) [] []) [.sl false false (mS a), .sl false false (mI p), I (-9), I 9] H fun v H' => v = B (Sp.vecOk a p (-9) 9) ∧ H' = H := fun H => liftV (s21 false false false false a p (-9) 9 ha hl hp) (by simp [bndL, AVal.bnd, mS_bnd, mI_bnd]) rfl H
  have h33 := s33 (Sp.table6 a) (x.take 6) (p.take 6) ha' hl' hx6 hp6
  rw [stepR_eq] at h33
  obtain ⟨ys, f, hyf⟩ : ∃ ys f, stepP (Sp.table6 a) (x.take 6) (p.take 6) = (ys, f) := ⟨_, _, rfl⟩
  have ysl := stepP_len (a := Sp.table6 a) (x := x.take 6) (p := p.take 6)
  rw [hyf] at h33 ysl
  have e33 : ∀ H, CallV Try.prog (.fn (.func 33) [] []) [.sl false false (mS (Sp.table6 a)), .sl false false (mI (x.take 6)), .sl false false (mI (p.take 6))] H fun v H' => v = .tup [.sl false false (mI ys), I f] ∧ H' = H := fun H => liftV h33 (by simp [bndL, AVal.bnd, mS_bnd, mI_bnd]) (by simp [bndL, AVal.bnd, mI_bnd]) H
  refine Abs.Spec.walk mixed fn6 nn6 t6 q6 nt6 (by simp) ?_
  simp only [w6, go_sem, Nat.reduceEqDiff, Nat.reduceAdd, Nat.reduceLT, Nat.reduceLeDiff, reduceIte, reduceCtorEq]
  refine CallK.pure (e18 _) ?_
  simp only [go_sem, Nat.reduceEqDiff, Nat.reduceAdd, Nat.reduceLT, Nat.reduceLeDiff, reduceIte, reduceCtorEq]
  refine CallK.pure (e19 _) ?_
  simp only [go_sem, Nat.reduceEqDiff, Nat.reduceAdd, Nat.reduceLT, Nat.reduceLeDiff, reduceIte, reduceCtorEq]
  refine CallK.pure (e19p _) ?_
  simp only [go_sem, Nat.reduceEqDiff, Nat.reduceAdd, Nat.reduceLT, Nat.reduceLeDiff, reduceIte, reduceCtorEq]
  refine CallK.by (CallV.of_spec (first := []) (cap := []) (Spec.liftE (s32 _ _ _ ha' hl' hx6 hp6) (by simp [bndL, AVal.bnd, mS_bnd, mI_bnd]) (fun v h => bestR_bnd h) _)) fun v H' ⟨hb, hH⟩ => ?_
  subst hH
  obtain ⟨nb, eb, hv, hbb⟩ : ∃ nb eb : Int, v = .tup [I nb, I eb] ∧ ((prOk a x p 6 = false ∧ nb = 0 ∧ eb = 2) ∨ (prOk a x p 6 = true ∧ (Sp.basL a).any posV = true ∧ nb = 0 ∧ eb = 5) ∨ (prOk a x p 6 = true ∧ (Sp.basL a).any posV = false ∧ Least a (Sp.pad p) (Sp.pad x) nb ∧ eb = 0)) := by
    have same : prOk a x p 6 = true → Sp.table6 a = a ∧ x.take 6 = x ∧ p.take 6 = p := fun h => by
      obtain ⟨hm, xl, pl, -⟩ := prOk_spec (by decide) h
      obtain ⟨-, -, n1, n4⟩ := mat_rows hm
      exact ⟨Sp.mat_table.2 hm, List.take_of_length_le (by omega), List.take_of_length_le (by omega)⟩
    rcases hb with ⟨h, rfl⟩ | ⟨h, h2, rfl⟩ | ⟨h, h2, m, h3, rfl⟩
    · exact ⟨0, 2, rfl, .inl ⟨by rw [← prOk_take]; exact h, rfl, rfl⟩⟩
    · rw [prOk_take] at h
      obtain ⟨k1, k2, k3⟩ := same h
      rw [k1] at h2
      exact ⟨0, 5, rfl, .inr (.inl ⟨h, h2, rfl, rfl⟩)⟩
    · rw [prOk_take] at h
      obtain ⟨k1, k2, k3⟩ := same h
      rw [k1] at h2
      rw [k1, k2, k3] at h3
      exact ⟨m, 0, rfl, .inr (.inr ⟨h, h2, h3, rfl⟩)⟩
  clear hb
  subst hv
  simp only [List.getD_cons_zero, List.getD_cons_succ, go_sem, Nat.reduceEqDiff, Nat.reduceAdd, Nat.reduceLT, Nat.reduceLeDiff, reduceIte, reduceCtorEq]
  refine CallK.pure (e18 _) ?_
  simp only [List.getD_cons_zero, List.getD_cons_succ, go_sem, Nat.reduceEqDiff, Nat.reduceAdd, Nat.reduceLT, Nat.reduceLeDiff, reduceIte, reduceCtorEq]
  refine CallK.pure (e19 _) ?_
  simp only [List.getD_cons_zero, List.getD_cons_succ, go_sem, Nat.reduceEqDiff, Nat.reduceAdd, Nat.reduceLT, Nat.reduceLeDiff, reduceIte, reduceCtorEq]
  refine CallK.pure (e19p _) ?_
  simp only [List.getD_cons_zero, List.getD_cons_succ, go_sem, Nat.reduceEqDiff, Nat.reduceAdd, Nat.reduceLT, Nat.reduceLeDiff, reduceIte, reduceCtorEq]
  refine CallK.pure (e33 _) ?_
  simp only [List.getD_cons_zero, List.getD_cons_succ, go_sem, Nat.reduceEqDiff, Nat.reduceAdd, Nat.reduceLT, Nat.reduceLeDiff, reduceIte, reduceCtorEq]
  refine CallK.pure (e21 _) ?_
  by_cases hok : prOk a x p 1000 = true
  rotate_left
  · have hok' : prOk a x p 1000 = false := by simpa using hok
    have h6 : prOk a x p 6 = false := by rw [prOk_6, hok']; rfl
    have hst : ys = [] ∧ f = 2 := by
      unfold stepP at hyf
      rw [prOk_take, hok', if_neg (by decide)] at hyf
      cases hyf; exact ⟨rfl, rfl⟩
    obtain ⟨rfl, rfl⟩ := hst
    obtain ⟨rfl, rfl⟩ : nb = 0 ∧ eb = 2 := by
      rcases hbb with ⟨-, h1, h2⟩ | ⟨h, -⟩ | ⟨h, -⟩
      · exact ⟨h1, h2⟩
      · rw [h6] at h; cases h
      · rw [h6] at h; cases h
    have z0 : ((0 : Int) == 0) = true := rfl
    have z2 : ((2 : Int) == 2) = true := rfl
    have ln : (mI []).length = 0 := rfl
    have z0' : (((0 : Nat) : Int) == 0) = true := rfl
    cases hv1 : Sp.vecOk a x 0 1000 with
    | false =>
      simp only [z0, z2, ln, z0', go_sem, Nat.reduceEqDiff, Nat.reduceAdd, Nat.reduceLT, Nat.reduceLeDiff, reduceIte, reduceCtorEq]
      refine CallK.pure (e25 _) ?_
      simp only [go_sem, Nat.reduceEqDiff, Nat.reduceAdd, Nat.reduceLT, Nat.reduceLeDiff, reduceIte, reduceCtorEq]
      exact leaf (B true) rfl ⟨rfl, rfl⟩
    | true =>
      have hv2 : Sp.vecOk a p (-9) 9 = false := by rw [prOk_vec, hv1, Bool.true_and] at hok'; exact hok'
      simp only [go_sem, Nat.reduceEqDiff, Nat.reduceAdd, Nat.reduceLT, Nat.reduceLeDiff, reduceIte, reduceCtorEq]
      refine CallK.pure (e21p _) ?_
      simp only [hv2, z0, z2, ln, z0', go_sem, Nat.reduceEqDiff, Nat.reduceAdd, Nat.reduceLT, Nat.reduceLeDiff, reduceIte, reduceCtorEq]
      refine CallK.pure (e25 _) ?_
      simp only [go_sem, Nat.reduceEqDiff, Nat.reduceAdd, Nat.reduceLT, Nat.reduceLeDiff, reduceIte, reduceCtorEq]
      exact leaf (B true) rfl ⟨rfl, rfl⟩
  have hvv := hok
  rw [prOk_vec, Bool.and_eq_true] at hvv
  obtain ⟨hv1, hv2⟩ := hvv
  obtain ⟨hm, xl, pl, Xl, Pl, bX, pX, bP, bp, bx⟩ := prOk_spec (by decide) hok
  obtain ⟨r1, r2, n1, n4⟩ := mat_rows hm
  have k1 := Sp.mat_table.2 hm
  have k2 : x.take 6 = x := List.take_of_length_le (by omega)
  have k3 : p.take 6 = p := List.take_of_length_le (by omega)
  rw [k1, k2, k3] at hyf
  unfold stepP at hyf
  rw [hok, if_pos rfl] at hyf
  have h34 := s34 C50_ok a ha hl hm
  have e24 : ∀ H, CallV Try.prog (.fn (.func 24) [] []) [.sl false false (mI x), I 0, I 6] H fun v H' => v = B (Sp.numbers x 0 6) ∧ H' = H := fun H => liftV (s24 false false x 0 6 hx) (by simp [bndL, AVal.bnd, mI_bnd]) rfl H
  have h6 : prOk a x p 6 = Sp.numbers x 0 6 := by rw [prOk_6, hok, Bool.true_and]
  have pur : ((Sp.purL a).length > 0) ↔ (Sp.basL a).any posV = true := by
    rw [List.any_eq_true]
    unfold Sp.purL
    constructor
    · intro h
      obtain ⟨y, hy⟩ := List.exists_mem_of_length_pos h
      exact ⟨y, (List.mem_filter.1 hy).1, (List.mem_filter.1 hy).2⟩
    · rintro ⟨y, hy, hp⟩
      exact List.length_pos_of_mem (List.mem_filter.2 ⟨hy, hp⟩)
  have z0 : ((0 : Int) == 0) = true := rfl
  have z2 : ((2 : Int) == 2) = true := rfl
  have z5 : ((5 : Int) == 5) = true := rfl
  have ln : (mI []).length = 0 := rfl
  have z0' : (((0 : Nat) : Int) == 0) = true := rfl
  have n0 : ((0 : Int) != 0) = false := rfl
  have n2 : ((2 : Int) != 2) = false := rfl
  simp only [hv1, go_sem, Nat.reduceEqDiff, Nat.reduceAdd, Nat.reduceLT, Nat.reduceLeDiff, reduceIte, reduceCtorEq]
  refine CallK.pure (e21p _) ?_
  simp only [hv2, go_sem, Nat.reduceEqDiff, Nat.reduceAdd, Nat.reduceLT, Nat.reduceLeDiff, reduceIte, reduceCtorEq]
  refine CallK.pure (e24 _) ?_
  have pl0 : (Sp.purL a).length < 9223372036854775808 := by
    have h1 : (Sp.purL a).length ≤ (Sp.basL a).length := List.length_filter_le _ _
    have h2 : (Sp.basL a).length ≤ 400 := Sp.ans_len hm (Sp.basB_is _ _)
    omega
  have e34 : ∀ H, CallV Try.prog (.fn (.func 34) [] []) [.sl false false (mS a)] H fun v H' => v = .sl false false (mS (Sp.purL a)) ∧ H' = H := fun H => liftV h34 (by simp [bndL, AVal.bnd, mS_bnd]) (by simp [AVal.bnd, mS_bnd]) H
  cases hsm : Sp.numbers x 0 6 with
  | false =>
    obtain ⟨rfl, rfl⟩ : nb = 0 ∧ eb = 2 := by
      rcases hbb with ⟨-, h1, h2⟩ | ⟨h, -⟩ | ⟨h, -⟩
      · exact ⟨h1, h2⟩
      · rw [h6, hsm] at h; cases h
      · rw [h6, hsm] at h; cases h
    simp only [n0, n2, go_sem, Nat.reduceEqDiff, Nat.reduceAdd, Nat.reduceLT, Nat.reduceLeDiff, reduceIte, reduceCtorEq]
    refine CallK.pure (e34 _) ?_
    cases hpu : (Sp.basL a).any posV with
    | true =>
      have g1 : decide (((Sp.purL a).length : Int) > 0) = true := decide_eq_true (by have := pur.2 hpu; omega)
      rw [hpu, if_pos rfl] at hyf
      cases hyf
      simp only [g1, z0, z2, z5, ln, z0', go_sem, Nat.reduceEqDiff, Nat.reduceAdd, Nat.reduceLT, Nat.reduceLeDiff, reduceIte, reduceCtorEq]
      refine CallK.pure (e25 _) ?_
      simp only [go_sem, Nat.reduceEqDiff, Nat.reduceAdd, Nat.reduceLT, Nat.reduceLeDiff, reduceIte, reduceCtorEq]
      exact leaf (B true) rfl ⟨rfl, rfl⟩
    | false =>
      have g1 : decide (((Sp.purL a).length : Int) > 0) = false := decide_eq_false (fun h => by have := pur.1 (by omega); rw [hpu] at this; cases this)
      rw [hpu, if_neg (by decide)] at hyf
      have h35 := s35 a x p ha hl hok
      have e35 : ∀ H, CallV Try.prog (.fn (.func 35) [] []) [.sl false false (mS a), .sl false false (mI x), .sl false false (mI p)] H fun v H' => v = .tup [.sl false false (mI ys), I f] ∧ H' = H := fun H => by
        refine liftV (h35.mono fun v H' ⟨h1, h2⟩ => ⟨h1, ?_⟩) (by simp [bndL, AVal.bnd, mS_bnd, mI_bnd]) (by simp [bndL, AVal.bnd, mI_bnd]) H
        rw [h2]
        cases hs : stepA a (Sp.pad p) (Sp.pad x) with
        | none => rw [hs] at hyf; cases hyf; rfl
        | some z => rw [hs] at hyf; cases hyf; rfl
      have e22 : ∀ H, CallV Try.prog (.fn (.func 22) [] []) [.sl false false (mI ys), .sl false false (mI ys)] H fun v H' => v = B true ∧ H' = H := fun H => by
        have := liftV (s22 false false false false ys ys ysl) (by simp [bndL, AVal.bnd, mI_bnd]) rfl H
        rwa [beq_self_eq_true] at this
      have ff : (f == f) = true := beq_self_eq_true f
      simp only [g1, go_sem, Nat.reduceEqDiff, Nat.reduceAdd, Nat.reduceLT, Nat.reduceLeDiff, reduceIte, reduceCtorEq]
      refine CallK.pure (e35 _) ?_
      simp only [List.getD_cons_zero, List.getD_cons_succ, go_sem, Nat.reduceEqDiff, Nat.reduceAdd, Nat.reduceLT, Nat.reduceLeDiff, reduceIte, reduceCtorEq]
      refine CallK.pure (e22 _) ?_
      simp only [ff, go_sem, Nat.reduceEqDiff, Nat.reduceAdd, Nat.reduceLT, Nat.reduceLeDiff, reduceIte, reduceCtorEq]
      refine CallK.pure (e25 _) ?_
      simp only [go_sem, Nat.reduceEqDiff, Nat.reduceAdd, Nat.reduceLT, Nat.reduceLeDiff, reduceIte, reduceCtorEq]
      exact leaf (B true) rfl ⟨rfl, rfl⟩
  | true =>
    simp only [go_sem, Nat.reduceEqDiff, Nat.reduceAdd, Nat.reduceLT, Nat.reduceLeDiff, reduceIte, reduceCtorEq]
    refine CallK.pure (e34 _) ?_
    cases hpu : (Sp.basL a).any posV with
    | true =>
      have g1 : decide (((Sp.purL a).length : Int) > 0) = true := decide_eq_true (by have := pur.2 hpu; omega)
      rw [hpu, if_pos rfl] at hyf
      cases hyf
      obtain ⟨rfl, rfl⟩ : nb = 0 ∧ eb = 5 := by
        rcases hbb with ⟨h, -⟩ | ⟨-, -, h1, h2⟩ | ⟨-, h, -⟩
        · rw [h6, hsm] at h; cases h
        · exact ⟨h1, h2⟩
        · rw [hpu] at h; cases h
      simp only [g1, z0, z2, z5, ln, z0', go_sem, Nat.reduceEqDiff, Nat.reduceAdd, Nat.reduceLT, Nat.reduceLeDiff, reduceIte, reduceCtorEq]
      refine CallK.pure (e25 _) ?_
      simp only [go_sem, Nat.reduceEqDiff, Nat.reduceAdd, Nat.reduceLT, Nat.reduceLeDiff, reduceIte, reduceCtorEq]
      exact leaf (B true) rfl ⟨rfl, rfl⟩
    | false =>
      have g1 : decide (((Sp.purL a).length : Int) > 0) = false := decide_eq_false (fun h => by have := pur.1 (by omega); rw [hpu] at this; cases this)
      rw [hpu, if_neg (by decide)] at hyf
      obtain ⟨hL, rfl⟩ : Least a (Sp.pad p) (Sp.pad x) nb ∧ eb = 0 := by
        rcases hbb with ⟨h, -⟩ | ⟨-, h, -⟩ | ⟨-, -, h1, h2⟩
        · rw [h6, hsm] at h; cases h
        · rw [hpu] at h; cases h
        · exact ⟨h1, h2⟩
      have h35 := s35 a x p ha hl hok
      have e35 : ∀ H, CallV Try.prog (.fn (.func 35) [] []) [.sl false false (mS a), .sl false false (mI x), .sl false false (mI p)] H fun v H' => v = .tup [.sl false false (mI ys), I f] ∧ H' = H := fun H => by
        refine liftV (h35.mono fun v H' ⟨h1, h2⟩ => ⟨h1, ?_⟩) (by simp [bndL, AVal.bnd, mS_bnd, mI_bnd]) (by simp [bndL, AVal.bnd, mI_bnd]) H
        rw [h2]
        cases hs : stepA a (Sp.pad p) (Sp.pad x) with
        | none => rw [hs] at hyf; cases hyf; rfl
        | some z => rw [hs] at hyf; cases hyf; rfl
      have e36 : ∀ H, CallV Try.prog (.fn (.func 36) [] []) [.sl false false (mS a), .sl false false (mI x), .sl false false (mI p)] H fun v H' => v = I nb ∧ H' = H := fun H => by
        refine liftV ((s36 a x p ha hl (by rw [h6, hsm]) hpu).mono fun v H' ⟨h1, m, h2, h3⟩ => ⟨h1, ?_⟩) (by simp [bndL, AVal.bnd, mS_bnd, mI_bnd]) rfl H
        rw [h3, h2.uniq hL]
      have e22 : ∀ H, CallV Try.prog (.fn (.func 22) [] []) [.sl false false (mI ys), .sl false false (mI ys)] H fun v H' => v = B true ∧ H' = H := fun H => by
        have := liftV (s22 false false false false ys ys ysl) (by simp [bndL, AVal.bnd, mI_bnd]) rfl H
        rwa [beq_self_eq_true] at this
      have ff : (f == f) = true := beq_self_eq_true f
      have nn : (nb == nb) = true := beq_self_eq_true nb
      simp only [g1, go_sem, Nat.reduceEqDiff, Nat.reduceAdd, Nat.reduceLT, Nat.reduceLeDiff, reduceIte, reduceCtorEq]
      refine CallK.pure (e35 _) ?_
      simp only [List.getD_cons_zero, List.getD_cons_succ, go_sem, Nat.reduceEqDiff, Nat.reduceAdd, Nat.reduceLT, Nat.reduceLeDiff, reduceIte, reduceCtorEq]
      refine CallK.pure (e36 _) ?_
      simp only [nn, z0, go_sem, Nat.reduceEqDiff, Nat.reduceAdd, Nat.reduceLT, Nat.reduceLeDiff, reduceIte, reduceCtorEq]
      refine CallK.pure (e22 _) ?_
      simp only [ff, go_sem, Nat.reduceEqDiff, Nat.reduceAdd, Nat.reduceLT, Nat.reduceLeDiff, reduceIte, reduceCtorEq]
      refine CallK.pure (e25 _) ?_
      simp only [go_sem, Nat.reduceEqDiff, Nat.reduceAdd, Nat.reduceLT, Nat.reduceLeDiff, reduceIte, reduceCtorEq]
      exact leaf (B true) rfl ⟨rfl, rfl⟩
end Go.Proofs.Ytipfjfmdjmaflaa
