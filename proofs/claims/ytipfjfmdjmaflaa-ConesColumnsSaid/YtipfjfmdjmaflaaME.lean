/- Contracts: ConesColumns. -/
import Derived.Test.YtipfjfmdjmaflaaMD
import Derived.Test.YtipfjfmdjmaflaaMC
namespace Go.Proofs.Ytipfjfmdjmaflaa
open Go.Abs AVal
set_option linter.unusedSimpArgs false
attribute [local go_sem] W_skip W_keep KQ_canon canon Fr.norm W_seq W_block W_scope W_exit W_ret W_ops W_draw KQ_nil KQ_norm_seq KQ_exit_seq KQ_ret_seq KQ_norm_block KQ_ret_block KQ_exit_block KQ_exit_loop KQ_ret_loop O_nil O_cons S_call S_mv SE_mv SD_mv S_pick SE_pick SD_pick S_bin SE_bin SD_bin S_eqb SE_eqb SD_eqb S_eqv SE_eqv SD_eqv S_eqnil SE_eqnil SD_eqnil S_un SE_un SD_un S_conv SE_conv SD_conv S_mkfn SE_mkfn SD_mkfn S_load SE_load SD_load S_nilck SE_nilck SD_nilck S_slS SE_slS SD_slS S_slP SE_slP SD_slP S_fldA SE_fldA SD_fldA S_fld SE_fld SD_fld S_ixS SE_ixS SD_ixS S_ixP SE_ixP SD_ixP S_ixV SE_ixV SD_ixV S_ixStr SE_ixStr SD_ixStr S_ext SE_ext SD_ext S_len SE_len SD_len S_lenStr SE_lenStr SD_lenStr S_lenc SE_lenc SD_lenc S_mn SE_mn SD_mn S_mx SE_mx SD_mx S_build SE_build SD_build S_alloc SD_alloc S_box SD_box S_bslice SD_bslice S_mksl SD_mksl S_store SD_store S_append SD_append S_copy SD_copy S_clr SD_clr aq_some aa_some al_some aqd_some aad_some ald_some ape_some D_done D_both D_early D_step SE_call SD_call IOpd.ev Fr.get Fr.put Fr.putd entryFr pickA binA binI isSh shI eqbA eqvA ints ints_mI Option.map_some eqnilA unA convA loadA nilckA intA slSA slPA fldAA fldVA ixSA ixPA ixVA ixStrA extA lenA lenStrA mnA mxA AVal.fits fillA fillOk buildA opa srcA appA stoA copA clrA rdFree zeros List.length_nil List.length_cons List.length_map List.map_cons List.map_nil Option.map_some Option.map_none if_true if_false ite_true ite_false true_and and_true and_self implies_true forall_const true_implies Bool.false_eq_true Bool.not_true Bool.not_false decide_eq_true_eq decide_eq_false_iff_not eq_self List.getElem?_cons_zero List.getElem?_cons_succ List.getElem?_nil List.set_cons_zero List.set_cons_succ List.nil_append List.cons_append List.append_nil List.replicate_zero List.replicate_succ Nat.zero_add false_implies rng_lt rng_end rng_get cells_I cells_B cells_sl cut_one Int.toNat_natCast Int.natCast_nonneg List.headD_cons Int.lt_irrefl not_false_eq_true decide_false decide_true mI_length mI_cells mI_sz mI_isCell mI_mid mI_append mI_take mI_drop cells_val cells_own cells_agg isCell_I isCell_B isCell_nil isCell_sl isCell_own isCell_ptr isCell_fn isCell_rp isCell_yld cellsOk_I cellsOk_B cellsOk_nil cellsOk_sl cellsOk_own cellsOk_ptr cellsOk_fn cellsOk_rp cellsOk_yld cellsOk_agg cells_nil cells_ptr cells_fn cells_rp List.all_cons List.all_nil Bool.and_true Nat.mul_one Nat.zero_mul Nat.one_mul List.take_zero List.take_nil List.drop_nil List.drop_zero List.not_mem_nil Nat.le_refl Nat.zero_le mS_length mS_cells mS_sz mS_isCell mS_mid mS_append mS_take mS_drop cells_sI isCell_sI cellsOk_sI sI_eq succ_le_self' List.take_succ_cons List.drop_succ_cons List.take_length beq_self_eq_true List.mem_cons or_false forall_eq mI_put mI_rep O_guard' D_earlyG' D_stepG' W_cond' G_tt G_tf G_ft G_ff GE_tt GE_tf GE_ft GE_ff GS_tt GS_tf GS_ft GS_ff G_u GE_u GS_u IC_t IC_f xft xff xtt xtf z00 z20 z22 z02 zz tn0

/-- slices.SortFunc by a function that calls slices.Compare, of rows. -/
theorem sortRows7 {H : AHeap} {i n lb : Nat} {xs : List (List Int)} (hx : ∀ x ∈ xs, x.length < 9223372036854775808) (hn : n = xs.length) (hi : H[i]? = some (.cells (mS xs))) (hsz : n < 4611686018427387904) :
    CallV Try.prog (.fn (.func 46) [] []) [.own i 0 n lb 1, .fn (.func 47) [] []] H fun v' H' => v' = .tup [] ∧ H' = H.set i (.cells (mS (Sp.sortV xs))) := by
  have hk := CallV.sortFunc sortLay (α := { l : List Int // l.length < 9223372036854775808 }) (fun l => sI l.1) (fun E x v h => by
    rcases h.inv_sl with ⟨-, -, rfl⟩ | ⟨b, off, cap, k, rfl, -⟩ | ⟨-, -, a, rfl⟩ <;> rfl) (fun H x => by simp [vle, sI, mI_bnd]) (fun a b => Sp.cmpL a.1 b.1) (Sp.swoL fun a : { l : List Int // l.length < 9223372036854775808 } => a.1) (g := 47)
    (fun x y => s47 x.1 y.1 x.2 y.2) (H := H) (i := i) (n := n) (lb := lb) (xs := xs.attach.map fun x => ⟨x.1, hx x.1 x.2⟩) (rest := []) (by simpa using hn) (by
      rw [hi, List.append_nil, List.map_map]
      congr 2
      show xs.map sI = _
      conv => lhs; rw [← List.attach_map_subtype_val xs, List.map_map]
      rfl) hsz
  refine hk.mono fun v' H' ⟨hv, ys, hp, hs, hH⟩ => ⟨hv, ?_⟩
  have e : ys.map (·.1) = Sp.sortV xs := by
    refine Sp.asc_unique ?_ (Sp.sortV_asc xs) ?_
    · rw [List.pairwise_map]
      refine hs.imp fun {a b} h => ?_
      have := Sp.cmpL_anti b.1 a.1
      simp only [ltOf, decide_eq_false_iff_not] at h
      omega
    · refine ((hp.map (·.1)).trans ?_).trans (Sp.sortV_perm xs).symm
      rw [List.map_map]
      have : (xs.attach.map ((fun x : { l : List Int // l.length < 9223372036854775808 } => x.1) ∘ fun x => ⟨x.1, hx x.1 x.2⟩)) = xs := List.attach_map_subtype_val xs
      rw [this]
  rw [hH, ← e, List.append_nil]
  show _ = H.set i (.cells ((ys.map (·.1)).map sI))
  rw [List.map_map]; rfl
theorem mI_head {l : List Int} {i : Nat} (h : i < l.length) : (mI (l.drop i)).headD any = I (l.getD i 0) := by
  rw [List.drop_eq_getElem_cons h, List.getD_eq_getElem?_getD, List.getElem?_eq_getElem h]; rfl
theorem mI_put {l : List Int} {i : Nat} (h : i < l.length) (v : Int) : mI (l.take i) ++ [I v] ++ mI (l.drop (i + 1)) = mI (l.set i v) := by
  rw [List.set_eq_take_append_cons_drop, if_pos h]; simp [mI]
theorem sw_put {l : List Int} {i j : Nat} (hi : i < l.length) (hj : j < l.length) : mI ((l.set i (l.getD j 0)).take j) ++ [I (l.getD i 0)] ++ mI ((l.set i (l.getD j 0)).drop (j + 1)) = mI (Sp.sw i j l) :=
  mI_put (by rw [List.length_set]; exact hj) _
theorem vleL_snoc {H : AHeap} {ρ : List (Option Nat)} {img : List Nat} {d : Nat} {u u' : AVal} (h : vle H ρ img (d + 1) u u') : ∀ xs : List (List Int), vle.vleL H ρ img (d + 1) (mS xs ++ [u]) (mS xs ++ [u'])
  | [] => ⟨h, trivial⟩
  | _ :: xs => ⟨⟨mI_bnd, fun h => h, fun h => h, rfl⟩, vleL_snoc h xs⟩
/-- What is left once the columns are exchanged. -/
theorem tail9 {a : List (List Int)} (ha : ∀ l ∈ a, l.length < 9223372036854775808) (hm : Sp.mat a = true) {i j m : Nat} (hi : i < (a.getD 0 []).length) (hj : j < (a.getD 0 []).length) {fr : Fr} {H : AHeap}
    (e0 : fr.get 0 = .sl false false (mS a)) (e1 : fr.get 1 = I i) (e2 : fr.get 2 = I j) (e7 : fr.get 7 = .sl false false (mS (Sp.basL a))) (e10 : fr.get 10 = .own 0 0 m m 1)
    (hcall : CallV Try.prog (.fn (.func 39) [] []) [.own 0 0 m m 1] H fun v H' => v = basA (a.map (Sp.sw i j)) ∧ H' = H.map Blk.gone) :
    W { P := Try.prog, B := 0, n := 125, rg := true } (retA 0 r9 fun v H' => H' = [] ∧ v = B true) c9T1 [] fr H [] := by
  simp only [w9T1, e0, e1, e2, e7, e10, go_sem, Nat.reduceEqDiff, Nat.reduceAdd, Nat.reduceLT, Nat.reduceLeDiff, reduceIte, reduceCtorEq]
  refine CallK.by hcall fun v H' ⟨h1, h2⟩ => ?_
  subst h1 h2
  obtain ⟨m1, -, -⟩ := Sp.mat_sw hm hi hj
  rw [basA, if_pos m1]
  simp only [List.getD_cons_zero, List.getD_cons_succ, go_sem, Nat.reduceEqDiff, Nat.reduceAdd, Nat.reduceLT, Nat.reduceLeDiff, reduceIte, reduceCtorEq]
  obtain ⟨L, hL⟩ : ∃ L, Sp.basL a = L := ⟨_, rfl⟩
  have f8 : ∀ x ∈ Sp.basL a, x.length = (a.getD 0 []).length := fun x hx => ((Sp.mem_basL hm).1 hx).1
  have f1 : (Sp.basL a).length ≤ 400 := Sp.ans_len hm (Sp.basB_is _ _)
  have hsw := Sp.bas_sw hm hi hj
  have f9 : ∀ l ∈ Sp.basL (a.map (Sp.sw i j)), l.length < 9223372036854775808 := fun l hl => by
    have := ((Sp.mem_basL m1).1 hl).1
    have := (Sp.mat_cols m1 rfl).2.2.2
    omega
  have f10 : (Sp.basL (a.map (Sp.sw i j))).length ≤ 400 := Sp.ans_len m1 (Sp.basB_is _ _)
  rw [hL] at f8 f1 hsw
  obtain ⟨C, hC⟩ : ∃ C, Sp.basL (a.map (Sp.sw i j)) = C := ⟨_, rfl⟩
  rw [hC] at f9 f10 hsw
  rw [hL, hC]
  obtain ⟨-, -, n1, n4⟩ := Sp.mat_cols hm rfl
  have hrow0 : 0 < a.length := (Sp.mat_spec hm).1
  have g0 := mS_getD hrow0
  have c0 : (0 : Int) < a.length := by omega
  have gl : (mI (a.getD 0 [])).length = (a.getD 0 []).length := mI_length
  obtain ⟨n, hn⟩ : ∃ n, (a.getD 0 []).length = n := ⟨_, rfl⟩
  rw [hn] at f8 n1 n4 gl hi hj
  have nF : ((n : Int) != (n : Int)) = false := bne_self_eq_false _
  refine W_loop (fun q : { k : Nat // k ≤ L.length } => ([(0, .sl false false (mS a)), (1, I i), (2, I j), (8, I 0), (13, .sl false false (mS C)), (14, .own 0 0 q.1 q.1 1), (79, .sl false false (mS L)), (80, I L.length), (81, I q.1)], [.cells (mS ((L.take q.1).map (Sp.sw i j)))])) (fun q => L.length - q.1) ⟨0, by omega⟩ [none] (Wk.mk0 rfl (by simp [imgs, Blk.alive]) (by simp [hle, csle, mS_nil]) (by simp [fle, vle, Fr.get, mS_bnd, nilSl])) ?_
  rintro ⟨k, hk⟩
  dsimp only
  by_cases hkl : k < L.length
  · have d1 : (k : Int) < L.length := by omega
    have gk := mS_getD hkl
    have km := getD_mem hkl
    obtain ⟨z, hz⟩ : ∃ z, L.getD k [] = z := ⟨_, rfl⟩
    rw [hz] at gk km
    have zl := f8 z km
    have gz : (mI z).length = n := by rw [mI_length, zl]
    have hi' : i < z.length := by omega
    have hj' : j < z.length := by omega
    have p1 := mI_head hi'
    have p2 := mI_head hj'
    have p3 := mI_put hi' (z.getD j 0)
    have p4 := sw_put hi' hj'
    have p5 : (mI (z.set i (z.getD j 0))).length = n := by rw [mI_length, List.length_set, zl]
    have hw : IntKind.i64.wrap ((k : Int) + 1) = (k : Int) + 1 := wrap64 (by omega) (by omega)
    have tk : (L.take (k + 1)).map (Sp.sw i j) = (L.take k).map (Sp.sw i j) ++ [Sp.sw i j z] := by
      rw [← hz, List.take_add_one, List.map_append, List.getElem?_eq_getElem hkl, List.getD_eq_getElem?_getD, List.getElem?_eq_getElem hkl]; rfl
    simp only [w9L2, c0, d1, gk, g0, gl, gz, nF, go_sem, Nat.reduceEqDiff, Nat.reduceAdd, Nat.reduceLT, Nat.reduceLeDiff, reduceIte, reduceCtorEq]
    refine ⟨Int.le_refl _, ?_⟩
    refine CallK.by (CallV.of_spec (first := []) (cap := []) (Spec.made (s38o' false z (fun e => by rw [e] at zl; simp at zl; omega) (by omega)) (by simp [bndL, AVal.bnd, mI_bnd]) mI_bnd _)) fun v H' ⟨e1, e2⟩ => ?_
    subst e1 e2
    rw [zl]
    simp only [p1, p2, p3, p4, p5, hw, go_sem, Nat.reduceEqDiff, Nat.reduceAdd, Nat.reduceLT, Nat.reduceLeDiff, reduceIte, reduceCtorEq]
    refine ⟨by omega, by omega, by omega, by omega, by omega, by omega, by omega, by omega, ⟨by rw [List.length_take]; omega, by omega⟩, ?_⟩
    rw [List.take_of_length_le (l := (L.take k).map (Sp.sw i j)) (by simp; omega)]
    refine round1 rfl ⟨k + 1, by omega⟩ [some 3] (by dsimp only; omega) (Wk.mk0 rfl (by simp [imgs, Blk.alive]) ⟨.inr ?_, trivial⟩ (by simp [fle, vle, Fr.get, mS_bnd]))
    rw [tk, ← mS_append]
    exact vleL_snoc (vle_mI rfl (by simp [imgs, Blk.alive]) (by rw [Sp.sw_len]; exact zl.symm) (List.take_of_length_le (by rw [mI_length, Sp.sw_len]; omega))) _
  · have d1 : ¬ (k : Int) < L.length := by omega
    have ek : k = L.length := by omega
    subst ek
    rw [List.take_length]
    simp only [w9L2, w9T3, d1, go_sem, Nat.reduceEqDiff, Nat.reduceAdd, Nat.reduceLT, Nat.reduceLeDiff, reduceIte, reduceCtorEq]
    refine CallK.by (sortRows7 (fun x hx => ?_) (by simp) rfl (by omega)) fun v H' ⟨hv, hH⟩ => ?_
    · obtain ⟨y, hy, rfl⟩ := List.mem_map.1 hx
      rw [Sp.sw_len, f8 y hy]; omega
    subst hv hH
    rw [← hsw]
    simp only [go_sem, Nat.reduceEqDiff, Nat.reduceAdd, Nat.reduceLT, Nat.reduceLeDiff, reduceIte, reduceCtorEq]
    have cl : C.length = L.length := by rw [hsw, (Sp.sortV_perm _).length_eq, List.length_map]
    refine CallK.pure (CallV.of_spec (first := []) (cap := []) (Spec.lend (args' := [.sl false false (mS C), .sl false false (mS C)]) (s48 false false false false C C f9 (by omega)) rfl ⟨⟨mS_bnd, fun h => h, fun h => h, rfl⟩, vle_mS (cs := mS C) rfl (by simp) cl.symm (List.take_of_length_le (by rw [mS_length]; omega)), trivial⟩)) ?_
    have cc : (C == C) = true := beq_self_eq_true C
    simp only [cc, go_sem, Nat.reduceEqDiff, Nat.reduceAdd, Nat.reduceLT, Nat.reduceLeDiff, reduceIte, reduceCtorEq]
    refine CallK.pure (liftV s25 rfl rfl _) ?_
    simp only [go_sem, Nat.reduceEqDiff, Nat.reduceAdd, Nat.reduceLT, Nat.reduceLeDiff, reduceIte, reduceCtorEq]
    exact leaf (B true) rfl ⟨rfl, rfl⟩
theorem wrapU (n : Int) : IntKind.u64.wrap n = n % 18446744073709551616 := by simp [IntKind.wrap, IntKind.bits, IntKind.signed]
theorem pick_mod (x : Int) {n : Nat} (h1 : 1 ≤ n) (h4 : n ≤ 4) : ∃ i : Nat, i < n ∧ IntKind.i64.wrap ((IntKind.u64.wrap x).tmod (IntKind.u64.wrap (n : Int))) = i := by
  have hu : IntKind.u64.wrap (n : Int) = n := by rw [wrapU]; omega
  have hk0 : 0 ≤ IntKind.u64.wrap x := by rw [wrapU]; omega
  have e1 : (IntKind.u64.wrap x).tmod n = IntKind.u64.wrap x % n := Int.tmod_eq_emod_of_nonneg hk0
  have e2 := Int.emod_nonneg (IntKind.u64.wrap x) (show (n : Int) ≠ 0 by omega)
  have e3 := Int.emod_lt_of_pos (IntKind.u64.wrap x) (show (0 : Int) < n by omega)
  refine ⟨(IntKind.u64.wrap x % n).toNat, by omega, ?_⟩
  rw [hu, e1, wrap64 (by omega) (by omega)]; omega
set_option maxRecDepth 20000 in
set_option maxHeartbeats 4000000 in
theorem s9 (a : List (List Int)) (x y : Int) (ha : ∀ l ∈ a, l.length < 9223372036854775808) (hl : a.length < 9223372036854775808) :
    Abs.Spec Try.prog 9 [.sl false false (mS a), I x, I y] [] fun v H' => H' = [] ∧ v = B true := by
  obtain ⟨ha', hl'⟩ := tab6_len ha hl
  refine Abs.Spec.walk mixed fn9 nn9 t9 q9 nt9 (by simp) ?_
  simp only [w9, go_sem, Nat.reduceEqDiff, Nat.reduceAdd, Nat.reduceLT, Nat.reduceLeDiff, reduceIte, reduceCtorEq]
  refine CallK.by (CallV.of_spec (s18 false false a ha hl)) fun v H' ⟨h1, h2⟩ => ?_
  subst h1 h2
  simp only [go_sem, Nat.reduceEqDiff, Nat.reduceAdd, Nat.reduceLT, Nat.reduceLeDiff, reduceIte, reduceCtorEq]
  refine CallK.by (CallV.of_spec (s39d false false _ ha' hl')) fun v H' ⟨h1, hr⟩ => ?_
  subst h1 hr
  rw [basA, Sp.mat_table.1]
  by_cases hm : Sp.mat a = true
  rotate_left
  · rw [if_neg hm]
    simp only [List.getD_cons_zero, List.getD_cons_succ, go_sem, Nat.reduceEqDiff, Nat.reduceAdd, Nat.reduceLT, Nat.reduceLeDiff, reduceIte, reduceCtorEq]
    refine CallK.by (CallV.of_spec s25) fun v H' ⟨h1, h2⟩ => ?_
    subst h1 h2
    simp only [go_sem, Nat.reduceEqDiff, Nat.reduceAdd, Nat.reduceLT, Nat.reduceLeDiff, reduceIte, reduceCtorEq]
    exact leaf (B true) rfl ⟨rfl, rfl⟩
  rw [if_pos hm, Sp.mat_table.2 hm]
  simp only [List.getD_cons_zero, List.getD_cons_succ, go_sem, Nat.reduceEqDiff, Nat.reduceAdd, Nat.reduceLT, Nat.reduceLeDiff, reduceIte, reduceCtorEq]
  refine CallK.by (CallV.of_spec (s40 false false a ha hl)) fun v H' ⟨h1, h2⟩ => ?_
  subst h1 h2
  obtain ⟨-, -, n1, n4⟩ := Sp.mat_cols hm rfl
  have hrow0 : 0 < a.length := (Sp.mat_spec hm).1
  have g0 := mS_getD hrow0
  have c0 : (0 : Int) < a.length := by omega
  have gl : (mI (a.getD 0 [])).length = (a.getD 0 []).length := mI_length
  obtain ⟨i, hi, ei⟩ := pick_mod x n1 n4
  obtain ⟨j, hj, ej⟩ := pick_mod y n1 n4
  have hu : IntKind.u64.wrap ((a.getD 0 []).length : Int) ≠ 0 := by rw [wrapU]; omega
  simp only [hm, g0, c0, ei, ej, go_sem, Nat.reduceEqDiff, Nat.reduceAdd, Nat.reduceLT, Nat.reduceLeDiff, reduceIte, reduceCtorEq]
  refine ⟨Int.le_refl _, hu, hu, ?_⟩
  obtain ⟨h1, h2, h3⟩ := Sp.mat_spec hm
  rcases (show (∃ r, a = [r]) ∨ ∃ r s, a = [r, s] by
    match a, h1, h2 with
    | [r], _, _ => exact .inl ⟨r, rfl⟩
    | [r, s], _, _ => exact .inr ⟨r, s, rfl⟩) with ⟨r, rfl⟩ | ⟨r, s, rfl⟩
  · have hi : i < r.length := hi
    have hj : j < r.length := hj
    have n1 : 1 ≤ r.length := n1
    have n4 : r.length ≤ 4 := n4
    refine CallK.by (CallV.of_spec (s18o1 false false r r.length n1 n4 rfl)) fun v H' ⟨h1, h2⟩ => ?_
    subst h1 h2
    simp only [go_sem, Nat.reduceEqDiff, Nat.reduceAdd, Nat.reduceLT, Nat.reduceLeDiff, reduceIte, reduceCtorEq]
    refine W_loop (fun q : Fin 2 => match q with
      | 0 => ([(0, .sl false false (mS [r])), (1, I i), (2, I j), (7, .sl false false (mS (Sp.basL [r]))), (10, own 0 0 1 1 1), (53, own 0 0 1 1 1), (54, I 1), (55, I 0)], [.cells [.own 1 0 r.length r.length 1], .cells (mI r)])
      | 1 => ([(0, .sl false false (mS [r])), (1, I i), (2, I j), (7, .sl false false (mS (Sp.basL [r]))), (10, own 0 0 1 1 1), (53, own 0 0 1 1 1), (54, I 1), (55, I 1)], [.cells [.own 1 0 r.length r.length 1], .cells (mI (Sp.sw i j r))])
      ) (fun q => 1 - q.val) 0 [some 0, some 1] (Wk.mk0 rfl (by simp [imgs, Blk.alive]) (by simp [hle, csle, vle, vle.vleL, imgs, Blk.alive, mI_bnd]) (by simp [fle, vle, Fr.get, mS_bnd])) ?_
    intro q
    have hq : q = 0 ∨ q = 1 := by omega
    have tn1 : Int.toNat 1 = 1 := rfl
    rcases hq with rfl | rfl
    · have t0 : decide ((0 : Int) < 1) = true := rfl
      have w0 : IntKind.i64.wrap (0 + 1) = 1 := by decide +kernel
      have hi' : i < r.length := by omega
      have hj' : j < r.length := by omega
      have p1 := mI_head hi'
      have p2 := mI_head hj'
      have p3 := mI_put hi' (r.getD j 0)
      have p4 := sw_put hi' hj'
      have p5 : (mI (r.set i (r.getD j 0))).length = r.length := by rw [mI_length, List.length_set]
      simp only [w9L0, t0, w0, tn1, p1, p2, p3, p4, p5, go_sem, Nat.reduceEqDiff, Nat.reduceAdd, Nat.reduceLT, Nat.reduceLeDiff, reduceIte, reduceCtorEq]
      refine ⟨⟨by omega, by decide⟩, by omega, by omega, by omega, by omega, by omega, by omega, by omega, by omega, ?_⟩
      exact round1 rfl ⟨1, by decide⟩ [some 0, some 1] (by decide) (Wk.mk0 rfl (by simp [imgs, Blk.alive]) (by simp [hle, csle, vle, vle.vleL, imgs, Blk.alive, mI_bnd]) (by simp [fle, vle, Fr.get, mS_bnd]))
    · have t0 : decide ((1 : Int) < 1) = false := rfl
      simp only [w9L0, t0, go_sem, Nat.reduceEqDiff, Nat.reduceAdd, Nat.reduceLT, Nat.reduceLeDiff, reduceIte, reduceCtorEq]
      have k1 := (s39d false false [Sp.sw i j r] (by
        intro l hl
        simp only [List.mem_cons, List.not_mem_nil, or_false] at hl
        subst hl; rw [Sp.sw_len]; omega) (by simp)).mono (R' := fun v' H' => v' = basA [Sp.sw i j r] ∧ H' = []) fun v H' h => ⟨h.2, h.1⟩
      have k2 := Spec.give (args := [.own 0 0 1 1 1]) (H := [.cells [sI (Sp.sw i j r)]]) (ρ := []) k1 rfl (Wk.nil ⟨vle_mS (cs := [sI (Sp.sw i j r)]) rfl (by simp) rfl rfl, trivial⟩) (basA_bnd _)
      have k3 := Spec.give (args := [.own 0 0 1 1 1]) (H := [.cells [.own 1 0 r.length r.length 1], .cells (mI (Sp.sw i j r))]) (ρ := [some 0]) (R := fun H' => H' = [.dead]) k2 rfl
        (Wk.mk0 rfl (by simp [imgs, Blk.alive]) ⟨.inr ⟨vle_mI rfl (by simp [imgs, Blk.alive]) (by rw [Sp.sw_len]) (List.take_of_length_le (by rw [mI_length, Sp.sw_len]; omega)), trivial⟩, trivial⟩ (by simp [fle, vle, vle.vleL, Fr.get, entryFr])) (basA_bnd _)
      exact tail9 ha hm (i := i) (j := j) (m := 1) hi hj rfl rfl rfl rfl rfl (CallV.of_spec (first := []) (cap := []) k3)
  · have hi : i < r.length := hi
    have hj : j < r.length := hj
    have n1 : 1 ≤ r.length := n1
    have n4 : r.length ≤ 4 := n4
    have hs : s.length = r.length := (h3 s (by simp)).1
    refine CallK.by (CallV.of_spec (s18o2 false false r s r.length n1 n4 rfl hs)) fun v H' ⟨h1, h2⟩ => ?_
    subst h1 h2
    simp only [go_sem, Nat.reduceEqDiff, Nat.reduceAdd, Nat.reduceLT, Nat.reduceLeDiff, reduceIte, reduceCtorEq]
    refine W_loop (fun q : Fin 3 => match q with
      | 0 => ([(0, .sl false false (mS [r, s])), (1, I i), (2, I j), (7, .sl false false (mS (Sp.basL [r, s]))), (10, own 0 0 2 2 1), (53, own 0 0 2 2 1), (54, I 2), (55, I 0)], [.cells [.own 1 0 r.length r.length 1, .own 2 0 r.length r.length 1], .cells (mI r), .cells (mI s)])
      | 1 => ([(0, .sl false false (mS [r, s])), (1, I i), (2, I j), (7, .sl false false (mS (Sp.basL [r, s]))), (10, own 0 0 2 2 1), (53, own 0 0 2 2 1), (54, I 2), (55, I 1)], [.cells [.own 1 0 r.length r.length 1, .own 2 0 r.length r.length 1], .cells (mI (Sp.sw i j r)), .cells (mI s)])
      | 2 => ([(0, .sl false false (mS [r, s])), (1, I i), (2, I j), (7, .sl false false (mS (Sp.basL [r, s]))), (10, own 0 0 2 2 1), (53, own 0 0 2 2 1), (54, I 2), (55, I 2)], [.cells [.own 1 0 r.length r.length 1, .own 2 0 r.length r.length 1], .cells (mI (Sp.sw i j r)), .cells (mI (Sp.sw i j s))])
      ) (fun q => 2 - q.val) 0 [some 0, some 1, some 2] (Wk.mk0 rfl (by simp [imgs, Blk.alive]) (by simp [hle, csle, vle, vle.vleL, imgs, Blk.alive, mI_bnd]) (by simp [fle, vle, Fr.get, mS_bnd])) ?_
    intro q
    have hq : q = 0 ∨ q = 1 ∨ q = 2 := by omega
    have tn1 : Int.toNat 1 = 1 := rfl
    rcases hq with rfl | rfl | rfl
    · have t0 : decide ((0 : Int) < 2) = true := rfl
      have w0 : IntKind.i64.wrap (0 + 1) = 1 := by decide +kernel
      have hi' : i < r.length := by omega
      have hj' : j < r.length := by omega
      have p1 := mI_head hi'
      have p2 := mI_head hj'
      have p3 := mI_put hi' (r.getD j 0)
      have p4 := sw_put hi' hj'
      have p5 : (mI (r.set i (r.getD j 0))).length = r.length := by rw [mI_length, List.length_set]
      simp only [w9L0, t0, w0, tn1, p1, p2, p3, p4, p5, go_sem, Nat.reduceEqDiff, Nat.reduceAdd, Nat.reduceLT, Nat.reduceLeDiff, reduceIte, reduceCtorEq]
      refine ⟨⟨by omega, by decide⟩, by omega, by omega, by omega, by omega, by omega, by omega, by omega, by omega, ?_⟩
      exact round1 rfl ⟨1, by decide⟩ [some 0, some 1, some 2] (by decide) (Wk.mk0 rfl (by simp [imgs, Blk.alive]) (by simp [hle, csle, vle, vle.vleL, imgs, Blk.alive, mI_bnd]) (by simp [fle, vle, Fr.get, mS_bnd]))
    · have t0 : decide ((1 : Int) < 2) = true := rfl
      have w0 : IntKind.i64.wrap (1 + 1) = 2 := by decide +kernel
      have hi' : i < s.length := by omega
      have hj' : j < s.length := by omega
      have p1 := mI_head hi'
      have p2 := mI_head hj'
      have p3 := mI_put hi' (s.getD j 0)
      have p4 := sw_put hi' hj'
      have p5 : (mI (s.set i (s.getD j 0))).length = r.length := by rw [mI_length, List.length_set]; exact hs
      simp only [w9L0, t0, w0, tn1, p1, p2, p3, p4, p5, go_sem, Nat.reduceEqDiff, Nat.reduceAdd, Nat.reduceLT, Nat.reduceLeDiff, reduceIte, reduceCtorEq]
      refine ⟨⟨by omega, by decide⟩, by omega, by omega, by omega, by omega, by omega, by omega, by omega, by omega, ?_⟩
      exact round1 rfl ⟨2, by decide⟩ [some 0, some 1, some 2] (by decide) (Wk.mk0 rfl (by simp [imgs, Blk.alive]) (by simp [hle, csle, vle, vle.vleL, imgs, Blk.alive, mI_bnd]) (by simp [fle, vle, Fr.get, mS_bnd]))
    · have t0 : decide ((2 : Int) < 2) = false := rfl
      simp only [w9L0, t0, go_sem, Nat.reduceEqDiff, Nat.reduceAdd, Nat.reduceLT, Nat.reduceLeDiff, reduceIte, reduceCtorEq]
      have k1 := (s39d false false [Sp.sw i j r, Sp.sw i j s] (by
        intro l hl
        simp only [List.mem_cons, List.not_mem_nil, or_false] at hl
        rcases hl with rfl | rfl <;> (rw [Sp.sw_len]; omega)) (by simp)).mono (R' := fun v' H' => v' = basA [Sp.sw i j r, Sp.sw i j s] ∧ H' = []) fun v H' h => ⟨h.2, h.1⟩
      have k2 := Spec.give (args := [.own 0 0 2 2 1]) (H := [.cells [sI (Sp.sw i j r), sI (Sp.sw i j s)]]) (ρ := []) k1 rfl (Wk.nil ⟨vle_mS (cs := [sI (Sp.sw i j r), sI (Sp.sw i j s)]) rfl (by simp) rfl rfl, trivial⟩) (basA_bnd _)
      have k3 := Spec.give (args := [.own 0 0 2 2 1]) (H := [.cells [.own 1 0 r.length r.length 1, .own 2 0 r.length r.length 1], .cells (mI (Sp.sw i j r)), .cells (mI (Sp.sw i j s))]) (ρ := [some 0]) (R := fun H' => H' = [.dead]) k2 rfl
        (Wk.mk0 rfl (by simp [imgs, Blk.alive]) ⟨.inr ⟨vle_mI rfl (by simp [imgs, Blk.alive]) (by rw [Sp.sw_len]) (List.take_of_length_le (by rw [mI_length, Sp.sw_len]; omega)), vle_mI rfl (by simp [imgs, Blk.alive]) (by rw [Sp.sw_len]; exact hs.symm) (List.take_of_length_le (by rw [mI_length, Sp.sw_len]; omega)), trivial⟩, trivial⟩ (by simp [fle, vle, vle.vleL, Fr.get, entryFr])) (basA_bnd _)
      exact tail9 ha hm (i := i) (j := j) (m := 2) hi hj rfl rfl rfl rfl rfl (CallV.of_spec (first := []) (cap := []) k3)
end Go.Proofs.Ytipfjfmdjmaflaa
