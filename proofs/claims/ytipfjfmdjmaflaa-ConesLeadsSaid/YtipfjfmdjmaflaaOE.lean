/- Contracts: Way. -/
import Derived.Test.YtipfjfmdjmaflaaOC
import Derived.Test.YtipfjfmdjmaflaaOD
namespace Go.Proofs.Ytipfjfmdjmaflaa
open Go.Abs AVal
set_option linter.unusedSimpArgs false
attribute [local go_sem] W_skip W_keep KQ_canon canon Fr.norm W_seq W_block W_scope W_exit W_ret W_ops W_draw KQ_nil KQ_norm_seq KQ_exit_seq KQ_ret_seq KQ_norm_block KQ_ret_block KQ_exit_block KQ_exit_loop KQ_ret_loop O_nil O_cons S_call S_mv SE_mv SD_mv S_pick SE_pick SD_pick S_bin SE_bin SD_bin S_eqb SE_eqb SD_eqb S_eqv SE_eqv SD_eqv S_eqnil SE_eqnil SD_eqnil S_un SE_un SD_un S_conv SE_conv SD_conv S_mkfn SE_mkfn SD_mkfn S_load SE_load SD_load S_nilck SE_nilck SD_nilck S_slS SE_slS SD_slS S_slP SE_slP SD_slP S_fldA SE_fldA SD_fldA S_fld SE_fld SD_fld S_ixS SE_ixS SD_ixS S_ixP SE_ixP SD_ixP S_ixV SE_ixV SD_ixV S_ixStr SE_ixStr SD_ixStr S_ext SE_ext SD_ext S_len SE_len SD_len S_lenStr SE_lenStr SD_lenStr S_lenc SE_lenc SD_lenc S_mn SE_mn SD_mn S_mx SE_mx SD_mx S_build SE_build SD_build S_alloc SD_alloc S_box SD_box S_bslice SD_bslice S_mksl SD_mksl S_store SD_store S_append SD_append S_copy SD_copy S_clr SD_clr S_mlen SE_mlen SD_mlen S_mget SE_mget SD_mget S_mval SE_mval SD_mval S_mentry SE_mentry SD_mentry S_mkmap SD_mkmap S_mset SD_mset S_mrange SD_mrange S_mnext mlenA mgetA mvalA mentryA msetA mrangeA cells_mp isCell_mp cellsOk_mp aq_some aa_some al_some alA_some aqd_some aad_some ald_some ape_some D_done D_both D_early D_step SE_call SD_call IOpd.ev Fr.get Fr.put Fr.putd entryFr pickA binA binI isSh shI eqbA eqvA ints ints_mI Option.map_some eqnilA unA convA loadA nilckA intA slSA slPA fldAA fldVA ixSA ixPA ixVA ixStrA extA lenA lenStrA mnA mxA AVal.fits fillA fillOk buildA opa srcA appA stoA copA clrA rdFree zeros List.length_nil List.length_cons List.length_map List.map_cons List.map_nil Option.map_some Option.map_none if_true if_false ite_true ite_false true_and and_true and_self implies_true forall_const true_implies Bool.false_eq_true Bool.not_true Bool.not_false decide_eq_true_eq decide_eq_false_iff_not eq_self List.getElem?_cons_zero List.getElem?_cons_succ List.getElem?_nil List.set_cons_zero List.set_cons_succ List.nil_append List.cons_append List.append_nil List.replicate_zero List.replicate_succ Nat.zero_add false_implies rng_lt rng_end rng_get cells_I cells_B cells_sl cut_one Int.toNat_natCast Int.natCast_nonneg List.headD_cons Int.lt_irrefl not_false_eq_true decide_false decide_true mI_length mI_cells mI_sz mI_isCell mI_mid mI_append mI_take mI_drop cells_val cells_own cells_agg isCell_I isCell_B isCell_nil isCell_sl isCell_own isCell_ptr isCell_fn isCell_rp isCell_yld cellsOk_I cellsOk_B cellsOk_nil cellsOk_sl cellsOk_own cellsOk_ptr cellsOk_fn cellsOk_rp cellsOk_yld cellsOk_agg cells_nil cells_ptr cells_fn cells_rp List.all_cons List.all_nil Bool.and_true Nat.mul_one Nat.zero_mul Nat.one_mul List.take_zero List.take_nil List.drop_nil List.drop_zero List.not_mem_nil Nat.le_refl Nat.zero_le mS_length mS_cells mS_sz mS_isCell mS_mid mS_append mS_take mS_drop cells_sI isCell_sI cellsOk_sI sI_eq succ_le_self' List.take_succ_cons List.drop_succ_cons List.take_length beq_self_eq_true List.mem_cons or_false forall_eq mI_put mI_rep O_guard' D_earlyG' D_stepG' W_cond' G_tt G_tf G_ft G_ff GE_tt GE_tf GE_ft GE_ff GS_tt GS_tf GS_ft GS_ff G_u GE_u GS_u IC_t IC_f xft xff xtt xtf z00 z20 z22 z02 zz tn0
theorem leafO2 {t u : Nat} {e : Ex} {fr : Fr} {H : AHeap} {R : AVal → AHeap → Prop} (v : AVal) (H2 : AHeap) (ρ : List (Option Nat)) (hw : Wk 0 [] ρ [(0, .tup [fr.get t, fr.get u])] H [(0, v)] H2) (hR : R v H2) (he : e = .norm ∨ e = .ret := by simp) : retA 0 [.tmp t, .tmp u] R e fr H [] :=
  ⟨he, by simp only [killM, resL, resA]; exact ⟨⟨trivial, trivial, trivial⟩, ρ, v, H2, hw, hR⟩⟩
/-- The answer of Way. -/
def wayR (a : List (List Int)) (x y : List Int) (v : AVal) (H' : AHeap) : Prop :=
  (twoOk a x y = false ∧ v = .tup [.sl false false (mS []), I 2] ∧ H' = []) ∨
  (twoOk a x y = true ∧ Sp.moveB (a.map Sp.pad) (plusV (-1) (Sp.pad y) (Sp.pad x)) = false ∧ v = .tup [.sl false false (mS []), I 4] ∧ H' = []) ∨
  (twoOk a x y = true ∧ Sp.moveB (a.map Sp.pad) (plusV (-1) (Sp.pad y) (Sp.pad x)) = true ∧ ∃ P, WayP a (Sp.pad x) (Sp.pad y) P ∧ v = .tup [.own 0 0 P.length P.length 1, I 0] ∧ H' = [.cells (mS (P.map fun u => u.take (a.getD 0 []).length))])
set_option maxRecDepth 20000 in
set_option maxHeartbeats 4000000 in
theorem s27 (a : List (List Int)) (x y : List Int) (ha : ∀ l ∈ a, l.length < 9223372036854775808) (hl : a.length < 9223372036854775808) (hx : x.length < 9223372036854775808) (hy : y.length < 9223372036854775808) :
    Abs.Spec Try.prog 27 [.sl false false (mS a), .sl false false (mI x), .sl false false (mI y)] [] fun v H' => wayR a x y v H' := by
  refine Abs.Spec.walk mixed fn27 nn27 t27 q27 nt27 (by simp) ?_
  simp only [w27, go_sem, Nat.reduceEqDiff, Nat.reduceAdd, Nat.reduceLT, Nat.reduceLeDiff, reduceIte, reduceCtorEq]
  refine CallK.by (CallV.of_spec (first := []) (cap := []) (s66 a x y ha hl hx hy)) fun v H' ⟨hH, hr⟩ => ?_
  subst hH
  rcases hr with ⟨hok, cs, c1, c2, c3, rfl⟩ | ⟨hok, bs, hB, rfl⟩
  · have z4 : mI [0, 0, 0, 0] = [I 0, I 0, I 0, I 0] := rfl
    simp only [List.getD_cons_zero, List.getD_cons_succ, vec_eq, z4, c2, go_sem, Nat.reduceEqDiff, Nat.reduceAdd, Nat.reduceLT, Nat.reduceLeDiff, reduceIte, reduceCtorEq]
    exact ⟨c1, leaf2 (.tup [.sl false false (mS []), I 2]) ⟨⟨rfl, rfl, rfl⟩, rfl, trivial⟩ (.inl ⟨hok, rfl, rfl⟩)⟩
  · have hok' := hok
    unfold twoOk at hok'
    rw [Bool.and_eq_true] at hok'
    obtain ⟨vx, vy⟩ := hok'
    obtain ⟨hm, xl, Xl, bX, pX, bx, Xp, px⟩ := vecOk_spec (by decide) vx
    obtain ⟨-, yl, Yl, bY, pY, by', Yp, py⟩ := vecOk_spec (by decide) vy
    obtain ⟨r1, r2, n1, n4⟩ := mat_rows hm
    have fst : wayR a x y = wayR a x y := rfl
    obtain ⟨X, hX⟩ : ∃ X, Sp.pad x = X := ⟨_, rfl⟩
    obtain ⟨Y, hY⟩ : ∃ Y, Sp.pad y = Y := ⟨_, rfl⟩
    obtain ⟨n, hn⟩ : ∃ n, (a.getD 0 []).length = n := ⟨_, rfl⟩
    rw [hX] at Xl bX pX Xp
    rw [hY] at Yl bY pY Yp
    rw [hn] at n1 n4
    rw [hX, hY, hn]
    have Xm : (mI X).length = 4 := by rw [mI_length, Xl]
    have Ym : (mI Y).length = 4 := by rw [mI_length, Yl]
    have acX := allI_cell X
    have acY := allI_cell Y
    have gY : cut true 4 (mI Y) = .agg (mI Y) := cut_vec Yl
    have gX : cut true 4 (mI X) = .agg (mI X) := cut_vec Xl
    obtain ⟨D, hD⟩ : ∃ D, plusV (-1) Y X = D := ⟨_, rfl⟩
    have Dl : D.length = 4 := by rw [← hD]; exact plusV_len Yl Xl
    have h68 := s68 Y X (-1) Yl Xl (.inr rfl) (Sp.inB_mono bY (by decide)) (Sp.inB_mono bX (by decide))
    have bD : Sp.inB 12 D := fun z hz => by
      obtain ⟨j, hj, rfl⟩ := List.getElem_of_mem hz
      have e := plusV_get (k := -1) Yl Xl j
      rw [hD, List.getD_eq_getElem?_getD, List.getElem?_eq_getElem hj] at e
      simp only [Option.getD_some] at e
      have h1 := Sp.inB_getD bX j
      have h2 := Sp.inB_getD bY j
      omega
    have h67 := s67 (a.map Sp.pad) n r1 D 12 (by decide) (by decide) Dl bD
    rw [hD] at h68
    obtain ⟨tc, htc⟩ : ∃ tc, AVal.sl false false (mV (a.map Sp.pad)) :: I n :: .sl false false (mV bs) :: mI X = tc := ⟨_, rfl⟩
    have htl : tc.length = 7 := by rw [← htc]; simp [Xm]
    have htA : tc.all AVal.isCell = true := by rw [← htc]; show (true && (true && (true && (mI X).all AVal.isCell))) = true; rw [acX]; rfl
    have gT : cut true 7 tc = taskV (a.map Sp.pad) n bs X := by
      show AVal.agg (List.take 7 _) = _
      rw [List.take_of_length_le (by omega), ← htc]; rfl
    have htb : bndL 0 tc = true := by rw [← htc]; simp [bndL, AVal.bnd, mV_bnd, mI_bnd]
    have gM : cut true 2 tc = matV (a.map Sp.pad) n := by rw [← htc]; rfl
    have hd3 : List.drop 3 tc = mI X := by rw [← htc]; rfl
    simp only [List.getD_cons_zero, List.getD_cons_succ, taskV_eq, vec_eq, htc, htl, Ym, Yl, gY, gM, hd3, gX, Xl, Xm, List.set_cons_succ, List.set_cons_zero, go_sem, Nat.reduceEqDiff, Nat.reduceAdd, Nat.reduceLT, Nat.reduceLeDiff, reduceIte, reduceCtorEq]
    have Yne : mI Y ≠ [] := fun e => by rw [e] at Ym; cases Ym
    have h68' := h68
    rw [vec_eq, vec_eq] at h68'
    refine ⟨htA, acY, by decide, CallKD.pure (fun H => liftV h68' (by simp [bndL, AVal.bnd, mI_bnd]) (by simp [AVal.bnd, vec, mI_bnd]) H) ?_⟩
    simp only [List.getElem?_cons_succ, List.getElem?_cons_zero, go_sem, Nat.reduceEqDiff, Nat.reduceAdd, Nat.reduceLT, Nat.reduceLeDiff, reduceIte, reduceCtorEq]
    refine CallKD.pure (fun H => liftV h67 (by simp [bndL, AVal.bnd, matV, vec, mV_bnd, mI_bnd]) rfl H) ?_
    cases hmv : Sp.moveB (a.map Sp.pad) D with
    | false =>
      simp only [go_sem, Nat.reduceEqDiff, Nat.reduceAdd, Nat.reduceLT, Nat.reduceLeDiff, reduceIte, reduceCtorEq]
      refine leaf2 (.tup [.sl false false (mS []), I 4]) ⟨⟨rfl, rfl, rfl⟩, rfl, trivial⟩ (.inr (.inl ⟨hok, ?_, rfl, rfl⟩))
      rw [hX, hY, hD, hmv]
    | true =>
      simp only [go_sem, Nat.reduceEqDiff, Nat.reduceAdd, Nat.reduceLT, Nat.reduceLeDiff, reduceIte, reduceCtorEq]
      rw [w27T0]
      refine W_view [some 0] [(8, .ptr 0 0), (9, .rp (mI Y))] [.cells tc] (Wk.mk0 rfl (by simp [imgs, Blk.alive]) (by simp only [hle, csle]; exact ⟨.inl ⟨rfl, htb⟩, trivial⟩) (by simp [fle, vle, Fr.get, imgs, Blk.alive, mI_bnd, Yne])) ?_
      simp only [htl, gT, go_sem, Nat.reduceEqDiff, Nat.reduceAdd, Nat.reduceLT, Nat.reduceLeDiff, reduceIte, reduceCtorEq]
      have hFam : Sp.Fam (a.map Sp.pad) (a.getD 0 []).length X Y := ⟨Yl, by rw [hn]; intro j hj; exact Yp j (by rw [hn]; exact hj), pY, by rw [hD]; exact hmv⟩
      obtain ⟨L, hL, hop⟩ := fam_hop hm Xl (fun j hj => Xp j hj) pX bX bY hFam
      have hB' := hB
      have eN := nearR_Nr hm hB'
      rw [← eN] at hop
      have hB4 : ∀ m ∈ bs, m.length = 4 := fun m hm' => ((Sp.mem_bs hm hB').1 hm').mv.len
      obtain ⟨q1, q2, -, -⟩ := Sp.mat_cols hm rfl
      have hB16 : ∀ m ∈ bs, Sp.inB 16 m := fun m hm' => Sp.inB_mono (((Sp.mem_bs hm hB').1 hm').bnd q1 q2 (by omega)) (by unfold Sp.bnd; split <;> (try split) <;> (try split) <;> omega)
      have hBl := hB.len (by omega)
      have h69 := s69 (a.map Sp.pad) n bs X (.fn (.func 70) [] [.rp (mI Y)]) (fun u => u == Y) Xl hB4 (by omega) hB16 (fun N => by simp [vid, mI_bnd]) (fun u H hu => CallV.of_spec (first := []) (cap := [.rp (mI Y)]) (Spec.lift (s70 u Y hu Yl) (by simp [bndL, AVal.bnd, mI_bnd]) rfl H)) fun es i h => by
        obtain ⟨h1, h2⟩ := deep_bnd Xl pX bX hB4 hB16 h hop hL
        exact ⟨by omega, h2⟩
      refine CallK.by (CallV.of_spec (first := []) (cap := []) (Spec.lendM (C := fun es' => ∃ es i, Sr bs X (fun u => u == Y) es i ∧ (i = es.length ∨ ∃ f d, es[i]? = some (Y, f, d)) ∧ es' = es.map entA) (args' := [taskV (a.map Sp.pad) n bs X, .fn (.func 70) [] [.rp (mI Y)]]) (h69.mono fun v H' ⟨es, i, hS, he, hv, hH⟩ => ⟨_, ⟨es, i, hS, he.imp id (fun ⟨Z, f, d, h1, h2⟩ => ⟨f, d, by rw [h1, eq_of_beq h2]⟩), rfl⟩, hv, hH⟩) (fun es' ⟨es, i, _, _, h⟩ p hp => ?_) ⟨?_, ?_, trivial⟩)) fun v H' ⟨es', ⟨es, i, hS, hi, he'⟩, hv, hH⟩ => ?_
      · subst h
        obtain ⟨e, _, rfl⟩ := List.mem_map.1 hp
        have fl : ∀ y : List Int, (vec y).flat = true := fun y => by simp [vec, AVal.flat, mI]
        exact ⟨fl _, fl _⟩
      · exact .inl ⟨rfl, by simp [bndL, AVal.bnd, mV_bnd, mI_bnd]⟩
      · simp [vle, vle.vleL, mI_bnd]
      subst he' hv hH
      have hlen := hS.len Xl hB4
      obtain ⟨f0, d0, hin, hmin⟩ := hS.found hop hi
      simp only [gY, vec_eq, Ym, Yl, go_sem, Nat.reduceEqDiff, Nat.reduceAdd, Nat.reduceLT, Nat.reduceLeDiff, reduceIte, reduceCtorEq]
      refine ⟨acY, W_loop (fun q : { q : List Int × Nat × List (List Int) // (∃ f, (q.1, f, q.2.1) ∈ es) ∧ Chn (nearR bs) (q.1 :: q.2.2) ∧ (q.1 :: q.2.2).getLast? = some Y ∧ q.2.2.length + q.2.1 = d0 } =>
        ([(8, .ptr 0 0), (11, .mp 1), (12, .own 2 0 q.1.2.2.length q.1.2.2.length 1), (13, .ptr 3 0)], [.cells tc, .map (es.map entA), .cells (mS (q.1.2.2.reverse.map fun u => u.take n)), .cells (mI q.1.1)])) (fun q => q.1.2.1)
        ⟨(Y, d0, []), ⟨f0, hin⟩, trivial, rfl, by simp⟩ [some 0, some 1, none, some 2] (Wk.mk0 rfl (by simp [imgs, Blk.alive]) (by simp only [hle, csle]; simp [htb, entA, vec, AVal.bnd, mI_bnd, mS, Ym, Yl, List.take_of_length_le]) (by simp [fle, vle, Fr.get, imgs, Blk.alive])) ?_⟩
      rintro ⟨⟨v, d, R⟩, ⟨f, hv⟩, hc, hlast, hd⟩
      dsimp only at hv hc hlast hd ⊢
      have vl : v.length = 4 := (hlen _ hv).1
      have vm : (mI v).length = 4 := by rw [mI_length, vl]
      have acv := allI_cell v
      have gv : cut true 4 (mI v) = .agg (mI v) := cut_vec vl
      have h71 := s71 (a.map Sp.pad) n n1 n4 v vl
      rw [vec_eq] at h71
      simp only [w27L1, w27T2, gM, gv, vm, htl, go_sem, Nat.reduceEqDiff, Nat.reduceAdd, Nat.reduceLT, Nat.reduceLeDiff, reduceIte, reduceCtorEq]
      have es1 : mS (List.take R.length (R.reverse.map fun u => u.take n)) ++ [.sl false false (mI (v.take n))] = mS ((v :: R).reverse.map fun u => u.take n) := by
        rw [List.take_of_length_le (by simp), mS_one, mS_append]; simp
      have hRl : R.length ≤ 1000 := by
        have := hmin L hop
        omega
      refine CallK.pure (liftV h71 (by simp [bndL, AVal.bnd, mV_bnd, mI_bnd, matV]) (by simp [AVal.bnd, mI_bnd]) _) ?_
      simp only [es1, gv, vm, hd3, gX, Xm, htl, ints_mI, vl, Xl, go_sem, Nat.reduceEqDiff, Nat.reduceAdd, Nat.reduceLT, Nat.reduceLeDiff, reduceIte, reduceCtorEq]
      refine ⟨⟨by simp, by omega⟩, IC.split (fun h => ?_) fun h => ?_⟩
      · have hvX : v = X := by simpa using h
        subst hvX
        obtain ⟨W, hW⟩ : ∃ W, (v :: R).reverse.map (fun u => u.take n) = W := ⟨_, rfl⟩
        have hWl : W.length = R.length + 1 := by rw [← hW]; simp
        have h31 := s31 W (by omega) (by omega)
        simp only [go_sem, Nat.reduceEqDiff, Nat.reduceAdd, Nat.reduceLT, Nat.reduceLeDiff, reduceIte, reduceCtorEq]
        rw [w27T3]
        rw [hW, ← hWl]
        refine W_view [some 5] [(12, .own 0 0 W.length W.length 1)] [.cells (mS W)] (Wk.mk0 rfl (by simp [imgs, Blk.alive]) (by simp only [hle, csle]; exact ⟨.inl ⟨rfl, mS_bnd⟩, trivial⟩) (by simp [fle, vle, Fr.get, imgs, Blk.alive])) ?_
        simp only [go_sem, Nat.reduceEqDiff, Nat.reduceAdd, Nat.reduceLT, Nat.reduceLeDiff, reduceIte, reduceCtorEq]
        refine CallK.by (CallV.of_spec (first := []) (cap := []) h31) fun v' H' ⟨hv', hH'⟩ => ?_
        subst hv' hH'
        simp only [go_sem, Nat.reduceEqDiff, Nat.reduceAdd, Nat.reduceLT, Nat.reduceLeDiff, reduceIte, reduceCtorEq]
        have hWr : W.reverse = (v :: R).map fun u => u.take n := by rw [← hW, List.map_reverse, List.reverse_reverse]
        have ePl : (v :: R).length = W.length := by rw [hWl]; rfl
        refine leafO2 (.tup [.own 0 0 (v :: R).length (v :: R).length 1, I 0]) [.cells (mS ((v :: R).map fun u => u.take n))] [some 0] (Wk.mk0 rfl (by simp [imgs, Blk.alive]) (by simp only [hle, csle]; exact ⟨.inl ⟨by rw [hWr], mS_bnd⟩, trivial⟩) (by rw [ePl]; simp [fle, vle, vle.vleL, Fr.get, imgs, Blk.alive])) (.inr (.inr ⟨hok, ?_, v :: R, ?_, rfl, by rw [hn]⟩))
        · rw [hX, hY, hD, hmv]
        · rw [hX, hY]
          refine ⟨rfl, hlast, by rw [← eN]; exact hc, ?_, fun L' hL' => ?_⟩
          · have := hmin L hop
            simp only [List.length_cons]; omega
          · rw [← eN] at hL'
            have := hmin L' hL'
            simp only [List.length_cons]; omega
      · have hvX : v ≠ X := by simpa using h
        obtain ⟨j, e, he, hev, hj⟩ := mfind_yes (y := v) (i := 0) (fun e he => (hlen e he).1) (hasK_iff.2 (List.mem_map.2 ⟨_, hv, rfl⟩))
        obtain rfl := key_uniq hS.nd he hv hev
        have hj : mfind 4 v (es.map entA) 0 = some (some (j, vec f)) := hj
        have fl := (hlen _ hv).2
        have fl : f.length = 4 := fl
        have fm : (mI f).length = 4 := by rw [mI_length, fl]
        have acf := allI_cell f
        have kv : keyI 4 (.agg (mI v)) = some v := keyI_vec vl
        have gf : cut true 4 (mI f) = .agg (mI f) := cut_vec fl
        have hfrom := hS.from _ hv
        have hfrom : ∃ f' d', (f, f', d') ∈ es ∧ d = d' + 1 ∧ v ∈ nearL f bs := hfrom.resolve_left fun h => hvX h.1
        obtain ⟨f', d', hf', rfl, hnear⟩ := hfrom
        simp only [w27T2, gv, vm, vl, hj, kv, vec_eq, gf, fm, fl, List.set_cons_succ, List.set_cons_zero, go_sem, Nat.reduceEqDiff, Nat.reduceAdd, Nat.reduceLT, Nat.reduceLeDiff, reduceIte, reduceCtorEq]
        rw [List.drop_of_length_le (by omega), List.append_nil]
        refine ⟨acv, acf, round1 rfl ⟨(f, d', v :: R), ⟨f', hf'⟩, ⟨hnear, hc⟩, ?_, ?_⟩ [some 0, some 1, some 5, some 6] (by dsimp only; omega) (Wk.mk0 rfl (by simp [imgs, Blk.alive]) (by simp only [hle, csle]; simp [htb, entA, vec, AVal.bnd, mI_bnd, mS_bnd, imgs, Blk.alive]) (by simp [fle, vle, Fr.get, imgs, Blk.alive]))⟩
        · show (f :: v :: R).getLast? = some Y
          rw [List.getLast?_cons_cons]; exact hlast
        · show (v :: R).length + d' = d0
          simp only [List.length_cons]; omega
end Go.Proofs.Ytipfjfmdjmaflaa
