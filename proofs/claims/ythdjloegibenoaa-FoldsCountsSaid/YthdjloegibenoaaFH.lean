/- Contracts of folds: the list of all that can be folded, and the statement FoldsLists. -/
import Derived.Test.YthdjloegibenoaaFG
namespace Go.Proofs.Ythdjloegibenoaa
open Go.Abs AVal
set_option linter.unusedSimpArgs false
attribute [local go_sem] W_skip W_keep KQ_canon canon Fr.norm W_seq W_block W_exit W_ret W_ops W_draw KQ_nil KQ_norm_seq KQ_exit_seq KQ_ret_seq KQ_norm_block KQ_ret_block KQ_exit_block KQ_exit_loop KQ_ret_loop O_nil O_cons S_call S_mv SE_mv SD_mv S_pick SE_pick SD_pick S_bin SE_bin SD_bin S_eqb SE_eqb SD_eqb S_eqv SE_eqv SD_eqv S_eqnil SE_eqnil SD_eqnil S_un SE_un SD_un S_conv SE_conv SD_conv S_mkfn SE_mkfn SD_mkfn S_load SE_load SD_load S_nilck SE_nilck SD_nilck S_slS SE_slS SD_slS S_slP SE_slP SD_slP S_fldA SE_fldA SD_fldA S_fld SE_fld SD_fld S_ixS SE_ixS SD_ixS S_ixP SE_ixP SD_ixP S_ixV SE_ixV SD_ixV S_ixStr SE_ixStr SD_ixStr S_ext SE_ext SD_ext S_len SE_len SD_len S_lenStr SE_lenStr SD_lenStr S_lenc SE_lenc SD_lenc S_mn SE_mn SD_mn S_mx SE_mx SD_mx S_build SE_build SD_build S_alloc SD_alloc S_box SD_box S_bslice SD_bslice S_mksl SD_mksl S_store SD_store S_append SD_append S_copy SD_copy S_clr SD_clr aq_some aa_some al_some aqd_some aad_some ald_some ape_some D_done D_both D_early D_step SE_call SD_call IOpd.ev Fr.get Fr.put Fr.putd entryFr pickA binA binI isSh shI eqbA eqvA ints ints_mI Option.map_some eqnilA unA convA loadA nilckA intA slSA slPA fldAA fldVA ixSA ixPA ixVA ixStrA extA lenA lenStrA mnA mxA AVal.fits fillA fillOk buildA opa srcA appA stoA copA clrA rdFree zeros List.length_nil List.length_cons List.length_map List.map_cons List.map_nil Option.map_some Option.map_none if_true if_false ite_true ite_false true_and and_true and_self implies_true forall_const true_implies Bool.false_eq_true Bool.not_true Bool.not_false decide_eq_true_eq decide_eq_false_iff_not eq_self List.getElem?_cons_zero List.getElem?_cons_succ List.getElem?_nil List.set_cons_zero List.set_cons_succ List.nil_append List.cons_append List.append_nil List.replicate_zero List.replicate_succ Nat.zero_add false_implies rng_lt rng_end rng_get cells_I cells_B cells_sl cut_one Int.toNat_natCast Int.natCast_nonneg List.headD_cons Int.lt_irrefl not_false_eq_true decide_false decide_true mI_length mI_cells mI_sz mI_isCell mI_mid mI_append mI_take mI_drop cells_val cells_own cells_agg isCell_I isCell_B isCell_nil isCell_sl isCell_own isCell_ptr isCell_fn isCell_rp isCell_yld cellsOk_I cellsOk_B cellsOk_nil cellsOk_sl cellsOk_own cellsOk_ptr cellsOk_fn cellsOk_rp cellsOk_yld cellsOk_agg cells_nil cells_ptr cells_fn cells_rp List.all_cons List.all_nil Bool.and_true Nat.mul_one Nat.zero_mul Nat.one_mul List.take_zero List.take_nil List.drop_nil List.drop_zero List.not_mem_nil Nat.le_refl Nat.zero_le mS_length mS_cells mS_sz mS_isCell mS_mid mS_append mS_take mS_drop cells_sI isCell_sI cellsOk_sI sI_eq succ_le_self' List.take_succ_cons List.drop_succ_cons List.take_length beq_self_eq_true List.mem_cons or_false forall_eq mI_put mI_rep O_guard' D_earlyG' D_stepG' W_cond' G_tt G_tf G_ft G_ff GE_tt GE_tf GE_ft GE_ff GS_tt GS_tf GS_ft GS_ff G_u GE_u GS_u IC_t IC_f xft xff xtt xtf z00 z20 z22 z02 zz tn0

section
variable {n : Nat} {fr : Fr}
/-- What is gathered, and where it lies. -/
structure G28 where
  L : List (List Int)
  j : Option (Nat × Nat)
def G28.out (q : G28) (H : AHeap) : Prop := match q.j with
  | none => H[0]? = some (.cells [nilSl]) ∧ q.L = []
  | some (j, lb) => H[0]? = some (.cells [.own j 0 q.L.length lb 1]) ∧ (∃ cs, H[j]? = some (.cells cs) ∧ cs.length = lb ∧ cs.take q.L.length = mS q.L) ∧ q.L.length ≤ lb ∧ j ≠ 0 ∧ j ≠ 2
/-- The rounds of gathering: whose they are. -/
noncomputable def cl28 (fr : Fr) : Cl where
  Γ := G28
  σ := List (List Int)
  val q := q.L
  live _ := True
  ok q H := q.out H ∧ H[2]? = some (.loop .ready none fr 22 #[15] (asOf Try.f28 0) (bdOf Try.f28 0))
  mine q j := j = 0 ∨ j = 2 ∨ ∃ lb, q.j = some (j, lb)
  go _ _ := true
  upd L D := L ++ [D]
  frame := fun q H H' h hk => by
    have e0 := hk 0 (.inl rfl)
    refine ⟨?_, by rw [hk 2 (.inr (.inl rfl))]; exact h.2⟩
    have h1 := h.1
    unfold G28.out at h1 ⊢
    cases hj : q.j with
    | none => rw [hj] at h1; dsimp only at h1 ⊢; rw [e0]; exact h1
    | some p =>
      obtain ⟨j, lb⟩ := p
      rw [hj] at h1
      dsimp only at h1 ⊢
      rw [e0, hk j (.inr (.inr ⟨lb, hj⟩))]
      exact h1
  lt := fun q H j h hm => by
    have lt : ∀ {H : AHeap} {j b}, H[j]? = some b → j < H.length := fun hj => (List.getElem?_eq_some_iff.1 hj).1
    have h1 := h.1
    unfold G28.out at h1
    rcases hm with rfl | rfl | ⟨lb, hm⟩
    · cases hj : q.j with
      | none => rw [hj] at h1; exact lt h1.1
      | some p => rw [hj] at h1; exact lt h1.1
    · exact lt h.2
    · rw [hm] at h1
      obtain ⟨cs, hcs, _⟩ := h1.2.1
      exact lt hcs

/-- One more is gathered. -/
theorem gather {q : G28} {Hb : AHeap} (hq : q.out Hb) (D : List Int) (hlen : q.L.length ≤ 16777216) (h2 : 2 < Hb.length) :
    ∃ (ov : AVal) (pr : Prop) (v' : AVal) (H2 : AHeap) (q' : G28) (H3 : AHeap), Hb[0]? = some (.cells [ov]) ∧ appB 1 24 ov (.own Hb.length 0 1 1 1) (Hb ++ [.cells [.sl false false (mI D)], .hole]) (Hb.length + 1) (fun H b => H.set (Hb.length + 1) b) = some (pr, v', H2) ∧ pr ∧ v'.cellsOk = true ∧ v'.cells = [v'] ∧ H2[0]? = some (.cells [ov]) ∧
      H3.length = Hb.length + 2 ∧ H2.length = Hb.length + 2 ∧ (∀ (i : Nat) (b : Blk), H3[i]? = some b → b = .dead ∨ (H2.set 0 (.cells [v']))[i]? = some b) ∧ q'.L = q.L ++ [D] ∧ q'.out H3 ∧ (∀ j, j < Hb.length → j ≠ 0 → (∀ lb, q.j ≠ some (j, lb)) → H3[j]? = Hb[j]?) ∧
      (∀ LP, HOk LP Hb → HOk LP H3) ∧ (∀ j lb, q'.j = some (j, lb) → q.j = some (j, lb) ∨ Hb.length ≤ j) := by
  have lt : ∀ {H : AHeap} {j b}, H[j]? = some b → j < H.length := fun hj => (List.getElem?_eq_some_iff.1 hj).1
  obtain ⟨c, hc⟩ : ∃ c : Blk, Blk.cells [.sl false false (mI D)] = c := ⟨_, rfl⟩
  have hcok : ∀ LP N i, blkN LP N i c := fun LP N i => by rw [← hc]; simp [blkN, bndL, AVal.bnd, mI_bnd]
  have src : srcA 1 (.own Hb.length 0 1 1 1) (Hb ++ [c, .hole]) = some (1, [.sl false false (mI D)], (0 + 1 * 1 ≤ [AVal.sl false false (mI D)].length ∧ ∀ u ∈ [AVal.sl false false (mI D)], u.isCell = true)) := by
    rw [← hc]; simp [srcA]
  have pr0 : 0 + 1 * 1 ≤ [AVal.sl false false (mI D)].length ∧ ∀ u ∈ [AVal.sl false false (mI D)], u.isCell = true := ⟨by simp, by simp; rfl⟩
  have okc : ∀ LP, HOk LP Hb → ∀ b, blkN LP (Hb.length + 2) (Hb.length + 1) b → HOk LP (Hb ++ [c, b]) := fun LP h0 b hb => by
    have k1 := h0.push (b := c) (hcok _ _ _)
    have k2 := k1.push (b := b) (by rw [List.length_append]; exact hb)
    rwa [List.append_assoc] at k2
  have hsetl : (Hb ++ [c, .hole]).length = Hb.length + 2 := by simp
  rw [hc]
  unfold appB appA
  rw [src]
  dsimp only
  unfold G28.out at hq
  cases hj : q.j with
  | none =>
    rw [hj] at hq
    obtain ⟨h0, hL⟩ := hq
    have e : (Hb ++ [c, .hole]).set (Hb.length + 1) (.cells [.sl false false (mI D)]) = Hb ++ [c, .cells [.sl false false (mI D)]] := by rw [app_set]; rfl
    refine ⟨nilSl, _, _, _, ⟨[D], some (Hb.length + 1, 1)⟩, (Hb ++ [c, .cells [.sl false false (mI D)]]).set 0 (.cells [.own (Hb.length + 1) 0 1 1 1]), h0, rfl, ⟨pr0, by omega⟩, rfl, rfl, ?_, by simp, by simp, fun i b hi => .inr ?_, by rw [hL]; rfl, ⟨?_, ⟨[.sl false false (mI D)], ?_, rfl, rfl⟩, by simp, by simp, by simp; omega⟩, fun j hj1 hj0 _ => ?_, fun LP h9 => ?_, ?_⟩
    · rw [e, List.getElem?_append_left (by omega)]; exact h0
    · rw [e]; exact hi
    · rw [List.getElem?_set_self (by simp)]; rfl
    · rw [List.getElem?_set_ne (by omega), app_get]; rfl
    · rw [List.getElem?_set_ne (by omega), List.getElem?_append_left hj1]
    · exact (okc LP h9 (.cells [.sl false false (mI D)]) (by simp [blkN, bndL, AVal.bnd, mI_bnd])).set (b := .cells [.own (Hb.length + 1) 0 1 1 1]) (by simp [blkN, vid])
    · intro j lb hjj
      simp at hjj
      right; omega
  | some p =>
    obtain ⟨j, lb⟩ := p
    rw [hj] at hq
    obtain ⟨h0, ⟨cs, hcs, hcl, htk⟩, hle, hj0, hj2⟩ := hq
    have hjl := lt hcs
    have hcs1 : (Hb ++ [c, .hole])[j]? = some (.cells cs) := by rw [List.getElem?_append_left hjl]; exact hcs
    have e1 : 0 + q.L.length * 1 = q.L.length := by omega
    have e2 : 0 + q.L.length * 1 + 1 * 1 = q.L.length + 1 := by omega
    have e3 : q.L.length * 1 = q.L.length := by omega
    have hcells : cs.take q.L.length ++ [AVal.sl false false (mI D)] = mS (q.L ++ [D]) := by rw [htk, mS_one, mS_append]
    refine ⟨.own j 0 q.L.length lb 1, ?_⟩
    dsimp only
    rw [if_pos rfl, hcs1]
    dsimp only
    by_cases hlt : q.L.length + 1 ≤ lb
    · rw [if_pos hlt, e2, e1, hcells]
      refine ⟨_, _, _, ⟨q.L ++ [D], some (j, lb)⟩, (((Hb ++ [c, .dead]).set j (.cells (mS (q.L ++ [D]) ++ cs.drop (q.L.length + 1)))).set 0 (.cells [.own j 0 (q.L.length + 1) lb 1])), h0, rfl, ⟨pr0, by omega⟩, rfl, rfl, ?_, by simp, by simp, fun i b hi => ?_, rfl, ⟨?_, ⟨mS (q.L ++ [D]) ++ cs.drop (q.L.length + 1), ?_, ?_, ?_⟩, by simp; omega, hj0, hj2⟩, fun i hi1 hi0 hi2 => ?_, fun LP h9 => ?_, ?_⟩
      · rw [List.getElem?_set_ne hj0, List.getElem?_append_left (by omega)]; exact h0
      · by_cases hi9 : i = Hb.length + 1
        · subst hi9
          rw [List.getElem?_set_ne (by omega), List.getElem?_set_ne (by omega), app_get] at hi
          left; simpa using hi.symm
        · right
          rw [← hi]
          have hap : (Hb ++ [c, Blk.hole])[i]? = (Hb ++ [c, Blk.dead])[i]? := by
            rw [List.getElem?_append, List.getElem?_append]
            split
            · rfl
            · by_cases h7 : i - Hb.length = 0
              · rw [h7]; rfl
              · have : 2 ≤ i - Hb.length := by omega
                rw [List.getElem?_eq_none (by simpa using this), List.getElem?_eq_none (by simpa using this)]
          rw [List.getElem?_set, List.getElem?_set, List.getElem?_set, List.getElem?_set, hap]
          simp
      · rw [List.getElem?_set_self (by simp)]; simp
      · rw [List.getElem?_set_ne (Ne.symm hj0), List.getElem?_set_self (by simp; omega)]
      · rw [List.length_append, mS_length]; simp; omega
      · rw [List.take_append_of_le_length (by rw [mS_length]; exact Nat.le_refl _), List.take_of_length_le (by rw [mS_length]; exact Nat.le_refl _)]
      · rw [List.getElem?_set_ne (Ne.symm hi0), List.getElem?_set_ne (fun h => hi2 lb (by rw [h])), List.getElem?_append_left hi1]
      · refine ((okc LP h9 .dead trivial).set (i := j) (b := .cells (mS (q.L ++ [D]) ++ cs.drop (q.L.length + 1))) ?_).set (b := .cells [.own j 0 (q.L.length + 1) lb 1]) (by simp [blkN, vid]; omega)
        have hb := h9.cells hcs
        show (bndL 0 _ || List.all _ _) = true
        rw [Bool.or_eq_true] at hb ⊢
        rcases hb with hb | hb
        · left
          rw [bndL_append, mS_bnd, Bool.true_and]
          exact bndL_of fun u hu => bndL_mem hb u (List.mem_of_mem_drop hu)
        · right
          rw [List.all_append, Bool.and_eq_true]
          exact ⟨List.all_eq_true.2 fun u hu => by obtain ⟨z, _, rfl⟩ := List.mem_map.1 hu; exact mI_bnd, List.all_eq_true.2 fun u hu => vid_mono (by simp) 2 u (List.all_eq_true.1 hb u (List.mem_of_mem_drop hu))⟩
      · intro i lb' hii
        simp at hii
        left; rw [hii.1, hii.2]
    · rw [if_neg hlt, e3, hcells]
      refine ⟨_, _, _, ⟨q.L ++ [D], some (Hb.length + 1, q.L.length + 1)⟩, (((Hb ++ [c, .cells (mS (q.L ++ [D]))]).set j .dead).set 0 (.cells [.own (Hb.length + 1) 0 (q.L.length + 1) (q.L.length + 1) 1])), h0, rfl, ⟨pr0, rfl, by omega, by rw [htk, mS_isCell]; trivial, by omega⟩, rfl, rfl, ?_, by simp, by simp, fun i b hi => .inr ?_, rfl, ⟨?_, ⟨mS (q.L ++ [D]), ?_, ?_, ?_⟩, by simp, by omega, by omega⟩, fun i hi1 hi0 hi2 => ?_, fun LP h9 => ?_, ?_⟩
      · rw [List.getElem?_set_ne (by omega), List.getElem?_set_ne hj0, List.getElem?_append_left (by omega)]; exact h0
      · rw [← hi]
        congr 2
        rw [List.set_comm _ _ (by omega), app_set]; rfl
      · rw [List.getElem?_set_self (by simp)]; simp
      · rw [List.getElem?_set_ne (by omega), List.getElem?_set_ne (by omega), app_get]; rfl
      · rw [mS_length]; simp
      · exact List.take_of_length_le (by rw [mS_length]; exact Nat.le_refl _)
      · rw [List.getElem?_set_ne (Ne.symm hi0), List.getElem?_set_ne (fun h => hi2 lb (by rw [h])), List.getElem?_append_left hi1]
      · exact ((okc LP h9 (.cells (mS (q.L ++ [D]))) (by simp [blkN, mS_bnd])).set (b := .dead) trivial).set (b := .cells [.own (Hb.length + 1) 0 (q.L.length + 1) (q.L.length + 1) 1]) (by simp [blkN, vid])
      · intro i lb' hii
        simp at hii
        right; omega

set_option maxHeartbeats 1000000 in
theorem y28 (h1 : 1 ≤ n) (hn : n ≤ 7) (f4 : fr.get 4 = ptr 0 0) : YOk Try.prog (cl28 fr) 2 n (fun (L : List (List Int)) D => domN n D ∧ L.length ≤ 16777216) := by
  rintro q H k lb cs D ⟨hout, hL⟩ _ hok hmk hk htk hDn hle hdom
  have lt : ∀ {H : AHeap} {j b}, H[j]? = some b → j < H.length := fun hj => (List.getElem?_eq_some_iff.1 hj).1
  have hmk' : k ≠ 0 ∧ k ≠ 2 := ⟨fun h => hmk (.inl h), fun h => hmk (.inr (.inl h))⟩
  obtain ⟨hdom, hbound⟩ := hdom
  refine CallV.yldW mixed (L := 2) (fr := fr) (n := 22) (ps := [15]) hL t28R0a t28R0b rfl (by simp) ?_
  simp only [w28R0a, putArgs, go_sem, Nat.reduceEqDiff, Nat.reduceAdd, Nat.reduceLT, Nat.reduceLeDiff, reduceIte, reduceCtorEq]
  refine ⟨hL, ?_⟩
  have hLl := lt hL
  have hlp : ∀ LP, HOk LP H → LP 2 fr := fun LP h0 => h0 2 _ hL
  obtain ⟨Hb, hHb⟩ : ∃ Hb, H.set 2 (.loop .busy none fr 22 #[15] (asOf Try.f28 0) (bdOf Try.f28 0)) = Hb := ⟨_, rfl⟩
  have hbl : Hb.length = H.length := by rw [← hHb, List.length_set]
  have hb2 : Hb[2]? = some (.loop .busy none fr 22 #[15] (asOf Try.f28 0) (bdOf Try.f28 0)) := by rw [← hHb, List.getElem?_set_self hLl]
  have hbe : ∀ j, j ≠ 2 → Hb[j]? = H[j]? := fun j hj => by rw [← hHb, List.getElem?_set_ne (Ne.symm hj)]
  have hbk : Hb[k]? = some (.cells cs) := by rw [hbe k hmk'.2]; exact hk
  have hbout : G28.out q Hb := by
    have h9 := hout
    unfold G28.out at h9 ⊢
    cases hj : q.j with
    | none => rw [hj] at h9; dsimp only at h9 ⊢; rw [hbe 0 (by omega)]; exact h9
    | some p =>
      obtain ⟨j, lb⟩ := p
      rw [hj] at h9
      dsimp only at h9 ⊢
      rw [hbe 0 (by omega), hbe j h9.2.2.2.2]; exact h9
  have okb : ∀ LP, HOk LP H → HOk LP Hb := fun LP h0 => by rw [← hHb]; exact h0.set (b := .loop .busy none fr 22 #[15] _ _) (hlp LP h0)
  rw [hHb]
  obtain ⟨ov, pr, v', H2, q', H3, g0, gA, gpr, gco, gcl, g20, g3l, g2l, gd, gL, gout, gkeep, gok, gown⟩ := gather hbout D hbound (by omega)
  have hlt0 : 0 < Hb.length := by omega
  have e0 : ∀ l : AHeap, (Hb ++ l)[0]? = some (.cells [ov]) := fun l => by rw [List.getElem?_append_left hlt0]; exact g0
  have eset : (Hb ++ [Blk.hole, Blk.hole]).set Hb.length (.cells [.sl false false (mI D)]) = Hb ++ [.cells [.sl false false (mI D)], .hole] := by rw [app_set0]; rfl
  have ehole0 : (Hb ++ [Blk.hole, Blk.hole])[Hb.length]? = some .hole := by rw [app_get0]; rfl
  have ehole1 : (Hb ++ [Blk.cells [AVal.sl false false (mI D)], .hole])[Hb.length + 1]? = some .hole := by rw [app_get]; rfl
  simp only [w28R0b, f4, e0, go_sem, Nat.reduceEqDiff, Nat.reduceAdd, Nat.reduceLT, Nat.reduceLeDiff, reduceIte, reduceCtorEq]
  have hlend : ∀ H' : AHeap, H'[k]? = some (.cells cs) → vle.vleL H' [] [] 3 [.own k 0 n lb 1] [.sl false false (mI D)] := fun H' hH => ⟨vle_mI hH (by simp) hDn.symm (by rw [htk]), trivial⟩
  refine ⟨by simp, CallKD.fills (by omega) (fun H' hf => CallV.of_spec (first := []) (cap := []) (Spec.lendInts (s44o false false D (by omega) (by omega)) (hlend H' (hf k _ (by rw [List.getElem?_append_left (lt hbk)]; exact hbk) (by simp))))) ?_⟩
  simp only [↓SD_appB, Nat.add_zero, ehole0, eset, go_sem, Nat.reduceEqDiff, Nat.reduceAdd, Nat.reduceLT, Nat.reduceLeDiff, reduceIte, reduceCtorEq]
  have gA' : appB 1 24 ov (.own Hb.length 0 1 1 1) (Hb ++ [.cells [.sl false false (mI D)], .hole]) (Hb.length + 1) (fun H b => H.set (Hb.length + 1) b) = some (pr, v', H2) := gA
  rw [gA', ald_some]
  refine ⟨gpr, fun _ => ehole1, ?_⟩
  simp only [g20, gco, gcl, f4, go_sem, Nat.reduceEqDiff, Nat.reduceAdd, Nat.reduceLT, Nat.reduceLeDiff, reduceIte, reduceCtorEq]
  have hto : (cl28 fr).To H.length q H q' (H3.set 2 (.loop .ready none fr 22 #[15] (asOf Try.f28 0) (bdOf Try.f28 0))) := by
    have h32 : 2 < H3.length := by omega
    refine ⟨⟨?_, by rw [List.getElem?_set_self h32]⟩, fun LP h0 => (gok LP (okb LP h0)).set (b := .loop .ready none fr 22 #[15] _ _) (hlp LP h0), by rw [List.length_set, g3l]; omega, fun j hj hm => ?_, fun j hj => ?_⟩
    · have h9 := gout
      unfold G28.out at h9 ⊢
      cases hj : q'.j with
      | none => rw [hj] at h9; dsimp only at h9 ⊢; rw [List.getElem?_set_ne (by omega)]; exact h9
      | some p =>
        obtain ⟨j, lb⟩ := p
        rw [hj] at h9
        dsimp only at h9 ⊢
        rw [List.getElem?_set_ne (by omega), List.getElem?_set_ne (Ne.symm h9.2.2.2.2)]; exact h9
    · have hj0 : j ≠ 0 := fun h => hm (.inl h)
      have hj2 : j ≠ 2 := fun h => hm (.inr (.inl h))
      rw [List.getElem?_set_ne (Ne.symm hj2), gkeep j (by omega) hj0 (fun lb h => hm (.inr (.inr ⟨lb, h⟩))), hbe j hj2]
    · rcases hj with hj | hj | ⟨lb, hj⟩
      · exact .inl (.inl hj)
      · exact .inl (.inr (.inl hj))
      · rcases gown j lb hj with h | h
        · exact .inl (.inr (.inr ⟨lb, h⟩))
        · right; omega
  have h22 : H3[2]? = some (.loop .busy none fr 22 #[15] (asOf Try.f28 0) (bdOf Try.f28 0)) := by
    rw [gkeep 2 (by omega) (by omega) (fun lb h => by
      have h9 := hbout
      unfold G28.out at h9
      rw [h] at h9
      exact h9.2.2.2.2 rfl)]
    exact hb2
  have hact : (H2.set 0 (.cells [v']))[2]? = some (.loop .busy none fr 22 #[15] (asOf Try.f28 0) (bdOf Try.f28 0)) := by
    rcases gd 2 _ h22 with h | h
    · cases h
    · exact h
  refine ⟨hact, idρ _, _, Wk.okD (fr' := []) (hto.hok _ hok) (by simp; omega) (fun i b hi => ?_) (fun _ _ h => h) (by simp; omega) (fun _ h => by cases h), rfl, q', ?_, fun _ => trivial, hto⟩
  · rw [List.getElem?_set] at hi ⊢
    split at hi
    · rename_i h; subst h
      rw [if_pos rfl]
      split at hi
      · rw [if_pos (by simp; omega)]; exact .inr hi
      · cases hi
    · rename_i h
      rw [if_neg h]
      exact gd i b hi
  · show q'.L = q.L ++ [D]; exact gL
theorem run_list : ∀ (l L : List (List Int)), run (fun (_ : List (List Int)) (_ : List Int) => true) (fun (L : List (List Int)) D => L ++ [D]) L l = (L ++ l, true)
  | [], L => by simp [run]
  | x :: l, L => by
    rw [run, if_pos rfl, run_list l]; simp
/-- List. -/
theorem s28 (n : Int) : Abs.Spec Try.prog 28 [I n] [] fun v H' => H' = [] ∧ v = if lenOk n && decide (n ≤ 6) then .tup [.sl false false (mS (foldL n.toNat)), I 0] else .tup [.sl false false (mS []), I 2] := by
  refine Abs.Spec.walk mixed fn28 nn28 t28 q28 nt28 (by simp) ?_
  simp only [w28R0a, w28R0b, w28T0, w28, go_sem, Nat.reduceEqDiff, Nat.reduceAdd, Nat.reduceLT, Nat.reduceLeDiff, reduceIte, reduceCtorEq]
  refine CallK.by (CallV.of_spec (s57 n)) fun v H' ⟨h1, h2⟩ => ?_
  subst h1 h2
  have hlen : (decide (1 ≤ n) && decide (n ≤ 7)) = lenOk n := rfl
  rw [hlen]
  have e6 : decide (n > 6) = !decide (n ≤ 6) := by rw [← decide_not]; exact decide_eq_decide.2 (by omega)
  have bad : (lenOk n && decide (n ≤ 6)) = false → ∀ fr : Fr, fr.get 2 = nilSl → fr.get 3 = I 2 → ∀ H, retA 0 r28 (fun v H' => H' = [] ∧ v = if (lenOk n && decide (n ≤ 6)) = true then .tup [.sl false false (mS (foldL n.toNat)), I 0] else .tup [.sl false false (mS []), I 2]) .ret fr H [] := fun hb fr f2 f3 H =>
    leaf2 (.tup [.sl false false (mS []), I 2]) (by rw [f2, f3]; exact ⟨⟨rfl, rfl, rfl⟩, rfl, trivial⟩) ⟨rfl, by rw [hb]; rfl⟩
  simp only [e6, go_sem, Nat.reduceEqDiff, Nat.reduceAdd, Nat.reduceLT, Nat.reduceLeDiff, reduceIte, reduceCtorEq]
  refine G.split (fun h => ?_) fun h => ?_
  · have h : lenOk n = false := by simpa using h
    simp only [go_sem, Nat.reduceEqDiff, Nat.reduceAdd, Nat.reduceLT, Nat.reduceLeDiff, reduceIte, reduceCtorEq]
    exact bad (by rw [h]; rfl) _ rfl rfl _
  have h : lenOk n = true := by simpa using h
  simp only [e6, go_sem, Nat.reduceEqDiff, Nat.reduceAdd, Nat.reduceLT, Nat.reduceLeDiff, reduceIte, reduceCtorEq]
  refine IC.split (fun h6 => ?_) fun h6 => ?_
  · have h6 : decide (n ≤ 6) = false := by simpa using h6
    simp only [go_sem, Nat.reduceEqDiff, Nat.reduceAdd, Nat.reduceLT, Nat.reduceLeDiff, reduceIte, reduceCtorEq]
    exact bad (by rw [h6, Bool.and_false]) _ rfl rfl _
  have h6 : decide (n ≤ 6) = true := by simpa using h6
  rw [h, h6, Bool.and_self, if_pos rfl]
  obtain ⟨m, rfl, hm1, hm7⟩ := len_nat h
  rw [Int.toNat_natCast]
  have hm6 : m ≤ 6 := by have := of_decide_eq_true h6; omega
  simp only [go_sem, Nat.reduceEqDiff, Nat.reduceAdd, Nat.reduceLT, Nat.reduceLeDiff, reduceIte, reduceCtorEq]
  refine CallK.pure (liftV (s65 m) (by simp [bndL, AVal.bnd]) (by simp [AVal.bnd, bndL]) _) ?_
  simp only [go_sem, Nat.reduceEqDiff, Nat.reduceAdd, Nat.reduceLT, Nat.reduceLeDiff, reduceIte, reduceCtorEq]
  generalize hfr : (List.cons (14, _) _ : Fr) = fr
  have f4 : Fr.get fr 4 = ptr 0 0 := by rw [← hfr]; rfl
  have f14 : Fr.get fr 14 = .fn (.func 76) [] [.rp [I m]] := by rw [← hfr]; rfl
  have hbnd : (fr.all fun q => q.2.bnd 3) = true := by rw [← hfr]; simp [AVal.bnd, bndL]
  clear hfr
  refine W_range rfl f14 ?_
  have hcl : (cl28 fr).ok ⟨[], none⟩ ([.cells [nilSl]] ++ [.defs, .loop .ready none fr 22 #[15] (asOf Try.f28 0) (bdOf Try.f28 0)]) := ⟨⟨rfl, rfl⟩, rfl⟩
  have hok : HOk (LPb 3) ([.cells [nilSl]] ++ [.defs, .loop .ready none fr 22 #[15] (asOf Try.f28 0) (bdOf Try.f28 0)]) := by
    have k1 := (HOk.nil (LP := LPb 3)).push (b := .cells [nilSl]) rfl
    have k2 := k1.push (b := .defs) trivial
    exact k2.push (b := .loop .ready none fr 22 #[15] (asOf Try.f28 0) (bdOf Try.f28 0)) ⟨by simp, hbnd⟩
  have hflen := fold_len (show m ≤ 8 by omega)
  refine (s76 (c := cl28 fr) (by omega) hm1 (y28 hm1 (by omega) f4) (γ := ⟨[], none⟩) (fun pre E post he h2 => ?_) trivial hok hcl (by simp)).mono ?_
  · have hr : run (cl28 fr).go (cl28 fr).upd ((cl28 fr).val ⟨[], none⟩) pre = (pre, true) := (run_list pre []).trans (by simp)
    rw [hr]
    refine ⟨fold_ok E (by rw [he]; simp), ?_⟩
    rw [he] at hflen
    simp at hflen
    show pre.length ≤ _
    omega
  rintro v H' ⟨_, q, hval, hto⟩
  have hq : q.L = foldL m := by
    have hr : run (cl28 fr).go (cl28 fr).upd ((cl28 fr).val ⟨[], none⟩) (foldL m) = (foldL m, true) := (run_list (foldL m) []).trans (by simp)
    rw [hr] at hval
    exact hval
  obtain ⟨hout, hL⟩ := hto.ok
  have hm1 : H'[1]? = some .defs := by
    rw [hto.kept 1 (by simp) (fun h => by rcases h with h | h | ⟨lb, h⟩ <;> first | omega | cases h)]; rfl
  refine ⟨.ready, none, hL, (fun h => by cases h), ?_⟩
  show KQ _ _ .norm _ _ _ _
  unfold G28.out at hout
  cases hj : q.j with
  | none =>
    rw [hj] at hout
    have e1 : (H'.set 2 .dead)[0]? = some (.cells [nilSl]) := by rw [List.getElem?_set_ne (by omega)]; exact hout.1
    simp only [w28T0, f4, e1, go_sem, Nat.reduceEqDiff, Nat.reduceAdd, Nat.reduceLT, Nat.reduceLeDiff, reduceIte, reduceCtorEq]
    refine leafM2 (H' := (H'.set 2 .dead).set 1 .dead) (.tup [.sl false false (mS (foldL m)), I 0]) (by simp [killM, hm1]) ⟨⟨mS_bnd, rfl, by rw [← hq, hout.2]; rfl⟩, rfl, trivial⟩ ⟨rfl, rfl⟩
  | some p =>
    obtain ⟨j, lb⟩ := p
    rw [hj] at hout
    obtain ⟨h0, ⟨cs, hcs, hcl, htk⟩, hle, hj0, hj2⟩ := hout
    have hj1 : j ≠ 1 := fun h => by
      rcases hto.own j (.inr (.inr ⟨lb, hj⟩)) with (h9 | h9 | ⟨_, h9⟩) | h9
      · omega
      · omega
      · cases h9
      · simp at h9; omega
    have e1 : (H'.set 2 .dead)[0]? = some (.cells [.own j 0 q.L.length lb 1]) := by rw [List.getElem?_set_ne (by omega)]; exact h0
    simp only [w28T0, f4, e1, go_sem, Nat.reduceEqDiff, Nat.reduceAdd, Nat.reduceLT, Nat.reduceLeDiff, reduceIte, reduceCtorEq]
    refine leafM2 (H' := (H'.set 2 .dead).set 1 .dead) (.tup [.sl false false (mS (foldL m)), I 0]) (by simp [killM, hm1]) ⟨?_, rfl, trivial⟩ ⟨rfl, rfl⟩
    exact vle_mS (cs := cs) (by rw [List.getElem?_set_ne (Ne.symm hj1), List.getElem?_set_ne (Ne.symm hj2)]; exact hcs) (by simp) (by rw [hq]) (by rw [← hq]; exact htk)
end
theorem s32 (nn t nn' t' : Bool) (xs ys : List Int) (hl : xs.length < 9223372036854775808) : Abs.Spec Try.prog 32 [.sl nn t (mI xs), .sl nn' t' (mI ys)] [] fun v H' => H' = [] ∧ v = B (xs == ys) := by
  refine Abs.Spec.walk mixed fn32 nn32 t32 q32 nt32 (by simp) ?_
  simp only [w32, W_skip, W_keep, KQ_canon, canon, Fr.norm, W_seq, W_block, W_cond, W_exit, W_ret, W_ops, W_draw, KQ_nil, KQ_norm_seq, KQ_exit_seq, KQ_ret_seq, KQ_norm_block, KQ_ret_block, KQ_exit_block, KQ_exit_loop, KQ_ret_loop, O_nil, O_cons, O_guard', S_call, S_mv, SE_mv, SD_mv, S_pick, SE_pick, SD_pick, S_bin, SE_bin, SD_bin, S_eqb, SE_eqb, SD_eqb, S_eqv, SE_eqv, SD_eqv, S_eqnil, SE_eqnil, SD_eqnil, S_un, SE_un, SD_un, S_conv, SE_conv, SD_conv, S_mkfn, SE_mkfn, SD_mkfn, S_load, SE_load, SD_load, S_nilck, SE_nilck, SD_nilck, S_slS, SE_slS, SD_slS, S_slP, SE_slP, SD_slP, S_fldA, SE_fldA, SD_fldA, S_fld, SE_fld, SD_fld, S_ixS, SE_ixS, SD_ixS, S_ixP, SE_ixP, SD_ixP, S_ixV, SE_ixV, SD_ixV, S_ixStr, SE_ixStr, SD_ixStr, S_ext, SE_ext, SD_ext, S_len, SE_len, SD_len, S_lenStr, SE_lenStr, SD_lenStr, S_lenc, SE_lenc, SD_lenc, S_mn, SE_mn, SD_mn, S_mx, SE_mx, SD_mx, S_build, SE_build, SD_build, S_alloc, SD_alloc, S_box, SD_box, S_bslice, SD_bslice, S_mksl, SD_mksl, S_store, SD_store, S_append, SD_append, S_copy, SD_copy, S_clr, SD_clr, aq_some, aa_some, al_some, aqd_some, aad_some, ald_some, ape_some, D_done, D_both, D_early, D_earlyG', D_step, D_stepG', SE_call, SD_call, G_bool, GE_bool, GS_bool, icond_bool, IOpd.ev, Fr.get, Fr.put, Fr.putd, entryFr, pickA, binA, binI, isSh, shI, eqbA, eqvA, ints, ints_mI, Option.map_some, eqnilA, unA, convA, loadA, nilckA, intA, slSA, slPA, fldAA, fldVA, ixSA, ixPA, ixVA, ixStrA, extA, lenA, lenStrA, mnA, mxA, AVal.fits, fillA, fillOk, buildA, opa, srcA, appA, stoA, copA, clrA, rdFree, zeros, List.length_nil, List.length_cons, List.length_map, List.map_cons, List.map_nil, Option.map_some, Option.map_none, if_true, if_false, ite_true, ite_false, true_and, and_true, and_self, implies_true, forall_const, true_implies, Nat.reduceEqDiff, Nat.reduceAdd, Nat.reduceLT, Nat.reduceLeDiff, reduceIte, reduceCtorEq, Bool.false_eq_true, Bool.not_true, Bool.not_false, decide_eq_true_eq, decide_eq_false_iff_not, eq_self, List.getElem?_cons_zero, List.getElem?_cons_succ, List.getElem?_nil, List.set_cons_zero, List.set_cons_succ, List.nil_append, List.cons_append, List.append_nil, List.replicate_zero, List.replicate_succ, Nat.zero_add, false_implies, rng_lt, rng_end, rng_get, cells_I, cells_B, cells_sl, cut_one, Int.toNat_natCast, Int.natCast_nonneg, List.headD_cons, Int.lt_irrefl, not_false_eq_true, decide_false, decide_true, mI_length, mI_cells, mI_sz, mI_isCell, mI_mid, mI_append, mI_take, mI_drop, cells_val, cells_own, cells_agg, isCell_I, isCell_B, isCell_nil, isCell_sl, isCell_own, isCell_ptr, isCell_fn, isCell_rp, isCell_yld, cellsOk_I, cellsOk_B, cellsOk_nil, cellsOk_sl, cellsOk_own, cellsOk_ptr, cellsOk_fn, cellsOk_rp, cellsOk_yld, cellsOk_agg, cells_nil, cells_ptr, cells_fn, cells_rp, List.all_cons, List.all_nil, Bool.and_true, Nat.mul_one, Nat.zero_mul, Nat.one_mul, List.take_zero, List.take_nil, List.drop_nil, List.drop_zero, List.not_mem_nil, Nat.le_refl, Nat.zero_le, mS_length, mS_cells, mS_sz, mS_isCell, mS_mid, mS_append, mS_take, mS_drop, cells_sI, isCell_sI, cellsOk_sI, sI_eq, succ_le_self', List.take_succ_cons, List.drop_succ_cons, List.take_length, beq_self_eq_true, List.mem_cons, or_false, forall_eq, mI_put, mI_rep]
  refine ⟨fun h => ?_, fun h => ?_⟩
  · exact leaf (B _) rfl ⟨rfl, by congr 1; simp at h; symm; simp; rintro rfl; exact h rfl⟩
  have hlen : xs.length = ys.length := by simp at h; omega
  refine W_loop (fun q : { q : List Int × List Int × List Int // q.1 ++ q.2.1 = xs ∧ q.1 ++ q.2.2 = ys } => ([(0, sl nn t (mI xs)), (1, sl nn' t' (mI ys)), (12, I xs.length), (13, I q.1.1.length)], [])) (fun q => q.1.2.1.length) ⟨([], xs, ys), rfl, rfl⟩ [] (Wk.nil (by simp [fle, vle, Fr.get, mI_bnd])) ?_
  rintro ⟨⟨pre, suf, suf'⟩, hp, hp'⟩
  dsimp only at hp hp'
  subst hp hp'
  simp only [List.length_append] at hlen
  cases suf with
  | nil =>
    cases suf' with
    | cons y suf' => simp at hlen
    | nil =>
    simp only [w32L0, w32T1, W_skip, W_keep, KQ_canon, canon, Fr.norm, W_seq, W_block, W_cond, W_exit, W_ret, W_ops, W_draw, KQ_nil, KQ_norm_seq, KQ_exit_seq, KQ_ret_seq, KQ_norm_block, KQ_ret_block, KQ_exit_block, KQ_exit_loop, KQ_ret_loop, O_nil, O_cons, O_guard', S_call, S_mv, SE_mv, SD_mv, S_pick, SE_pick, SD_pick, S_bin, SE_bin, SD_bin, S_eqb, SE_eqb, SD_eqb, S_eqv, SE_eqv, SD_eqv, S_eqnil, SE_eqnil, SD_eqnil, S_un, SE_un, SD_un, S_conv, SE_conv, SD_conv, S_mkfn, SE_mkfn, SD_mkfn, S_load, SE_load, SD_load, S_nilck, SE_nilck, SD_nilck, S_slS, SE_slS, SD_slS, S_slP, SE_slP, SD_slP, S_fldA, SE_fldA, SD_fldA, S_fld, SE_fld, SD_fld, S_ixS, SE_ixS, SD_ixS, S_ixP, SE_ixP, SD_ixP, S_ixV, SE_ixV, SD_ixV, S_ixStr, SE_ixStr, SD_ixStr, S_ext, SE_ext, SD_ext, S_len, SE_len, SD_len, S_lenStr, SE_lenStr, SD_lenStr, S_lenc, SE_lenc, SD_lenc, S_mn, SE_mn, SD_mn, S_mx, SE_mx, SD_mx, S_build, SE_build, SD_build, S_alloc, SD_alloc, S_box, SD_box, S_bslice, SD_bslice, S_mksl, SD_mksl, S_store, SD_store, S_append, SD_append, S_copy, SD_copy, S_clr, SD_clr, aq_some, aa_some, al_some, aqd_some, aad_some, ald_some, ape_some, D_done, D_both, D_early, D_earlyG', D_step, D_stepG', SE_call, SD_call, G_bool, GE_bool, GS_bool, icond_bool, IOpd.ev, Fr.get, Fr.put, Fr.putd, entryFr, pickA, binA, binI, isSh, shI, eqbA, eqvA, ints, ints_mI, Option.map_some, eqnilA, unA, convA, loadA, nilckA, intA, slSA, slPA, fldAA, fldVA, ixSA, ixPA, ixVA, ixStrA, extA, lenA, lenStrA, mnA, mxA, AVal.fits, fillA, fillOk, buildA, opa, srcA, appA, stoA, copA, clrA, rdFree, zeros, List.length_nil, List.length_cons, List.length_map, List.map_cons, List.map_nil, Option.map_some, Option.map_none, if_true, if_false, ite_true, ite_false, true_and, and_true, and_self, implies_true, forall_const, true_implies, Nat.reduceEqDiff, Nat.reduceAdd, Nat.reduceLT, Nat.reduceLeDiff, reduceIte, reduceCtorEq, Bool.false_eq_true, Bool.not_true, Bool.not_false, decide_eq_true_eq, decide_eq_false_iff_not, eq_self, List.getElem?_cons_zero, List.getElem?_cons_succ, List.getElem?_nil, List.set_cons_zero, List.set_cons_succ, List.nil_append, List.cons_append, List.append_nil, List.replicate_zero, List.replicate_succ, Nat.zero_add, false_implies, rng_lt, rng_end, rng_get, cells_I, cells_B, cells_sl, cut_one, Int.toNat_natCast, Int.natCast_nonneg, List.headD_cons, Int.lt_irrefl, not_false_eq_true, decide_false, decide_true, mI_length, mI_cells, mI_sz, mI_isCell, mI_mid, mI_append, mI_take, mI_drop, cells_val, cells_own, cells_agg, isCell_I, isCell_B, isCell_nil, isCell_sl, isCell_own, isCell_ptr, isCell_fn, isCell_rp, isCell_yld, cellsOk_I, cellsOk_B, cellsOk_nil, cellsOk_sl, cellsOk_own, cellsOk_ptr, cellsOk_fn, cellsOk_rp, cellsOk_yld, cellsOk_agg, cells_nil, cells_ptr, cells_fn, cells_rp, List.all_cons, List.all_nil, Bool.and_true, Nat.mul_one, Nat.zero_mul, Nat.one_mul, List.take_zero, List.take_nil, List.drop_nil, List.drop_zero, List.not_mem_nil, Nat.le_refl, Nat.zero_le, mS_length, mS_cells, mS_sz, mS_isCell, mS_mid, mS_append, mS_take, mS_drop, cells_sI, isCell_sI, cellsOk_sI, sI_eq, succ_le_self', List.take_succ_cons, List.drop_succ_cons, List.take_length, beq_self_eq_true, List.mem_cons, or_false, forall_eq, mI_put, mI_rep]
    exact leaf (B _) rfl ⟨rfl, by simp⟩
  | cons x suf =>
    cases suf' with
    | nil => simp at hlen
    | cons y suf' =>
    simp only [w32L0, w32T1, W_skip, W_keep, KQ_canon, canon, Fr.norm, W_seq, W_block, W_cond, W_exit, W_ret, W_ops, W_draw, KQ_nil, KQ_norm_seq, KQ_exit_seq, KQ_ret_seq, KQ_norm_block, KQ_ret_block, KQ_exit_block, KQ_exit_loop, KQ_ret_loop, O_nil, O_cons, O_guard', S_call, S_mv, SE_mv, SD_mv, S_pick, SE_pick, SD_pick, S_bin, SE_bin, SD_bin, S_eqb, SE_eqb, SD_eqb, S_eqv, SE_eqv, SD_eqv, S_eqnil, SE_eqnil, SD_eqnil, S_un, SE_un, SD_un, S_conv, SE_conv, SD_conv, S_mkfn, SE_mkfn, SD_mkfn, S_load, SE_load, SD_load, S_nilck, SE_nilck, SD_nilck, S_slS, SE_slS, SD_slS, S_slP, SE_slP, SD_slP, S_fldA, SE_fldA, SD_fldA, S_fld, SE_fld, SD_fld, S_ixS, SE_ixS, SD_ixS, S_ixP, SE_ixP, SD_ixP, S_ixV, SE_ixV, SD_ixV, S_ixStr, SE_ixStr, SD_ixStr, S_ext, SE_ext, SD_ext, S_len, SE_len, SD_len, S_lenStr, SE_lenStr, SD_lenStr, S_lenc, SE_lenc, SD_lenc, S_mn, SE_mn, SD_mn, S_mx, SE_mx, SD_mx, S_build, SE_build, SD_build, S_alloc, SD_alloc, S_box, SD_box, S_bslice, SD_bslice, S_mksl, SD_mksl, S_store, SD_store, S_append, SD_append, S_copy, SD_copy, S_clr, SD_clr, aq_some, aa_some, al_some, aqd_some, aad_some, ald_some, ape_some, D_done, D_both, D_early, D_earlyG', D_step, D_stepG', SE_call, SD_call, G_bool, GE_bool, GS_bool, icond_bool, IOpd.ev, Fr.get, Fr.put, Fr.putd, entryFr, pickA, binA, binI, isSh, shI, eqbA, eqvA, ints, ints_mI, Option.map_some, eqnilA, unA, convA, loadA, nilckA, intA, slSA, slPA, fldAA, fldVA, ixSA, ixPA, ixVA, ixStrA, extA, lenA, lenStrA, mnA, mxA, AVal.fits, fillA, fillOk, buildA, opa, srcA, appA, stoA, copA, clrA, rdFree, zeros, List.length_nil, List.length_cons, List.length_map, List.map_cons, List.map_nil, Option.map_some, Option.map_none, if_true, if_false, ite_true, ite_false, true_and, and_true, and_self, implies_true, forall_const, true_implies, Nat.reduceEqDiff, Nat.reduceAdd, Nat.reduceLT, Nat.reduceLeDiff, reduceIte, reduceCtorEq, Bool.false_eq_true, Bool.not_true, Bool.not_false, decide_eq_true_eq, decide_eq_false_iff_not, eq_self, List.getElem?_cons_zero, List.getElem?_cons_succ, List.getElem?_nil, List.set_cons_zero, List.set_cons_succ, List.nil_append, List.cons_append, List.append_nil, List.replicate_zero, List.replicate_succ, Nat.zero_add, false_implies, rng_lt, rng_end, rng_get, cells_I, cells_B, cells_sl, cut_one, Int.toNat_natCast, Int.natCast_nonneg, List.headD_cons, Int.lt_irrefl, not_false_eq_true, decide_false, decide_true, mI_length, mI_cells, mI_sz, mI_isCell, mI_mid, mI_append, mI_take, mI_drop, cells_val, cells_own, cells_agg, isCell_I, isCell_B, isCell_nil, isCell_sl, isCell_own, isCell_ptr, isCell_fn, isCell_rp, isCell_yld, cellsOk_I, cellsOk_B, cellsOk_nil, cellsOk_sl, cellsOk_own, cellsOk_ptr, cellsOk_fn, cellsOk_rp, cellsOk_yld, cellsOk_agg, cells_nil, cells_ptr, cells_fn, cells_rp, List.all_cons, List.all_nil, Bool.and_true, Nat.mul_one, Nat.zero_mul, Nat.one_mul, List.take_zero, List.take_nil, List.drop_nil, List.drop_zero, List.not_mem_nil, Nat.le_refl, Nat.zero_le, mS_length, mS_cells, mS_sz, mS_isCell, mS_mid, mS_append, mS_take, mS_drop, cells_sI, isCell_sI, cellsOk_sI, sI_eq, succ_le_self', List.take_succ_cons, List.drop_succ_cons, List.take_length, beq_self_eq_true, List.mem_cons, or_false, forall_eq, mI_put, mI_rep]
    refine ⟨fun h1 => ?_, fun h1 => ?_⟩
    · exact leaf (B _) rfl ⟨rfl, by congr 1; symm; simpa using fun e => absurd e (by simpa using h1)⟩
    · refine round0 rfl ⟨(pre ++ [x], suf, suf'), by simp, by simp at h1; simp [h1]⟩ (by simp) rfl ?_
      simp [fle, vle, Fr.get, rng_idx' hl, mI_bnd]

theorem s31 (a b : List (List Int)) (ha : ∀ l ∈ a, l.length < 9223372036854775808) (hl : a.length < 9223372036854775808) (hl' : b.length < 9223372036854775808) : Abs.Spec Try.prog 31 [.sl false false (mS a), .sl false false (mS b), .fn (.func 32) [] []] [] fun v H' => H' = [] ∧ v = B (a == b) := by
  refine Abs.Spec.walk mixed fn31 nn31 t31 q31 nt31 (by simp) ?_
  have e : ((a.length : Int) != b.length) = !decide (a.length = b.length) := by
    by_cases h : a.length = b.length
    · simp [h]
    · rw [decide_eq_false h, bne_iff_ne.2 (by omega)]; rfl
  simp only [w31, e, go_sem, Nat.reduceEqDiff, Nat.reduceAdd, Nat.reduceLT, Nat.reduceLeDiff, reduceIte, reduceCtorEq]
  refine IC.split (fun h => ?_) fun h => ?_
  · have h : a.length ≠ b.length := by simpa using h
    simp only [go_sem, Nat.reduceEqDiff, Nat.reduceAdd, Nat.reduceLT, Nat.reduceLeDiff, reduceIte, reduceCtorEq]
    exact leaf (B _) rfl ⟨rfl, by congr 1; symm; rw [beq_eq_false_iff_ne]; rintro rfl; exact h rfl⟩
  have h : a.length = b.length := by simpa using h
  simp only [go_sem, Nat.reduceEqDiff, Nat.reduceAdd, Nat.reduceLT, Nat.reduceLeDiff, reduceIte, reduceCtorEq]
  refine W_loop (fun q : { i : Nat // i ≤ a.length ∧ a.take i = b.take i } => ([(1, .sl false false (mS b)), (2, .fn (.func 32) [] []), (15, .sl false false (mS a)), (16, I a.length), (17, I q.1)], [])) (fun q => a.length - q.1) ⟨0, by omega, rfl⟩ [] (Wk.nil (by simp [fle, vle, vle.vleL, Fr.get, mS_bnd])) ?_
  rintro ⟨i, hi, htk⟩
  dsimp only
  by_cases hil : i < a.length
  · have hz : decide ((i : Int) < a.length) = true := decide_eq_true (by omega)
    have hil' : (i : Int) < a.length := by omega
    have hib : i < b.length := by omega
    have hib' : (i : Int) < b.length := by omega
    have hwk : IntKind.i64.wrap ((i : Int) + 1) = ((i + 1 : Nat) : Int) := by rw [wrap64 (by omega) (by omega)]; rfl
    obtain ⟨x, hx⟩ : ∃ x, a.getD i [] = x := ⟨_, rfl⟩
    obtain ⟨y, hy⟩ : ∃ y, b.getD i [] = y := ⟨_, rfl⟩
    have hx' : a[i] = x := by rw [← hx, List.getD_eq_getElem?_getD, List.getElem?_eq_getElem hil]; rfl
    have hy' : b[i] = y := by rw [← hy, List.getD_eq_getElem?_getD, List.getElem?_eq_getElem hib]; rfl
    have hxl := ha x (by rw [← hx']; exact List.getElem_mem _)
    simp only [w31L0, hz, hil', mS_get, hil, hx, hib, hib', hy, go_sem, Nat.reduceEqDiff, Nat.reduceAdd, Nat.reduceLT, Nat.reduceLeDiff, reduceIte, reduceCtorEq]
    refine CallK.pure (liftV (s32 false false false false x y hxl) (by simp [bndL, AVal.bnd, mI_bnd]) rfl _) ?_
    simp only [go_sem, Nat.reduceEqDiff, Nat.reduceAdd, Nat.reduceLT, Nat.reduceLeDiff, reduceIte, reduceCtorEq]
    refine IC.split (fun hc => ?_) fun hc => ?_
    · have hc : (x == y) = false := by simpa using hc
      simp only [go_sem, Nat.reduceEqDiff, Nat.reduceAdd, Nat.reduceLT, Nat.reduceLeDiff, reduceIte, reduceCtorEq]
      exact leaf (B _) rfl ⟨rfl, by congr 1; symm; rw [beq_eq_false_iff_ne]; rintro rfl; rw [← hx', ← hy'] at hc; simp at hc⟩
    · have hc : x = y := by simpa using hc
      simp only [hwk, go_sem, Nat.reduceEqDiff, Nat.reduceAdd, Nat.reduceLT, Nat.reduceLeDiff, reduceIte, reduceCtorEq]
      refine round0 rfl ⟨i + 1, by omega, by rw [List.take_add_one, List.take_add_one, htk, List.getElem?_eq_getElem hil, List.getElem?_eq_getElem hib, hx', hy', hc]⟩ (by dsimp only; omega) rfl ?_
      simp [fle, vle, vle.vleL, Fr.get, mS_bnd]
  · have hz : decide ((i : Int) < a.length) = false := decide_eq_false (by omega)
    obtain rfl : i = a.length := by omega
    simp only [w31L0, hz, w31T1, go_sem, Nat.reduceEqDiff, Nat.reduceAdd, Nat.reduceLT, Nat.reduceLeDiff, reduceIte, reduceCtorEq]
    exact leaf (B _) rfl ⟨rfl, by rw [List.take_length, h, List.take_length] at htk; rw [htk]; simp⟩

set_option maxHeartbeats 1000000 in
theorem s7 (n : Int) : Abs.Spec Try.prog 7 [I n] [] fun v H' => H' = [] ∧ v = B true := by
  have e18 : ∀ H, CallV Try.prog (.fn (.func 18) [] []) [] H fun v H' => v = B true ∧ H' = H := fun H => liftV s18 rfl rfl H
  refine Abs.Spec.walk mixed fn7 nn7 t7 q7 nt7 (by simp) ?_
  simp only [w7, go_sem, Nat.reduceEqDiff, Nat.reduceAdd, Nat.reduceLT, Nat.reduceLeDiff, reduceIte, reduceCtorEq]
  refine CallK.by (CallV.of_spec (s24 n)) fun v H' ⟨h1, h2⟩ => ?_
  subst h1 h2
  cases hn : lenOk n with
  | false =>
    rw [if_neg (by simp)]
    simp only [List.getD_cons_zero, List.getD_cons_succ, go_sem, Nat.reduceEqDiff, Nat.reduceAdd, Nat.reduceLT, Nat.reduceLeDiff, reduceIte, reduceCtorEq]
    refine CallK.by (CallV.of_spec (s28 n)) fun v H' ⟨h1, h2⟩ => ?_
    subst h1 h2
    rw [hn, Bool.false_and, if_neg (by simp)]
    simp only [List.getD_cons_zero, List.getD_cons_succ, go_sem, Nat.reduceEqDiff, Nat.reduceAdd, Nat.reduceLT, Nat.reduceLeDiff, reduceIte, reduceCtorEq]
    refine CallK.by (CallV.of_spec (s25 n)) fun v H' ⟨h1, h2⟩ => ?_
    subst h1 h2
    rw [hn, if_neg (by simp)]
    have z0 : (((0 : Nat) : Int) == 0) = true := rfl
    have hbad : n < 1 ∨ n > 7 := by
      simp only [lenOk, Bool.and_eq_false_iff, decide_eq_false_iff_not] at hn; omega
    simp only [List.getD_cons_zero, List.getD_cons_succ, go_sem, Nat.reduceEqDiff, Nat.reduceAdd, Nat.reduceLT, Nat.reduceLeDiff, reduceIte, reduceCtorEq]
    have go : ∀ b : Bool, True := fun _ => trivial
    refine G.splitP (fun h => ?_) fun h => ?_
    · simp only [mS_length, z0, go_sem, Nat.reduceEqDiff, Nat.reduceAdd, Nat.reduceLT, Nat.reduceLeDiff, reduceIte, reduceCtorEq]
      refine CallK.pure (e18 _) ?_
      simp only [go_sem, Nat.reduceEqDiff, Nat.reduceAdd, Nat.reduceLT, Nat.reduceLeDiff, reduceIte, reduceCtorEq]
      exact leaf (B true) rfl ⟨rfl, rfl⟩
    · have hn7 : decide (n > 7) = true := decide_eq_true (by omega)
      simp only [hn7, mS_length, z0, go_sem, Nat.reduceEqDiff, Nat.reduceAdd, Nat.reduceLT, Nat.reduceLeDiff, reduceIte, reduceCtorEq]
      refine CallK.pure (e18 _) ?_
      simp only [go_sem, Nat.reduceEqDiff, Nat.reduceAdd, Nat.reduceLT, Nat.reduceLeDiff, reduceIte, reduceCtorEq]
      exact leaf (B true) rfl ⟨rfl, rfl⟩
  | true =>
    obtain ⟨m, rfl, hm1, hm7⟩ := len_nat hn
    have n1 : decide ((m : Int) < 1) = false := decide_eq_false (by omega)
    have n7 : decide ((m : Int) > 7) = false := decide_eq_false (by omega)
    have hfl := fold_len (show m ≤ 8 by omega)
    rw [if_pos rfl, Int.toNat_natCast]
    simp only [List.getD_cons_zero, List.getD_cons_succ, go_sem, Nat.reduceEqDiff, Nat.reduceAdd, Nat.reduceLT, Nat.reduceLeDiff, reduceIte, reduceCtorEq]
    refine CallK.by (CallV.of_spec (s28 m)) fun v H' ⟨h1, h2⟩ => ?_
    subst h1 h2
    rw [hn, Bool.true_and, Int.toNat_natCast]
    obtain ⟨LL, e, hLL, hL6⟩ : ∃ LL e, (if decide ((m : Int) ≤ 6) = true then (AVal.tup [.sl false false (mS (foldL m)), I 0]) else .tup [.sl false false (mS []), I 2]) = .tup [.sl false false (mS LL), I e] ∧ (if decide ((m : Int) ≤ 6) = true then LL = foldL m ∧ e = 0 else LL = [] ∧ e = 2) := by
      split
      · exact ⟨_, _, rfl, rfl, rfl⟩
      · exact ⟨_, _, rfl, rfl, rfl⟩
    rw [hLL]
    simp only [List.getD_cons_zero, List.getD_cons_succ, go_sem, Nat.reduceEqDiff, Nat.reduceAdd, Nat.reduceLT, Nat.reduceLeDiff, reduceIte, reduceCtorEq]
    refine CallK.by (CallV.of_spec (s25 m)) fun v H' ⟨h1, h2⟩ => ?_
    subst h1 h2
    rw [hn, if_pos rfl, Int.toNat_natCast]
    simp only [List.getD_cons_zero, List.getD_cons_succ, n1, n7, go_sem, Nat.reduceEqDiff, Nat.reduceAdd, Nat.reduceLT, Nat.reduceLeDiff, reduceIte, reduceCtorEq]
    refine CallK.by (CallV.of_spec (s29 hm1 hm7)) fun v H' ⟨h1, h2⟩ => ?_
    subst h1 h2
    have eself : ∀ k : Nat, ((k : Int) != k) = false := fun k => by simp
    simp only [mS_length, eself, z00, go_sem, Nat.reduceEqDiff, Nat.reduceAdd, Nat.reduceLT, Nat.reduceLeDiff, reduceIte, reduceCtorEq]
    refine CallK.by (CallV.of_spec (s30 hm1 hm7)) fun v H' ⟨h1, h2⟩ => ?_
    subst h1 h2
    simp only [eself, z00, go_sem, Nat.reduceEqDiff, Nat.reduceAdd, Nat.reduceLT, Nat.reduceLeDiff, reduceIte, reduceCtorEq]
    refine CallK.pure (e18 _) ?_
    simp only [go_sem, Nat.reduceEqDiff, Nat.reduceAdd, Nat.reduceLT, Nat.reduceLeDiff, reduceIte, reduceCtorEq]
    by_cases h6 : (m : Int) ≤ 6
    · have h6' : decide ((m : Int) > 6) = false := decide_eq_false (by omega)
      rw [if_pos (decide_eq_true h6)] at hL6
      obtain ⟨rfl, rfl⟩ := hL6
      simp only [h6', go_sem, Nat.reduceEqDiff, Nat.reduceAdd, Nat.reduceLT, Nat.reduceLeDiff, reduceIte, reduceCtorEq]
      refine CallK.pure (liftV (s31 (foldL m) (foldL m) (fun l hl => by have := (fold_ok l hl).1; omega) (by omega) (by omega)) (by simp [bndL, AVal.bnd, mS_bnd]) rfl _) ?_
      rw [beq_self_eq_true]
      simp only [go_sem, Nat.reduceEqDiff, Nat.reduceAdd, Nat.reduceLT, Nat.reduceLeDiff, reduceIte, reduceCtorEq]
      exact leaf (B true) rfl ⟨rfl, rfl⟩
    · have h6' : decide ((m : Int) > 6) = true := decide_eq_true (by omega)
      rw [if_neg (by simp; omega)] at hL6
      obtain ⟨rfl, rfl⟩ := hL6
      have z0 : (((0 : Nat) : Int) == 0) = true := rfl
      simp only [h6', mS_length, z0, go_sem, Nat.reduceEqDiff, Nat.reduceAdd, Nat.reduceLT, Nat.reduceLeDiff, reduceIte, reduceCtorEq]
      exact leaf (B true) rfl ⟨rfl, rfl⟩
end Go.Proofs.Ythdjloegibenoaa
