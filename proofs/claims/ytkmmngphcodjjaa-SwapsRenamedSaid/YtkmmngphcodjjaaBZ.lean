/- Contracts: Core; Contracts: the reference's Core, EqualFunc, and the statement SwapsCores. -/
import Derived.Test.YtkmmngphcodjjaaBY
import Derived.Test.YtkmmngphcodjjaaCE
namespace Go.Proofs.Ytkmmngphcodjjaa
open Go.Abs AVal
set_option linter.unusedSimpArgs false
attribute [local go_sem] W_skip W_keep KQ_canon canon Fr.norm W_seq W_block W_exit W_ret W_ops W_draw KQ_nil KQ_norm_seq KQ_exit_seq KQ_ret_seq KQ_norm_block KQ_ret_block KQ_exit_block KQ_exit_loop KQ_ret_loop O_nil O_cons S_call S_mv SE_mv SD_mv S_pick SE_pick SD_pick S_bin SE_bin SD_bin S_eqb SE_eqb SD_eqb S_eqv SE_eqv SD_eqv S_eqnil SE_eqnil SD_eqnil S_un SE_un SD_un S_conv SE_conv SD_conv S_mkfn SE_mkfn SD_mkfn S_load SE_load SD_load S_nilck SE_nilck SD_nilck S_slS SE_slS SD_slS S_slP SE_slP SD_slP S_fldA SE_fldA SD_fldA S_fld SE_fld SD_fld S_ixS SE_ixS SD_ixS S_ixP SE_ixP SD_ixP S_ixV SE_ixV SD_ixV S_ixStr SE_ixStr SD_ixStr S_ext SE_ext SD_ext S_len SE_len SD_len S_lenStr SE_lenStr SD_lenStr S_lenc SE_lenc SD_lenc S_mn SE_mn SD_mn S_mx SE_mx SD_mx S_build SE_build SD_build S_alloc SD_alloc S_box SD_box S_bslice SD_bslice S_mksl SD_mksl S_store SD_store S_append SD_append S_copy SD_copy S_clr SD_clr aq_some aa_some al_some aqd_some aad_some ald_some ape_some D_done D_both D_early D_step SE_call SD_call IOpd.ev Fr.get Fr.put Fr.putd entryFr pickA binA binI isSh shI eqbA eqvA ints ints_mI Option.map_some eqnilA unA convA loadA nilckA intA slSA slPA fldAA fldVA ixSA ixPA ixVA ixStrA extA lenA lenStrA mnA mxA AVal.fits fillA fillOk buildA opa srcA appA stoA copA clrA rdFree zeros List.length_nil List.length_cons List.length_map List.map_cons List.map_nil Option.map_some Option.map_none if_true if_false ite_true ite_false true_and and_true and_self implies_true forall_const true_implies Bool.false_eq_true Bool.not_true Bool.not_false decide_eq_true_eq decide_eq_false_iff_not eq_self List.getElem?_cons_zero List.getElem?_cons_succ List.getElem?_nil List.set_cons_zero List.set_cons_succ List.nil_append List.cons_append List.append_nil List.replicate_zero List.replicate_succ Nat.zero_add false_implies rng_lt rng_end rng_get cells_I cells_B cells_sl cut_one Int.toNat_natCast Int.natCast_nonneg List.headD_cons Int.lt_irrefl not_false_eq_true decide_false decide_true mI_length mI_cells mI_sz mI_isCell mI_mid mI_append mI_take mI_drop cells_val cells_own cells_agg isCell_I isCell_B isCell_nil isCell_sl isCell_own isCell_ptr isCell_fn isCell_rp isCell_yld cellsOk_I cellsOk_B cellsOk_nil cellsOk_sl cellsOk_own cellsOk_ptr cellsOk_fn cellsOk_rp cellsOk_yld cellsOk_agg cells_nil cells_ptr cells_fn cells_rp List.all_cons List.all_nil Bool.and_true Nat.mul_one Nat.zero_mul Nat.one_mul List.take_zero List.take_nil List.drop_nil List.drop_zero List.not_mem_nil Nat.le_refl Nat.zero_le mS_length mS_cells mS_sz mS_isCell mS_mid mS_append mS_take mS_drop cells_sI isCell_sI cellsOk_sI sI_eq succ_le_self' List.take_succ_cons List.drop_succ_cons List.take_length beq_self_eq_true List.mem_cons or_false forall_eq mI_put mI_rep O_guard' D_earlyG' D_stepG' W_cond' G_tt G_tf G_ft G_ff GE_tt GE_tf GE_ft GE_ff GS_tt GS_tf GS_ft GS_ff G_u GE_u GS_u IC_t IC_f xft xff xtt xtf z00 z20 z22 z02 zz tn0

section
variable {n : Nat} {fr : Fr} {w : List (List Int)}
/-- No set blocks the deal strongly. -/
def coreP (w : List (List Int)) (D : List Int) : Bool := (blockA w D true).2 == 4
/-- What is gathered, and where it lies. -/
structure G34 where
  L : List (List Int)
  j : Option (Nat × Nat)
def G34.out (q : G34) (H : AHeap) : Prop := match q.j with
  | none => H[1]? = some (.cells [nilSl]) ∧ q.L = []
  | some (j, lb) => H[1]? = some (.cells [.own j 0 q.L.length lb 1]) ∧ (∃ cs, H[j]? = some (.cells cs) ∧ cs.length = lb ∧ cs.take q.L.length = mS q.L) ∧ q.L.length ≤ lb ∧ j ≠ 1 ∧ j ≠ 3 ∧ j ≠ 0
noncomputable def lp34 (st : LoopState) (fr : Fr) : Blk := .loop st none fr 38 #[23] (asOf Try.f34 0) (bdOf Try.f34 0)
/-- The rounds of gathering: whose they are. -/
noncomputable def cl34 (w : List (List Int)) (fr : Fr) : Cl where
  Γ := G34
  σ := List (List Int)
  val q := q.L
  live _ := True
  ok q H := q.out H ∧ H[3]? = some (lp34 .ready fr) ∧ H[0]? = some (.cells [.sl false false (mS w)])
  mine q j := j = 1 ∨ j = 3 ∨ j = 0 ∨ ∃ lb, q.j = some (j, lb)
  go _ _ := true
  upd L D := if coreP w D then L ++ [D] else L
  frame := fun q H H' h hk => by
    have e0 := hk 1 (.inl rfl)
    refine ⟨?_, by rw [hk 3 (.inr (.inl rfl))]; exact h.2.1, by rw [hk 0 (.inr (.inr (.inl rfl)))]; exact h.2.2⟩
    have h1 := h.1
    unfold G34.out at h1 ⊢
    cases hj : q.j with
    | none => rw [hj] at h1; dsimp only at h1 ⊢; rw [e0]; exact h1
    | some p =>
      obtain ⟨j, lb⟩ := p
      rw [hj] at h1
      dsimp only at h1 ⊢
      rw [e0, hk j (.inr (.inr (.inr ⟨lb, hj⟩)))]
      exact h1
  lt := fun q H j h hm => by
    have lt : ∀ {H : AHeap} {j b}, H[j]? = some b → j < H.length := fun hj => (List.getElem?_eq_some_iff.1 hj).1
    have h1 := h.1
    unfold G34.out at h1
    rcases hm with rfl | rfl | rfl | ⟨lb, hm⟩
    · cases hj : q.j with
      | none => rw [hj] at h1; exact lt h1.1
      | some p => rw [hj] at h1; exact lt h1.1
    · exact lt h.2.1
    · exact lt h.2.2
    · rw [hm] at h1
      obtain ⟨cs, hcs, _⟩ := h1.2.1
      exact lt hcs

/-- One more is gathered. -/
theorem gather {q : G34} {Hb : AHeap} (hq : q.out Hb) (D : List Int) (hlen : q.L.length ≤ 16777216) (h2 : 3 < Hb.length) :
    ∃ (ov : AVal) (pr : Prop) (v' : AVal) (H2 : AHeap) (q' : G34) (H3 : AHeap), Hb[1]? = some (.cells [ov]) ∧ appB 1 24 ov (.own Hb.length 0 1 1 1) (Hb ++ [.cells [.sl false false (mI D)], .hole]) (Hb.length + 1) (fun H b => H.set (Hb.length + 1) b) = some (pr, v', H2) ∧ pr ∧ v'.cellsOk = true ∧ v'.cells = [v'] ∧ H2[1]? = some (.cells [ov]) ∧
      H3.length = Hb.length + 2 ∧ H2.length = Hb.length + 2 ∧ (∀ (i : Nat) (b : Blk), H3[i]? = some b → b = .dead ∨ (H2.set 1 (.cells [v']))[i]? = some b) ∧ q'.L = q.L ++ [D] ∧ q'.out H3 ∧ (∀ j, j < Hb.length → j ≠ 1 → (∀ lb, q.j ≠ some (j, lb)) → H3[j]? = Hb[j]?) ∧
      (∀ LP, HOk LP Hb → HOk LP H3) ∧ (∀ j lb, q'.j = some (j, lb) → q.j = some (j, lb) ∨ Hb.length ≤ j) := by
  have lt : ∀ {H : AHeap} {j b}, H[j]? = some b → j < H.length := fun hj => (List.getElem?_eq_some_iff.1 hj).1
  obtain ⟨c, hc⟩ : ∃ c : Blk, Blk.cells [.sl false false (mI D)] = c := ⟨_, rfl⟩
  have hcok : ∀ LP N i, blkN LP N i c := fun LP N i => by rw [← hc]; simp [blkN, bndL, AVal.bnd, mI_bnd]
  have src : srcA 1 (.own Hb.length 0 1 1 1) (Hb ++ [c, .hole]) = some (1, [.sl false false (mI D)], (0 + 1 * 1 ≤ [AVal.sl false false (mI D)].length ∧ ∀ u ∈ [AVal.sl false false (mI D)], u.isCell = true)) := by
    rw [← hc]; simp [srcA]
  have pr0 : 0 + 1 * 1 ≤ [AVal.sl false false (mI D)].length ∧ ∀ u ∈ [AVal.sl false false (mI D)], u.isCell = true := ⟨by simp, by simp; rfl⟩
  have okc : ∀ LP, HOk LP Hb → ∀ b, blkN LP (Hb.length + 2) (Hb.length + 1) b → HOk LP (Hb ++ [c, b]) := fun LP h0 b hb => by
    have k1 := h0.push (b := c) (hcok _ _ _)
    have k2 := k1.push (b := b) (by rw [List.length_append]; exact hb)
    rwa [List.append_assoc] at k2
  have hsetl : (Hb ++ [c, .hole]).length = Hb.length + 2 := by simp
  rw [hc]
  unfold appB appA
  rw [src]
  dsimp only
  unfold G34.out at hq
  cases hj : q.j with
  | none =>
    rw [hj] at hq
    obtain ⟨h0, hL⟩ := hq
    have e : (Hb ++ [c, .hole]).set (Hb.length + 1) (.cells [.sl false false (mI D)]) = Hb ++ [c, .cells [.sl false false (mI D)]] := by rw [app_set]; rfl
    refine ⟨nilSl, _, _, _, ⟨[D], some (Hb.length + 1, 1)⟩, (Hb ++ [c, .cells [.sl false false (mI D)]]).set 1 (.cells [.own (Hb.length + 1) 0 1 1 1]), h0, rfl, ⟨pr0, by omega⟩, rfl, rfl, ?_, by simp, by simp, fun i b hi => .inr ?_, by rw [hL]; rfl, ⟨?_, ⟨[.sl false false (mI D)], ?_, rfl, rfl⟩, by simp, by omega, by omega, by omega⟩, fun j hj1 hj0 _ => ?_, fun LP h9 => ?_, ?_⟩
    · rw [e, List.getElem?_append_left (by omega)]; exact h0
    · rw [e]; exact hi
    · rw [List.getElem?_set_self (by simp)]; rfl
    · rw [List.getElem?_set_ne (by omega), app_get]; rfl
    · rw [List.getElem?_set_ne (by omega), List.getElem?_append_left hj1]
    · exact (okc LP h9 (.cells [.sl false false (mI D)]) (by simp [blkN, bndL, AVal.bnd, mI_bnd])).set (b := .cells [.own (Hb.length + 1) 0 1 1 1]) (by simp [blkN, vid])
    · intro j lb hjj
      simp at hjj
      right; omega
  | some p =>
    obtain ⟨j, lb⟩ := p
    rw [hj] at hq
    obtain ⟨h0, ⟨cs, hcs, hcl, htk⟩, hle, hj0, hj2⟩ := hq
    have hjl := lt hcs
    have hcs1 : (Hb ++ [c, .hole])[j]? = some (.cells cs) := by rw [List.getElem?_append_left hjl]; exact hcs
    have e1 : 0 + q.L.length * 1 = q.L.length := by omega
    have e2 : 0 + q.L.length * 1 + 1 * 1 = q.L.length + 1 := by omega
    have e3 : q.L.length * 1 = q.L.length := by omega
    have hcells : cs.take q.L.length ++ [AVal.sl false false (mI D)] = mS (q.L ++ [D]) := by rw [htk, mS_one, mS_append]
    refine ⟨.own j 0 q.L.length lb 1, ?_⟩
    dsimp only
    rw [if_pos rfl, hcs1]
    dsimp only
    by_cases hlt : q.L.length + 1 ≤ lb
    · rw [if_pos hlt, e2, e1, hcells]
      refine ⟨_, _, _, ⟨q.L ++ [D], some (j, lb)⟩, (((Hb ++ [c, .dead]).set j (.cells (mS (q.L ++ [D]) ++ cs.drop (q.L.length + 1)))).set 1 (.cells [.own j 0 (q.L.length + 1) lb 1])), h0, rfl, ⟨pr0, by omega⟩, rfl, rfl, ?_, by simp, by simp, fun i b hi => ?_, rfl, ⟨?_, ⟨mS (q.L ++ [D]) ++ cs.drop (q.L.length + 1), ?_, ?_, ?_⟩, by simp; omega, hj0, hj2⟩, fun i hi1 hi0 hi2 => ?_, fun LP h9 => ?_, ?_⟩
      · rw [List.getElem?_set_ne hj0, List.getElem?_append_left (by omega)]; exact h0
      · by_cases hi9 : i = Hb.length + 1
        · subst hi9
          rw [List.getElem?_set_ne (by omega), List.getElem?_set_ne (by omega), app_get] at hi
          left; simpa using hi.symm
        · right
          rw [← hi]
          have hap : (Hb ++ [c, Blk.hole])[i]? = (Hb ++ [c, Blk.dead])[i]? := by
            rw [List.getElem?_append, List.getElem?_append]
            split
            · rfl
            · by_cases h7 : i - Hb.length = 0
              · rw [h7]; rfl
              · have : 2 ≤ i - Hb.length := by omega
                rw [List.getElem?_eq_none (by simpa using this), List.getElem?_eq_none (by simpa using this)]
          rw [List.getElem?_set, List.getElem?_set, List.getElem?_set, List.getElem?_set, hap]
          simp
      · rw [List.getElem?_set_self (by simp)]; simp
      · rw [List.getElem?_set_ne (Ne.symm hj0), List.getElem?_set_self (by simp; omega)]
      · rw [List.length_append, mS_length]; simp; omega
      · rw [List.take_append_of_le_length (by rw [mS_length]; exact Nat.le_refl _), List.take_of_length_le (by rw [mS_length]; exact Nat.le_refl _)]
      · rw [List.getElem?_set_ne (Ne.symm hi0), List.getElem?_set_ne (fun h => hi2 lb (by rw [h])), List.getElem?_append_left hi1]
      · refine ((okc LP h9 .dead trivial).set (i := j) (b := .cells (mS (q.L ++ [D]) ++ cs.drop (q.L.length + 1))) ?_).set (b := .cells [.own j 0 (q.L.length + 1) lb 1]) (by simp [blkN, vid]; omega)
        have hb := h9.cells hcs
        show (bndL 0 _ || List.all _ _) = true
        rw [Bool.or_eq_true] at hb ⊢
        rcases hb with hb | hb
        · left
          rw [bndL_append, mS_bnd, Bool.true_and]
          exact bndL_of fun u hu => bndL_mem hb u (List.mem_of_mem_drop hu)
        · right
          rw [List.all_append, Bool.and_eq_true]
          exact ⟨List.all_eq_true.2 fun u hu => by obtain ⟨z, _, rfl⟩ := List.mem_map.1 hu; exact mI_bnd, List.all_eq_true.2 fun u hu => vid_mono (by simp) 2 u (List.all_eq_true.1 hb u (List.mem_of_mem_drop hu))⟩
      · intro i lb' hii
        simp at hii
        left; rw [hii.1, hii.2]
    · rw [if_neg hlt, e3, hcells]
      refine ⟨_, _, _, ⟨q.L ++ [D], some (Hb.length + 1, q.L.length + 1)⟩, (((Hb ++ [c, .cells (mS (q.L ++ [D]))]).set j .dead).set 1 (.cells [.own (Hb.length + 1) 0 (q.L.length + 1) (q.L.length + 1) 1])), h0, rfl, ⟨pr0, rfl, by omega, by rw [htk, mS_isCell]; trivial, by omega⟩, rfl, rfl, ?_, by simp, by simp, fun i b hi => .inr ?_, rfl, ⟨?_, ⟨mS (q.L ++ [D]), ?_, ?_, ?_⟩, by simp, by omega, by omega, by omega⟩, fun i hi1 hi0 hi2 => ?_, fun LP h9 => ?_, ?_⟩
      · rw [List.getElem?_set_ne (by omega), List.getElem?_set_ne hj0, List.getElem?_append_left (by omega)]; exact h0
      · rw [← hi]
        congr 2
        rw [List.set_comm _ _ (by omega), app_set]; rfl
      · rw [List.getElem?_set_self (by simp)]; simp
      · rw [List.getElem?_set_ne (by omega), List.getElem?_set_ne (by omega), app_get]; rfl
      · rw [mS_length]; simp
      · exact List.take_of_length_le (by rw [mS_length]; exact Nat.le_refl _)
      · rw [List.getElem?_set_ne (Ne.symm hi0), List.getElem?_set_ne (fun h => hi2 lb (by rw [h])), List.getElem?_append_left hi1]
      · exact ((okc LP h9 (.cells (mS (q.L ++ [D]))) (by simp [blkN, mS_bnd])).set (b := .dead) trivial).set (b := .cells [.own (Hb.length + 1) 0 (q.L.length + 1) (q.L.length + 1) 1]) (by simp [blkN, vid])
      · intro i lb' hii
        simp at hii
        right; omega

set_option maxHeartbeats 2000000 in
theorem y34 (g : Sp.Good w) (hwn : w.length = n) (h1 : 1 ≤ n) (hn : n ≤ 6) (f1 : fr.get 1 = ptr 0 0) (f4 : fr.get 4 = ptr 1 0) (hw : ∀ l ∈ w, l.length < 9223372036854775808) : YOk Try.prog (cl34 w fr) 3 n (fun (L : List (List Int)) D => D.length = n ∧ L.length ≤ 16777216) := by
  rintro q H k lb cs D ⟨hout, hL, hbox⟩ _ hok hmk hk htk hDn hle ⟨_, hbound⟩
  have lt : ∀ {H : AHeap} {j b}, H[j]? = some b → j < H.length := fun hj => (List.getElem?_eq_some_iff.1 hj).1
  have hmk' : k ≠ 1 ∧ k ≠ 3 ∧ k ≠ 0 := ⟨fun h => hmk (.inl h), fun h => hmk (.inr (.inl h)), fun h => hmk (.inr (.inr (.inl h)))⟩
  refine CallV.yldW mixed (L := 3) (fr := fr) (n := 38) (ps := [23]) hL t34R0a t34R0b rfl (by simp) ?_
  simp only [w34R0a, putArgs, go_sem, Nat.reduceEqDiff, Nat.reduceAdd, Nat.reduceLT, Nat.reduceLeDiff, reduceIte, reduceCtorEq]
  refine ⟨hL, ?_⟩
  have hLl := lt hL
  have hlp : ∀ LP, HOk LP H → LP 3 fr := fun LP h0 => h0 3 _ hL
  obtain ⟨Hb, hHb⟩ : ∃ Hb, H.set 3 (.loop .busy none fr 38 #[23] (asOf Try.f34 0) (bdOf Try.f34 0)) = Hb := ⟨_, rfl⟩
  have hbl : Hb.length = H.length := by rw [← hHb, List.length_set]
  have hb2 : Hb[3]? = some (lp34 .busy fr) := by rw [← hHb, List.getElem?_set_self hLl]; rfl
  have hbe : ∀ j, j ≠ 3 → Hb[j]? = H[j]? := fun j hj => by rw [← hHb, List.getElem?_set_ne (Ne.symm hj)]
  have hbk : Hb[k]? = some (.cells cs) := by rw [hbe k hmk'.2.1]; exact hk
  have hb0 : Hb[0]? = some (.cells [.sl false false (mS w)]) := by rw [hbe 0 (by omega)]; exact hbox
  have hbout : G34.out q Hb := by
    have h9 := hout
    unfold G34.out at h9 ⊢
    cases hj : q.j with
    | none => rw [hj] at h9; dsimp only at h9 ⊢; rw [hbe 1 (by omega)]; exact h9
    | some p =>
      obtain ⟨j, lb⟩ := p
      rw [hj] at h9
      dsimp only at h9 ⊢
      rw [hbe 1 (by omega), hbe j h9.2.2.2.2.1]; exact h9
  have okb : ∀ LP, HOk LP H → HOk LP Hb := fun LP h0 => by rw [← hHb]; exact h0.set (b := .loop .busy none fr 38 #[23] _ _) (hlp LP h0)
  rw [hHb]
  have toF : ∀ (q' : G34) (H3 : AHeap), q'.out H3 → 3 < H3.length → H.length ≤ H3.length → H3[0]? = some (.cells [.sl false false (mS w)]) → (∀ LP, HOk LP H → HOk LP H3) → (∀ j, j < H.length → j ≠ 1 → (∀ lb, q.j ≠ some (j, lb)) → H3[j]? = Hb[j]?) → (∀ j lb, q'.j = some (j, lb) → q.j = some (j, lb) ∨ H.length ≤ j) →
      (cl34 w fr).To H.length q H q' (H3.set 3 (lp34 .ready fr)) := by
    intro q' H3 gout h32 g3l gbox gok gkeep gown
    refine ⟨⟨?_, by rw [List.getElem?_set_self h32], by rw [List.getElem?_set_ne (by omega)]; exact gbox⟩, fun LP h0 => (gok LP h0).set (b := lp34 .ready fr) (hlp LP h0), by rw [List.length_set]; exact g3l, fun j hj hm => ?_, fun j hj => ?_⟩
    · have h9 := gout
      unfold G34.out at h9 ⊢
      cases hj : q'.j with
      | none => rw [hj] at h9; dsimp only at h9 ⊢; rw [List.getElem?_set_ne (by omega)]; exact h9
      | some p =>
        obtain ⟨j, lb⟩ := p
        rw [hj] at h9
        dsimp only at h9 ⊢
        rw [List.getElem?_set_ne (by omega), List.getElem?_set_ne (Ne.symm h9.2.2.2.2.1)]; exact h9
    · have hj1 : j ≠ 1 := fun h => hm (.inl h)
      have hj3 : j ≠ 3 := fun h => hm (.inr (.inl h))
      rw [List.getElem?_set_ne (Ne.symm hj3), gkeep j hj hj1 (fun lb h => hm (.inr (.inr (.inr ⟨lb, h⟩)))), hbe j hj3]
    · rcases hj with hj | hj | hj | ⟨lb, hj⟩
      · exact .inl (.inl hj)
      · exact .inl (.inr (.inl hj))
      · exact .inl (.inr (.inr (.inl hj)))
      · rcases gown j lb hj with h | h
        · exact .inl (.inr (.inr (.inr ⟨lb, h⟩)))
        · exact .inr h
  have h3b : 3 < Hb.length := by omega
  have hw6 : w.length < 9223372036854775808 := by omega
  simp only [w34R0b, f1, hb0, go_sem, Nat.reduceEqDiff, Nat.reduceAdd, Nat.reduceLT, Nat.reduceLeDiff, reduceIte, reduceCtorEq]
  have hlend : ∀ H' : AHeap, H'[k]? = some (.cells cs) → vle H' [] [] 3 (.own k 0 n lb 1) (.sl false false (mI D)) := fun H' hH => vle_mI hH (by simp) hDn.symm (by rw [htk])
  refine CallK.pure (CallV.of_spec (first := []) (cap := []) (Spec.lend (s38 w D hw hw6 (by omega)) rfl ⟨⟨mS_bnd, fun h => h, fun h => h, rfl⟩, hlend Hb hbk, trivial⟩)) ?_
  simp only [List.getD_cons_zero, List.getD_cons_succ, go_sem, Nat.reduceEqDiff, Nat.reduceAdd, Nat.reduceLT, Nat.reduceLeDiff, reduceIte, reduceCtorEq]
  refine IC.split (fun hc => ?_) fun hc => ?_
  · have hc : coreP w D = true := hc
    obtain ⟨ov, pr, v', H2, q', H3, g0, gA, gpr, gco, gcl, g20, g3l, g2l, gd, gL, gout, gkeep, gok, gown⟩ := gather hbout D hbound (by omega)
    have hlt0 : 1 < Hb.length := by omega
    have e0 : ∀ l : AHeap, (Hb ++ l)[1]? = some (.cells [ov]) := fun l => by rw [List.getElem?_append_left hlt0]; exact g0
    have eset : (Hb ++ [Blk.hole, Blk.hole]).set Hb.length (.cells [.sl false false (mI D)]) = Hb ++ [.cells [.sl false false (mI D)], .hole] := by rw [app_set0]; rfl
    have ehole0 : (Hb ++ [Blk.hole, Blk.hole])[Hb.length]? = some .hole := by rw [app_get0]; rfl
    have ehole1 : (Hb ++ [Blk.cells [AVal.sl false false (mI D)], .hole])[Hb.length + 1]? = some .hole := by rw [app_get]; rfl
    simp only [f4, e0, go_sem, Nat.reduceEqDiff, Nat.reduceAdd, Nat.reduceLT, Nat.reduceLeDiff, reduceIte, reduceCtorEq]
    refine ⟨by simp, CallKD.fills (by omega) (fun H' hf => CallV.of_spec (first := []) (cap := []) (Spec.lendInts (s43o false D (by omega) (by omega)) ⟨hlend H' (hf k _ (by rw [List.getElem?_append_left (lt hbk)]; exact hbk) (by simp)), trivial⟩)) ?_⟩
    simp only [↓SD_appB, Nat.add_zero, ehole0, eset, go_sem, Nat.reduceEqDiff, Nat.reduceAdd, Nat.reduceLT, Nat.reduceLeDiff, reduceIte, reduceCtorEq]
    have gA' : appB 1 24 ov (.own Hb.length 0 1 1 1) (Hb ++ [.cells [.sl false false (mI D)], .hole]) (Hb.length + 1) (fun H b => H.set (Hb.length + 1) b) = some (pr, v', H2) := gA
    rw [gA', ald_some]
    refine ⟨gpr, fun _ => ehole1, ?_⟩
    simp only [g20, gco, gcl, f4, go_sem, Nat.reduceEqDiff, Nat.reduceAdd, Nat.reduceLT, Nat.reduceLeDiff, reduceIte, reduceCtorEq]
    have gnot : ∀ j, j = 3 ∨ j = 0 → ∀ lb, q.j ≠ some (j, lb) := fun j hj lb h => by
      have h9 := hbout
      unfold G34.out at h9
      rw [h] at h9
      rcases hj with rfl | rfl
      · exact h9.2.2.2.2.1 rfl
      · exact h9.2.2.2.2.2 rfl
    have hto := toF q' H3 gout (by omega) (by omega) (by rw [gkeep 0 (by omega) (by omega) (gnot 0 (.inr rfl))]; exact hb0) (fun LP h0 => gok LP (okb LP h0)) (fun j hj h1 h2 => gkeep j (by omega) h1 h2) (fun j lb h => (gown j lb h).imp id fun h => by omega)
    have h22 : H3[3]? = some (lp34 .busy fr) := by
      rw [gkeep 3 (by omega) (by omega) (gnot 3 (.inl rfl))]
      exact hb2
    have hact : (H2.set 1 (.cells [v']))[3]? = some (lp34 .busy fr) := by
      rcases gd 3 _ h22 with h | h
      · cases h
      · exact h
    refine ⟨hact, idρ _, _, Wk.okD (fr' := []) (hto.hok _ hok) (by simp; omega) (fun i b hi => ?_) (fun _ _ h => h) (by simp; omega) (fun _ h => by cases h), rfl, q', ?_, fun _ => trivial, hto⟩
    · change (H3.set 3 (lp34 .ready fr))[i]? = some b at hi
      change b = .dead ∨ ((H2.set 1 (.cells [v'])).set 3 (lp34 .ready fr))[i]? = some b
      rw [List.getElem?_set] at hi ⊢
      split at hi
      · rename_i h; subst h
        rw [if_pos rfl]
        split at hi
        · rw [if_pos (by simp; omega)]; exact .inr hi
        · cases hi
      · rename_i h
        rw [if_neg h]
        exact gd i b hi
    · show q'.L = if coreP w D then q.L ++ [D] else q.L
      rw [hc, if_pos rfl]; exact gL
  · have hc : coreP w D = false := hc
    simp only [go_sem, Nat.reduceEqDiff, Nat.reduceAdd, Nat.reduceLT, Nat.reduceLeDiff, reduceIte, reduceCtorEq]
    have hto := toF q Hb hbout h3b (by omega) hb0 okb (fun _ _ _ _ => rfl) fun _ _ h => .inl h
    refine ⟨hb2, idρ _, _, Wk.ok (fr' := []) (ms := []) (hto.hok _ hok) (fun _ _ h => h) hto.len (fun _ h => by cases h) (fun _ h => by cases h), rfl, q, ?_, fun _ => trivial, hto⟩
    show q.L = if coreP w D then q.L ++ [D] else q.L
    rw [hc]; rfl
theorem run_core : ∀ (l L : List (List Int)), run (fun (_ : List (List Int)) (_ : List Int) => true) (fun (L : List (List Int)) D => if coreP w D then L ++ [D] else L) L l = (L ++ l.filter (coreP w), true)
  | [], L => by simp [run]
  | x :: l, L => by
    rw [run, if_pos rfl, run_core l]
    cases h : coreP w x <;> simp [h]
end
section
variable {c : Cl} {L n : Nat} {set : Int}
set_option maxHeartbeats 1000000 in
theorem s82c (hn : n ≤ 6) (h1 : 1 ≤ n) {dom : c.σ → List Int → Prop} (Y : YOk Try.prog c L n dom) {γ : c.Γ} {H : AHeap} (hdom : AheadOk c.go c.upd dom (c.val γ) (Sp.comps n set n 0 set [])) (hlive : c.live γ) (hok : HOk (LPb H.length) H) (hc : c.ok γ H) (hL : L < H.length) :
    Abs.Spec Try.prog 82 [.yld L, .rp [I n], .rp [I set]] H fun v H' => v = .tup [] ∧ ∃ γ', c.val γ' = (run c.go c.upd (c.val γ) (Sp.comps n set n 0 set [])).1 ∧ c.To H.length γ H γ' H' := by
  refine Abs.Spec.walk mixed fn82 nn82 t82 q82 nt82 (by simp) ?_
  have hD : DOk n set (List.replicate n 0) := ⟨by simp, fun x hx => by have := List.eq_of_mem_replicate hx; omega, fun j hj _ => by simp [List.getD_eq_getElem?_getD, hj]⟩
  simp only [w82, List.length_append, List.append_assoc, app_get, app_get0, app_set, app_set0, Nat.add_assoc, cells_yld, go_sem, Nat.reduceEqDiff, Nat.reduceAdd, Nat.reduceLT, Nat.reduceLeDiff, reduceIte, reduceCtorEq]
  refine ⟨⟨by omega, by omega, by omega⟩, ?_⟩
  have e : ∀ j, j < H.length → (H ++ [Blk.cells [yld L], .cells (mI (List.replicate n 0)), .cells [own (H.length + 1) 0 n n 1], .cells [growC H.length (H.length + 2) (H.length + 3) n set]])[j]? = H[j]? := fun j hj => List.getElem?_append_left hj
  have hto0 : c.To H.length γ H γ (H ++ [Blk.cells [yld L], .cells (mI (List.replicate n 0)), .cells [own (H.length + 1) 0 n n 1], .cells [growC H.length (H.length + 2) (H.length + 3) n set]]) :=
    Cl.To.write hc (by simp) (fun j hj => e j (c.lt γ H j hc hj)) e fun LP h0 => by
      have k1 := h0.push (b := .cells [yld L]) (by simp [blkN, vid]; omega)
      have k2 := k1.push (b := .cells (mI (List.replicate n 0))) (by simp [blkN, mI_bnd])
      have k3 := k2.push (b := .cells [own (H.length + 1) 0 n n 1]) (by simp [blkN, vid])
      have k4 := k3.push (b := .cells [growC H.length (H.length + 2) (H.length + 3) n set]) (by simp [blkN, vid, growC, bndL, AVal.bnd]; omega)
      simpa using k4
  have nm : ∀ j, H.length ≤ j → ¬ c.mine γ j := fun j hj hm => by have := c.lt γ H j hc hm; omega
  have hg0 : DSt c H.length L n H.length (H.length + 2) (H.length + 3) (H.length + 1) set (List.replicate n 0) γ (H ++ [Blk.cells [yld L], .cells (mI (List.replicate n 0)), .cells [own (H.length + 1) 0 n n 1], .cells [growC H.length (H.length + 2) (H.length + 3) n set]]) :=
    ⟨hto0.ok, by simp, by simp, by simp, by simp, nm _ (by omega), nm _ (by omega), nm _ (by omega), nm _ (by omega)⟩
  have hok1 := (hto0.hok _ hok).mono fun _ _ h => h.mono hto0.len
  refine CallK.by (CallV.of_spec (s83c hn (by omega) (Nat.le_refl _) ⟨by omega, by omega, by omega⟩ Y n 0 set (List.replicate n 0) γ _ (by omega) hD hdom hlive hok1 hg0)) fun v H' ⟨_, γ', D', hval, _, _, _, _, hto⟩ => ?_
  simp only [go_sem, Nat.reduceEqDiff, Nat.reduceAdd, Nat.reduceLT, Nat.reduceLeDiff, reduceIte, reduceCtorEq]
  have hto1 := hto0.trans hto
  exact leafN0 (LP := LPb H.length) (hto1.hok _ hok) (fun _ _ h => h) hto1.len ⟨rfl, γ', hval, hto1⟩
end

/-- All deals that no set blocks strongly. -/
def coreL (w : List (List Int)) : List (List Int) := (Sp.allDeals w.length).filter (coreP w)
def coreA (w : List (List Int)) : AVal := if Sp.valid w && decide (w.length ≤ 5) then .tup [.sl false false (mS (coreL w)), I 0] else .tup [.sl false false (mS []), I 2]
set_option maxHeartbeats 1000000 in
theorem s34 (w : List (List Int)) (hw : ∀ l ∈ w, l.length < 9223372036854775808) (hl : w.length < 9223372036854775808) : Abs.Spec Try.prog 34 [.sl false false (mS w)] [] fun v H' => H' = [] ∧ v = coreA w := by
  refine Abs.Spec.walk mixed fn34 nn34 t34 q34 nt34 (by simp) ?_
  simp only [w34R0a, w34R0b, w34T0, w34, go_sem, Nat.reduceEqDiff, Nat.reduceAdd, Nat.reduceLT, Nat.reduceLeDiff, reduceIte, reduceCtorEq]
  refine CallK.pure (liftV (s55 false false w hw hl) (by simp [bndL, AVal.bnd, mS_bnd]) rfl _) ?_
  cases hv : Sp.valid w with
  | false =>
    simp only [go_sem, Nat.reduceEqDiff, Nat.reduceAdd, Nat.reduceLT, Nat.reduceLeDiff, reduceIte, reduceCtorEq]
    exact leaf2 (.tup [.sl false false (mS []), I 2]) ⟨⟨rfl, rfl, rfl⟩, rfl, trivial⟩ ⟨rfl, by rw [coreA, hv]; rfl⟩
  | true =>
    by_cases h5 : w.length ≤ 5
    · have z5 : decide ((w.length : Int) > 5) = false := decide_eq_false (by omega)
      have g := Sp.valid_good hv
      have g1 := g.n1
      have hfull : IntKind.i64.wrap (IntKind.i64.wrap (1 * 2 ^ min (w.length : Nat) 64) - 1) = Sp.fullS w.length := by
        simp [Sp.fullS, Sp.shl1, IntKind.bits]
      simp only [mS_length, z5, hfull, go_sem, Nat.reduceEqDiff, Nat.reduceAdd, Nat.reduceLT, Nat.reduceLeDiff, reduceIte, reduceCtorEq]
      refine CallKD.pure (fun H => liftV (s63 w.length (Sp.fullS w.length)) (by simp [bndL, AVal.bnd]) (by simp [bndL, AVal.bnd]) H) ?_
      simp only [go_sem, Nat.reduceEqDiff, Nat.reduceAdd, Nat.reduceLT, Nat.reduceLeDiff, reduceIte, reduceCtorEq]
      generalize hfr : (List.cons (22, _) _ : Fr) = fr
      have f1 : Fr.get fr 1 = ptr 0 0 := by rw [← hfr]; rfl
      have f4 : Fr.get fr 4 = ptr 1 0 := by rw [← hfr]; rfl
      have f22 : Fr.get fr 22 = .fn (.func 82) [] [.rp [I w.length], .rp [I (Sp.fullS w.length)]] := by rw [← hfr]; rfl
      have hbnd : (fr.all fun q => q.2.bnd 4) = true := by rw [← hfr]; simp [AVal.bnd, bndL, mS_bnd]
      clear hfr
      refine W_range rfl f22 ?_
      have hcl : (cl34 w fr).ok ⟨[], none⟩ ([.cells [.sl false false (mS w)], .cells [nilSl]] ++ [.defs, lp34 .ready fr]) := ⟨⟨rfl, rfl⟩, rfl, rfl⟩
      have hok : HOk (LPb 4) ([.cells [.sl false false (mS w)], .cells [nilSl]] ++ [.defs, lp34 .ready fr]) := by
        have k1 := (HOk.nil (LP := LPb 4)).push (b := .cells [.sl false false (mS w)]) (by simp [blkN, AVal.bnd, bndL, mS_bnd])
        have k2 := k1.push (b := .cells [nilSl]) rfl
        have k3 := k2.push (b := .defs) trivial
        exact k3.push (b := lp34 .ready fr) ⟨by simp, hbnd⟩
      have hall : Sp.comps w.length (Sp.fullS w.length) w.length 0 (Sp.fullS w.length) [] = Sp.allDeals w.length := Sp.comps_all (by omega)
      have hflen : (Sp.allDeals w.length).length ≤ 46656 := Nat.le_trans (deals_len (by omega) w.length []) (Nat.pow_le_pow_right (by omega) (show w.length ≤ 6 by omega))
      refine (s82c (c := cl34 w fr) (by omega) g1 (y34 g rfl g1 (by omega) f1 f4 hw) (γ := ⟨[], none⟩) (fun pre E post he h2 => ?_) trivial hok hcl (by simp)).mono ?_
      · have hr : run (cl34 w fr).go (cl34 w fr).upd ((cl34 w fr).val ⟨[], none⟩) pre = (pre.filter (coreP w), true) := (run_core pre []).trans (by simp)
        rw [hr]
        rw [hall] at he
        refine ⟨(Sp.all_ok (show E ∈ Sp.allDeals w.length by rw [he]; simp)).1, ?_⟩
        rw [he] at hflen
        simp at hflen
        show (pre.filter (coreP w)).length ≤ _
        have := List.length_filter_le (coreP w) pre
        omega
      rintro v H' ⟨_, q, hval, hto⟩
      have hq : q.L = coreL w := by
        rw [hall] at hval
        have hr : run (cl34 w fr).go (cl34 w fr).upd ((cl34 w fr).val ⟨[], none⟩) (Sp.allDeals w.length) = (coreL w, true) := (run_core (Sp.allDeals w.length) []).trans (by simp [coreL])
        rw [hr] at hval
        exact hval
      obtain ⟨hout, hL, hbox⟩ := hto.ok
      have hm1 : H'[2]? = some .defs := by
        rw [hto.kept 2 (by simp) (fun h => by rcases h with h | h | h | ⟨lb, h⟩ <;> first | omega | cases h)]; rfl
      have hA : coreA w = .tup [.sl false false (mS (coreL w)), I 0] := by rw [coreA, hv, decide_eq_true h5]; rfl
      rw [hA]
      refine ⟨.ready, none, hL, (fun h => by cases h), ?_⟩
      show KQ _ _ .norm _ _ _ _
      unfold G34.out at hout
      cases hj : q.j with
      | none =>
        rw [hj] at hout
        have e1 : (H'.set 3 .dead)[1]? = some (.cells [nilSl]) := by rw [List.getElem?_set_ne (by omega)]; exact hout.1
        simp only [w34T0, f4, e1, go_sem, Nat.reduceEqDiff, Nat.reduceAdd, Nat.reduceLT, Nat.reduceLeDiff, reduceIte, reduceCtorEq]
        refine leafM2 (H' := (H'.set 3 .dead).set 2 .dead) (.tup [.sl false false (mS (coreL w)), I 0]) (by simp [killM, hm1]) ⟨⟨mS_bnd, rfl, by rw [← hq, hout.2]; rfl⟩, rfl, trivial⟩ ⟨rfl, rfl⟩
      | some p =>
        obtain ⟨j, lb⟩ := p
        rw [hj] at hout
        obtain ⟨h0, ⟨cs, hcs, hcl, htk⟩, hle, hj1, hj3, hj0⟩ := hout
        have hj2 : j ≠ 2 := fun h => by
          rcases hto.own j (.inr (.inr (.inr ⟨lb, hj⟩))) with (h9 | h9 | h9 | ⟨_, h9⟩) | h9
          · omega
          · omega
          · omega
          · cases h9
          · simp at h9; omega
        have e1 : (H'.set 3 .dead)[1]? = some (.cells [.own j 0 q.L.length lb 1]) := by rw [List.getElem?_set_ne (by omega)]; exact h0
        simp only [w34T0, f4, e1, go_sem, Nat.reduceEqDiff, Nat.reduceAdd, Nat.reduceLT, Nat.reduceLeDiff, reduceIte, reduceCtorEq]
        refine leafM2 (H' := (H'.set 3 .dead).set 2 .dead) (.tup [.sl false false (mS (coreL w)), I 0]) (by simp [killM, hm1]) ⟨?_, rfl, trivial⟩ ⟨rfl, rfl⟩
        exact vle_mS (cs := cs) (by rw [List.getElem?_set_ne (Ne.symm hj2), List.getElem?_set_ne (Ne.symm hj3)]; exact hcs) (by simp) (by rw [hq]) (by rw [← hq]; exact htk)
    · have z5 : decide ((w.length : Int) > 5) = true := decide_eq_true (by omega)
      simp only [mS_length, z5, go_sem, Nat.reduceEqDiff, Nat.reduceAdd, Nat.reduceLT, Nat.reduceLeDiff, reduceIte, reduceCtorEq]
      exact leaf2 (.tup [.sl false false (mS []), I 2]) ⟨⟨rfl, rfl, rfl⟩, rfl, trivial⟩ ⟨rfl, by rw [coreA, hv, decide_eq_false h5]; rfl⟩


end Go.Proofs.Ytkmmngphcodjjaa

namespace Go.Abs.Sp
theorem deals_nodup {n : Nat} : ∀ (m : Nat) (b o : List Int), b.Nodup → o ∈ dealsR n m b → o.Nodup
  | 0, b, o, hb, ho => by simp [dealsR] at ho; subst ho; exact hb
  | m + 1, b, o, hb, ho => by
    simp only [dealsR, List.mem_flatMap, List.mem_range] at ho
    obtain ⟨x, hx, ho⟩ := ho
    split at ho
    · cases ho
    · rename_i hnx
      refine deals_nodup m _ o (List.nodup_append.2 ⟨hb, by simp, ?_⟩) ho
      intro a ha b' hb' hab
      simp at hb'
      subst hb'; subst hab
      exact hnx ha
theorem all_order {n : Nat} (hn : n ≤ 6) {D : List Int} (h : D ∈ allDeals n) : isOrder D n = true := by
  obtain ⟨hl, hr⟩ := all_ok h
  rw [← all_eq (by omega), all, if_pos (allGo_of hn D 0 set0 hr (deals_nodup n [] D (by simp) h) fun x hx => has0 _ (by have := hr x hx; omega)), hl]; simp
end Go.Abs.Sp
namespace Go.Proofs.Ytkmmngphcodjjaa
open Go.Abs AVal
set_option linter.unusedSimpArgs false
attribute [local go_sem] W_skip W_keep KQ_canon canon Fr.norm W_seq W_block W_exit W_ret W_ops W_draw KQ_nil KQ_norm_seq KQ_exit_seq KQ_ret_seq KQ_norm_block KQ_ret_block KQ_exit_block KQ_exit_loop KQ_ret_loop O_nil O_cons S_call S_mv SE_mv SD_mv S_pick SE_pick SD_pick S_bin SE_bin SD_bin S_eqb SE_eqb SD_eqb S_eqv SE_eqv SD_eqv S_eqnil SE_eqnil SD_eqnil S_un SE_un SD_un S_conv SE_conv SD_conv S_mkfn SE_mkfn SD_mkfn S_load SE_load SD_load S_nilck SE_nilck SD_nilck S_slS SE_slS SD_slS S_slP SE_slP SD_slP S_fldA SE_fldA SD_fldA S_fld SE_fld SD_fld S_ixS SE_ixS SD_ixS S_ixP SE_ixP SD_ixP S_ixV SE_ixV SD_ixV S_ixStr SE_ixStr SD_ixStr S_ext SE_ext SD_ext S_len SE_len SD_len S_lenStr SE_lenStr SD_lenStr S_lenc SE_lenc SD_lenc S_mn SE_mn SD_mn S_mx SE_mx SD_mx S_build SE_build SD_build S_alloc SD_alloc S_box SD_box S_bslice SD_bslice S_mksl SD_mksl S_store SD_store S_append SD_append S_copy SD_copy S_clr SD_clr aq_some aa_some al_some aqd_some aad_some ald_some ape_some D_done D_both D_early D_step SE_call SD_call IOpd.ev Fr.get Fr.put Fr.putd entryFr pickA binA binI isSh shI eqbA eqvA ints ints_mI Option.map_some eqnilA unA convA loadA nilckA intA slSA slPA fldAA fldVA ixSA ixPA ixVA ixStrA extA lenA lenStrA mnA mxA AVal.fits fillA fillOk buildA opa srcA appA stoA copA clrA rdFree zeros List.length_nil List.length_cons List.length_map List.map_cons List.map_nil Option.map_some Option.map_none if_true if_false ite_true ite_false true_and and_true and_self implies_true forall_const true_implies Bool.false_eq_true Bool.not_true Bool.not_false decide_eq_true_eq decide_eq_false_iff_not eq_self List.getElem?_cons_zero List.getElem?_cons_succ List.getElem?_nil List.set_cons_zero List.set_cons_succ List.nil_append List.cons_append List.append_nil List.replicate_zero List.replicate_succ Nat.zero_add false_implies rng_lt rng_end rng_get cells_I cells_B cells_sl cut_one Int.toNat_natCast Int.natCast_nonneg List.headD_cons Int.lt_irrefl not_false_eq_true decide_false decide_true mI_length mI_cells mI_sz mI_isCell mI_mid mI_append mI_take mI_drop cells_val cells_own cells_agg isCell_I isCell_B isCell_nil isCell_sl isCell_own isCell_ptr isCell_fn isCell_rp isCell_yld cellsOk_I cellsOk_B cellsOk_nil cellsOk_sl cellsOk_own cellsOk_ptr cellsOk_fn cellsOk_rp cellsOk_yld cellsOk_agg cells_nil cells_ptr cells_fn cells_rp List.all_cons List.all_nil Bool.and_true Nat.mul_one Nat.zero_mul Nat.one_mul List.take_zero List.take_nil List.drop_nil List.drop_zero List.not_mem_nil Nat.le_refl Nat.zero_le mS_length mS_cells mS_sz mS_isCell mS_mid mS_append mS_take mS_drop cells_sI isCell_sI cellsOk_sI sI_eq succ_le_self' List.take_succ_cons List.drop_succ_cons List.take_length beq_self_eq_true List.mem_cons or_false forall_eq mI_put mI_rep O_guard' D_earlyG' D_stepG' W_cond' G_tt G_tf G_ft G_ff GE_tt GE_tf GE_ft GE_ff GS_tt GS_tf GS_ft GS_ff G_u GE_u GS_u IC_t IC_f xft xff xtt xtf z00 z20 z22 z02 zz tn0

theorem blockG_val (w : List (List Int)) (d : List Int) (st : Bool) : ∀ (m k : Nat), (blockG w d st k m).2 = 0 ∨ (blockG w d st k m).2 = 4
  | 0, k => .inr rfl
  | m + 1, k => by
    rw [blockG]
    split
    · exact .inl rfl
    · exact blockG_val w d st m (k + 1)
/-- No set blocks the deal strongly, as the reference asks it. -/
def coreQ (w : List (List Int)) (D : List Int) : Bool := (blockG w D true 1 (2 ^ w.length - 1)).2 != 0
theorem coreQ_eq {w : List (List Int)} (hv : Sp.valid w = true) {D : List Int} (hD : D ∈ Sp.allDeals w.length) : coreP w D = coreQ w D := by
  have g := Sp.valid_good hv
  rw [coreP, coreQ, blockA, hv, Sp.all_order g.n6 hD]
  rcases blockG_val w D true (2 ^ w.length - 1) 1 with h | h <;> simp [h]

set_option maxHeartbeats 1000000 in
theorem s47o (w : List (List Int)) (g : Sp.Good w) (h5 : w.length ≤ 5) : Abs.Spec Try.prog 47 [.sl false false (mS w)] [] fun v H' => v = .own 0 0 ((Sp.allDeals w.length).filter (coreQ w)).length ((Sp.allDeals w.length).filter (coreQ w)).length 1 ∧ H' = [.cells (mS ((Sp.allDeals w.length).filter (coreQ w)))] := by
  refine Abs.Spec.walk mixed fn47 nn47 t47 q47 nt47 (by simp) ?_
  have g1 := g.n1
  obtain ⟨m, hm⟩ : ∃ m, w.length = m + 1 := ⟨w.length - 1, by omega⟩
  have h64 : Abs.Spec Try.prog 64 [I w.length, nilSl] [] fun v H' => H' = [] ∧ v = .sl false false (mS (Sp.allDeals w.length)) := by
    have := s64nil (n := w.length) (by omega) m hm.symm
    rw [← hm] at this
    exact this
  simp only [w47, mS_length, go_sem, Nat.reduceEqDiff, Nat.reduceAdd, Nat.reduceLT, Nat.reduceLeDiff, reduceIte, reduceCtorEq]
  refine CallK.by (CallV.of_spec h64) fun v H' ⟨h1, h2⟩ => ?_
  subst h1 h2
  have hl : (Sp.allDeals w.length).length ≤ 46656 := Nat.le_trans (deals_len (by omega) w.length []) (Nat.pow_le_pow_right (by omega) (show w.length ≤ 6 by omega))
  have hmem : ∀ D ∈ Sp.allDeals w.length, D.length = w.length ∧ ∀ x ∈ D, 0 ≤ x ∧ x < w.length := fun D hD => Sp.all_ok hD
  generalize Sp.allDeals w.length = L at hl hmem ⊢
  simp only [mS_length, go_sem, Nat.reduceEqDiff, Nat.reduceAdd, Nat.reduceLT, Nat.reduceLeDiff, reduceIte, reduceCtorEq]
  refine W_loop (fun q : { i : Nat // i ≤ L.length } => ([(0, .sl false false (mS w)), (3, own 0 0 ((L.take q.1).filter (coreQ w)).length ((L.take q.1).filter (coreQ w)).length 1), (10, .sl false false (mS L)), (11, I L.length), (12, I q.1)], [.cells (mS ((L.take q.1).filter (coreQ w)))])) (fun q => L.length - q.1)
    ⟨0, by omega⟩ [none] (Wk.mk0 rfl (by simp [imgs, Blk.alive]) (by simp [hle, mS]) (by simp [fle, vle, Fr.get, mS_bnd])) ?_
  rintro ⟨i, hi⟩
  dsimp only
  by_cases hil : i < L.length
  · have hz : decide ((i : Int) < L.length) = true := decide_eq_true (by omega)
    have hil' : (i : Int) < L.length := by omega
    have hwk : IntKind.i64.wrap ((i : Int) + 1) = ((i + 1 : Nat) : Int) := by rw [wrap64 (by omega) (by omega)]; rfl
    obtain ⟨D, hD⟩ : ∃ D, L.getD i [] = D := ⟨_, rfl⟩
    have hDm : D ∈ L := by rw [← hD, List.getD_eq_getElem?_getD, List.getElem?_eq_getElem hil]; exact List.getElem_mem _
    obtain ⟨hDl, hDr⟩ := hmem D hDm
    have htk : L.take (i + 1) = L.take i ++ [D] := by
      rw [List.take_add_one, List.getElem?_eq_getElem hil]
      rw [List.getD_eq_getElem?_getD, List.getElem?_eq_getElem hil] at hD
      simp at hD; rw [hD]; rfl
    have h41 := s41 w D g hDl hDr
    have hsm := List.length_filter_le (coreQ w) (L.take i)
    have htl : (L.take i).length ≤ L.length := by rw [List.length_take]; omega
    simp only [w47L0, hz, hil', mS_get, hil, hD, go_sem, Nat.reduceEqDiff, Nat.reduceAdd, Nat.reduceLT, Nat.reduceLeDiff, reduceIte, reduceCtorEq]
    refine CallK.pure (liftV h41 (by simp [bndL, AVal.bnd, mI_bnd, mS_bnd]) rfl _) ?_
    simp only [List.getD_cons_zero, List.getD_cons_succ, go_sem, Nat.reduceEqDiff, Nat.reduceAdd, Nat.reduceLT, Nat.reduceLeDiff, reduceIte, reduceCtorEq]
    refine IC.split (fun h => ?_) fun h => ?_
    · have h : coreQ w D = true := h
      have hf : (L.take (i + 1)).filter (coreQ w) = (L.take i).filter (coreQ w) ++ [D] := by
        rw [htk, List.filter_append]; simp [h]
      simp only [hwk, go_sem, Nat.reduceEqDiff, Nat.reduceAdd, Nat.reduceLT, Nat.reduceLeDiff, reduceIte, reduceCtorEq]
      refine ⟨by omega, ?_⟩
      refine round1 rfl ⟨i + 1, by omega⟩ [some 2] (by dsimp only; omega) ?_
      dsimp only
      rw [hf]
      exact Wk.one rfl (by rw [mS_one, mS_append]) mS_bnd (by simp [fle, vle, Fr.get, mS_bnd])
    · have h : coreQ w D = false := h
      have hf : (L.take (i + 1)).filter (coreQ w) = (L.take i).filter (coreQ w) := by
        rw [htk, List.filter_append]; simp [h]
      simp only [hwk, go_sem, Nat.reduceEqDiff, Nat.reduceAdd, Nat.reduceLT, Nat.reduceLeDiff, reduceIte, reduceCtorEq]
      refine round1 rfl ⟨i + 1, by omega⟩ [some 0] (by dsimp only; omega) ?_
      dsimp only
      rw [hf]
      exact Wk.one rfl rfl mS_bnd (by simp [fle, vle, Fr.get, mS_bnd])
  · have hz : decide ((i : Int) < L.length) = false := decide_eq_false (by omega)
    obtain rfl : i = L.length := by omega
    rw [List.take_length]
    simp only [w47L0, hz, w47T1, go_sem, Nat.reduceEqDiff, Nat.reduceAdd, Nat.reduceLT, Nat.reduceLeDiff, reduceIte, reduceCtorEq]
    exact leafO _ _ [some 0] (Wk.one rfl rfl mS_bnd (by simp [fle, vle, Fr.get])) ⟨rfl, rfl⟩
theorem take_mS' {l : List (List Int)} : (mS l).take l.length = mS l := List.take_of_length_le (by rw [mS_length]; exact Nat.le_refl _)
theorem s47 (w : List (List Int)) (hv : Sp.valid w = true) (h5 : w.length ≤ 5) : Abs.Spec Try.prog 47 [.sl false false (mS w)] [] fun v H' => H' = [] ∧ v = .sl false false (mS (coreL w)) := by
  have e : (Sp.allDeals w.length).filter (coreQ w) = coreL w := List.filter_congr fun D hD => (coreQ_eq hv hD).symm
  have := Spec.frozen (s47o w (Sp.valid_good hv) h5) (by omega) mS_bnd mS_length (by rw [mS_sz]; trivial) (by rw [Nat.mul_one, take_mS', mS_cells])
  rwa [e] at this
theorem s46 (a b : List (List Int)) (ha : ∀ l ∈ a, l.length < 9223372036854775808) (hl : a.length < 9223372036854775808) (hl' : b.length < 9223372036854775808) : Abs.Spec Try.prog 46 [.sl false false (mS a), .sl false false (mS b), .fn (.func 20) [] []] [] fun v H' => H' = [] ∧ v = B (a == b) := by
  refine Abs.Spec.walk mixed fn46 nn46 t46 q46 nt46 (by simp) ?_
  have e : ((a.length : Int) != b.length) = !decide (a.length = b.length) := by
    by_cases h : a.length = b.length
    · simp [h]
    · rw [decide_eq_false h, bne_iff_ne.2 (by omega)]; rfl
  simp only [w46, e, go_sem, Nat.reduceEqDiff, Nat.reduceAdd, Nat.reduceLT, Nat.reduceLeDiff, reduceIte, reduceCtorEq]
  refine IC.split (fun h => ?_) fun h => ?_
  · have h : a.length ≠ b.length := by simpa using h
    simp only [go_sem, Nat.reduceEqDiff, Nat.reduceAdd, Nat.reduceLT, Nat.reduceLeDiff, reduceIte, reduceCtorEq]
    exact leaf (B _) rfl ⟨rfl, by congr 1; symm; rw [beq_eq_false_iff_ne]; rintro rfl; exact h rfl⟩
  have h : a.length = b.length := by simpa using h
  simp only [go_sem, Nat.reduceEqDiff, Nat.reduceAdd, Nat.reduceLT, Nat.reduceLeDiff, reduceIte, reduceCtorEq]
  refine W_loop (fun q : { i : Nat // i ≤ a.length ∧ a.take i = b.take i } => ([(1, .sl false false (mS b)), (2, .fn (.func 20) [] []), (15, .sl false false (mS a)), (16, I a.length), (17, I q.1)], [])) (fun q => a.length - q.1) ⟨0, by omega, rfl⟩ [] (Wk.nil (by simp [fle, vle, vle.vleL, Fr.get, mS_bnd])) ?_
  rintro ⟨i, hi, htk⟩
  dsimp only
  by_cases hil : i < a.length
  · have hz : decide ((i : Int) < a.length) = true := decide_eq_true (by omega)
    have hil' : (i : Int) < a.length := by omega
    have hib : i < b.length := by omega
    have hib' : (i : Int) < b.length := by omega
    have hwk : IntKind.i64.wrap ((i : Int) + 1) = ((i + 1 : Nat) : Int) := by rw [wrap64 (by omega) (by omega)]; rfl
    obtain ⟨x, hx⟩ : ∃ x, a.getD i [] = x := ⟨_, rfl⟩
    obtain ⟨y, hy⟩ : ∃ y, b.getD i [] = y := ⟨_, rfl⟩
    have hx' : a[i] = x := by rw [← hx, List.getD_eq_getElem?_getD, List.getElem?_eq_getElem hil]; rfl
    have hy' : b[i] = y := by rw [← hy, List.getD_eq_getElem?_getD, List.getElem?_eq_getElem hib]; rfl
    have hxl := ha x (by rw [← hx']; exact List.getElem_mem _)
    simp only [w46L0, hz, hil', mS_get, hil, hx, hib, hib', hy, go_sem, Nat.reduceEqDiff, Nat.reduceAdd, Nat.reduceLT, Nat.reduceLeDiff, reduceIte, reduceCtorEq]
    refine CallK.pure (liftV (s20 false false false false x y hxl) (by simp [bndL, AVal.bnd, mI_bnd]) rfl _) ?_
    simp only [go_sem, Nat.reduceEqDiff, Nat.reduceAdd, Nat.reduceLT, Nat.reduceLeDiff, reduceIte, reduceCtorEq]
    refine IC.split (fun hc => ?_) fun hc => ?_
    · have hc : (x == y) = false := by simpa using hc
      simp only [go_sem, Nat.reduceEqDiff, Nat.reduceAdd, Nat.reduceLT, Nat.reduceLeDiff, reduceIte, reduceCtorEq]
      exact leaf (B _) rfl ⟨rfl, by congr 1; symm; rw [beq_eq_false_iff_ne]; rintro rfl; rw [← hx', ← hy'] at hc; simp at hc⟩
    · have hc : x = y := by simpa using hc
      simp only [hwk, go_sem, Nat.reduceEqDiff, Nat.reduceAdd, Nat.reduceLT, Nat.reduceLeDiff, reduceIte, reduceCtorEq]
      refine round0 rfl ⟨i + 1, by omega, by rw [List.take_add_one, List.take_add_one, htk, List.getElem?_eq_getElem hil, List.getElem?_eq_getElem hib, hx', hy', hc]⟩ (by dsimp only; omega) rfl ?_
      simp [fle, vle, vle.vleL, Fr.get, mS_bnd]
  · have hz : decide ((i : Int) < a.length) = false := decide_eq_false (by omega)
    obtain rfl : i = a.length := by omega
    simp only [w46L0, hz, w46T1, go_sem, Nat.reduceEqDiff, Nat.reduceAdd, Nat.reduceLT, Nat.reduceLeDiff, reduceIte, reduceCtorEq]
    exact leaf (B _) rfl ⟨rfl, by rw [List.take_length, h, List.take_length] at htk; rw [htk]; simp⟩

theorem coreL_len {w : List (List Int)} (h6 : w.length ≤ 6) : (coreL w).length ≤ 46656 := Nat.le_trans (List.length_filter_le _ _) (Nat.le_trans (deals_len h6 w.length []) (Nat.pow_le_pow_right (by omega) h6))
set_option maxHeartbeats 1000000 in
theorem s12 (w : List (List Int)) (hw : ∀ l ∈ w, l.length < 9223372036854775808) (hl : w.length < 9223372036854775808) : Abs.Spec Try.prog 12 [.sl false false (mS w)] [] fun v H' => H' = [] ∧ v = B true := by
  obtain ⟨hw', hl'⟩ := tab_len hw hl
  have e19 : ∀ H, CallV Try.prog (.fn (.func 19) [] []) [] H fun v H' => v = B true ∧ H' = H := fun H => liftV s19 rfl rfl H
  refine Abs.Spec.walk mixed fn12 nn12 t12 q12 nt12 (by simp) ?_
  simp only [w12, go_sem, Nat.reduceEqDiff, Nat.reduceAdd, Nat.reduceLT, Nat.reduceLeDiff, reduceIte, reduceCtorEq]
  refine CallK.by (CallV.of_spec (s16 false false w hw hl)) fun v H' ⟨h1, h2⟩ => ?_
  subst h1 h2
  simp only [go_sem, Nat.reduceEqDiff, Nat.reduceAdd, Nat.reduceLT, Nat.reduceLeDiff, reduceIte, reduceCtorEq]
  refine CallK.by (CallV.of_spec (s34 (Sp.table w) hw' hl')) fun v H' ⟨h1, h2⟩ => ?_
  subst h1 h2
  rw [coreA, Sp.table_valid]
  have z02 : (((0 : Nat) : Int) == 0) = true := rfl
  have z23 : ((2 : Int) == 2) = true := rfl
  have z00' : ((0 : Int) == 0) = true := rfl
  cases hv : Sp.valid w with
  | false =>
    rw [Bool.false_and, if_neg (by simp)]
    simp only [List.getD_cons_zero, List.getD_cons_succ, go_sem, Nat.reduceEqDiff, Nat.reduceAdd, Nat.reduceLT, Nat.reduceLeDiff, reduceIte, reduceCtorEq]
    refine CallK.by (CallV.of_spec (s18 false false w hw hl)) fun v H' ⟨h1, h2⟩ => ?_
    subst h1 h2
    rw [Sp.wishes_valid, hv]
    simp only [mS_length, z02, z23, go_sem, Nat.reduceEqDiff, Nat.reduceAdd, Nat.reduceLT, Nat.reduceLeDiff, reduceIte, reduceCtorEq]
    refine CallK.pure (e19 _) ?_
    simp only [go_sem, Nat.reduceEqDiff, Nat.reduceAdd, Nat.reduceLT, Nat.reduceLeDiff, reduceIte, reduceCtorEq]
    exact leaf (B true) rfl ⟨rfl, rfl⟩
  | true =>
    rw [Sp.take_valid w hv]
    by_cases h5 : w.length ≤ 5
    · have z5 : decide ((w.length : Int) > 5) = false := decide_eq_false (by omega)
      rw [decide_eq_true h5, Bool.and_self, if_pos rfl]
      simp only [List.getD_cons_zero, List.getD_cons_succ, go_sem, Nat.reduceEqDiff, Nat.reduceAdd, Nat.reduceLT, Nat.reduceLeDiff, reduceIte, reduceCtorEq]
      refine CallK.by (CallV.of_spec (s18 false false w hw hl)) fun v H' ⟨h1, h2⟩ => ?_
      subst h1 h2
      rw [Sp.wishes_valid, hv]
      simp only [mS_length, z5, go_sem, Nat.reduceEqDiff, Nat.reduceAdd, Nat.reduceLT, Nat.reduceLeDiff, reduceIte, reduceCtorEq]
      refine CallK.by (CallV.of_spec (s47 w hv h5)) fun v H' ⟨h1, h2⟩ => ?_
      subst h1 h2
      have hcl := coreL_len (show w.length ≤ 6 by omega)
      simp only [go_sem, Nat.reduceEqDiff, Nat.reduceAdd, Nat.reduceLT, Nat.reduceLeDiff, reduceIte, reduceCtorEq]
      refine CallK.by (CallV.of_spec (s46 (coreL w) (coreL w) (fun l hm => by have := (Sp.all_ok (List.mem_filter.1 hm).1).1; omega) (by omega) (by omega))) fun v H' ⟨h1, h2⟩ => ?_
      subst h1 h2
      rw [beq_self_eq_true]
      simp only [z00', go_sem, Nat.reduceEqDiff, Nat.reduceAdd, Nat.reduceLT, Nat.reduceLeDiff, reduceIte, reduceCtorEq]
      refine CallK.pure (e19 _) ?_
      simp only [go_sem, Nat.reduceEqDiff, Nat.reduceAdd, Nat.reduceLT, Nat.reduceLeDiff, reduceIte, reduceCtorEq]
      exact leaf (B true) rfl ⟨rfl, rfl⟩
    · have z5 : decide ((w.length : Int) > 5) = true := decide_eq_true (by omega)
      rw [decide_eq_false h5, Bool.and_false, if_neg (by simp)]
      simp only [List.getD_cons_zero, List.getD_cons_succ, go_sem, Nat.reduceEqDiff, Nat.reduceAdd, Nat.reduceLT, Nat.reduceLeDiff, reduceIte, reduceCtorEq]
      refine CallK.by (CallV.of_spec (s18 false false w hw hl)) fun v H' ⟨h1, h2⟩ => ?_
      subst h1 h2
      rw [Sp.wishes_valid, hv]
      simp only [mS_length, z5, z02, z23, go_sem, Nat.reduceEqDiff, Nat.reduceAdd, Nat.reduceLT, Nat.reduceLeDiff, reduceIte, reduceCtorEq]
      refine CallK.pure (e19 _) ?_
      simp only [go_sem, Nat.reduceEqDiff, Nat.reduceAdd, Nat.reduceLT, Nat.reduceLeDiff, reduceIte, reduceCtorEq]
      exact leaf (B true) rfl ⟨rfl, rfl⟩
end Go.Proofs.Ytkmmngphcodjjaa
