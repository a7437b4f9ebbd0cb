/- Contracts: all moves with numbers up to a bound, gathered. -/
import Derived.Test.YtipfjfmdjmaflaaLC
namespace Go.Proofs.Ytipfjfmdjmaflaa
open Go.Abs AVal
set_option linter.unusedSimpArgs false
attribute [local go_sem] W_skip W_keep KQ_canon canon Fr.norm W_seq W_block W_scope W_exit W_ret W_ops W_draw KQ_nil KQ_norm_seq KQ_exit_seq KQ_ret_seq KQ_norm_block KQ_ret_block KQ_exit_block KQ_exit_loop KQ_ret_loop O_nil O_cons S_call S_mv SE_mv SD_mv S_pick SE_pick SD_pick S_bin SE_bin SD_bin S_eqb SE_eqb SD_eqb S_eqv SE_eqv SD_eqv S_eqnil SE_eqnil SD_eqnil S_un SE_un SD_un S_conv SE_conv SD_conv S_mkfn SE_mkfn SD_mkfn S_load SE_load SD_load S_nilck SE_nilck SD_nilck S_slS SE_slS SD_slS S_slP SE_slP SD_slP S_fldA SE_fldA SD_fldA S_fld SE_fld SD_fld S_ixS SE_ixS SD_ixS S_ixP SE_ixP SD_ixP S_ixV SE_ixV SD_ixV S_ixStr SE_ixStr SD_ixStr S_ext SE_ext SD_ext S_len SE_len SD_len S_lenStr SE_lenStr SD_lenStr S_lenc SE_lenc SD_lenc S_mn SE_mn SD_mn S_mx SE_mx SD_mx S_build SE_build SD_build S_alloc SD_alloc S_box SD_box S_bslice SD_bslice S_mksl SD_mksl S_store SD_store S_append SD_append S_copy SD_copy S_clr SD_clr aq_some aa_some al_some aqd_some aad_some ald_some ape_some D_done D_both D_early D_step SE_call SD_call IOpd.ev Fr.get Fr.put Fr.putd entryFr pickA binA binI isSh shI eqbA eqvA ints ints_mI Option.map_some eqnilA unA convA loadA nilckA intA slSA slPA fldAA fldVA ixSA ixPA ixVA ixStrA extA lenA lenStrA mnA mxA AVal.fits fillA fillOk buildA opa srcA appA stoA copA clrA rdFree zeros List.length_nil List.length_cons List.length_map List.map_cons List.map_nil Option.map_some Option.map_none if_true if_false ite_true ite_false true_and and_true and_self implies_true forall_const true_implies Bool.false_eq_true Bool.not_true Bool.not_false decide_eq_true_eq decide_eq_false_iff_not eq_self List.getElem?_cons_zero List.getElem?_cons_succ List.getElem?_nil List.set_cons_zero List.set_cons_succ List.nil_append List.cons_append List.append_nil List.replicate_zero List.replicate_succ Nat.zero_add false_implies rng_lt rng_end rng_get cells_I cells_B cells_sl cut_one Int.toNat_natCast Int.natCast_nonneg List.headD_cons Int.lt_irrefl not_false_eq_true decide_false decide_true mI_length mI_cells mI_sz mI_isCell mI_mid mI_append mI_take mI_drop cells_val cells_own cells_agg isCell_I isCell_B isCell_nil isCell_sl isCell_own isCell_ptr isCell_fn isCell_rp isCell_yld cellsOk_I cellsOk_B cellsOk_nil cellsOk_sl cellsOk_own cellsOk_ptr cellsOk_fn cellsOk_rp cellsOk_yld cellsOk_agg cells_nil cells_ptr cells_fn cells_rp List.all_cons List.all_nil Bool.and_true Nat.mul_one Nat.zero_mul Nat.one_mul List.take_zero List.take_nil List.drop_nil List.drop_zero List.not_mem_nil Nat.le_refl Nat.zero_le mS_length mS_cells mS_sz mS_isCell mS_mid mS_append mS_take mS_drop cells_sI isCell_sI cellsOk_sI sI_eq succ_le_self' List.take_succ_cons List.drop_succ_cons List.take_length beq_self_eq_true List.mem_cons or_false forall_eq mI_put mI_rep O_guard' D_earlyG' D_stepG' W_cond' G_tt G_tf G_ft G_ff GE_tt GE_tf GE_ft GE_ff GS_tt GS_tf GS_ft GS_ff G_u GE_u GS_u IC_t IC_f xft xff xtt xtf z00 z20 z22 z02 zz tn0

/-- What was found lies in a slice of its own, that a cell holds. -/
structure Mvs (mv : Nat) (vs : List (List Int)) (id : Option Nat) (H : AHeap) : Prop where
  h4 : ∀ v ∈ vs, v.length = 4
  cell : H[mv]? = some (.cells [match id with | none => nilSl | some k => .own k 0 vs.length vs.length 4])
  emp : id = none → vs = []
  blk : ∀ k, id = some k → k ≠ mv ∧ H[k]? = some (.cells (mI vs.flatten))
/-- How the heap is behind something that was found: below b all else stays. -/
structure MTo (b mv : Nat) (id : Option Nat) (H : AHeap) (id' : Option Nat) (H' : AHeap) : Prop where
  hok : ∀ LP, HOk LP H → HOk LP H'
  len : H.length ≤ H'.length
  kept : ∀ j, j < b → j ≠ mv → id ≠ some j → H'[j]? = H[j]?
  own : ∀ j, id' = some j → id = some j ∨ b ≤ j
theorem MTo.refl {b mv : Nat} {id : Option Nat} {H : AHeap} : MTo b mv id H id H := ⟨fun _ h => h, Nat.le_refl _, fun _ _ _ _ => rfl, fun _ h => .inl h⟩
theorem MTo.trans {b mv : Nat} {i0 i1 i2 : Option Nat} {H H1 H2 : AHeap} (h : MTo b mv i0 H i1 H1) (k : MTo b mv i1 H1 i2 H2) : MTo b mv i0 H i2 H2 :=
  ⟨fun LP h0 => k.hok LP (h.hok LP h0), Nat.le_trans h.len k.len, fun j hj hm hi => by
    rw [k.kept j hj hm fun e => (h.own j e).elim hi fun hb => by omega]; exact h.kept j hj hm hi, fun j hj => (k.own j hj).elim (h.own j) .inr⟩
theorem MTo.le {b b' mv : Nat} {i0 i1 : Option Nat} {H H1 : AHeap} (h : MTo b mv i0 H i1 H1) (hb : b' ≤ b) : MTo b' mv i0 H i1 H1 :=
  ⟨h.hok, h.len, fun j hj => h.kept j (by omega), fun j hj => (h.own j hj).imp id fun h => by omega⟩
theorem Mvs.keep {mv : Nat} {vs : List (List Int)} {id : Option Nat} {H H' : AHeap} (h : Mvs mv vs id H) (hm : H'[mv]? = H[mv]?) (hi : ∀ k, id = some k → H'[k]? = H[k]?) : Mvs mv vs id H' :=
  ⟨h.h4, by rw [hm]; exact h.cell, h.emp, fun k hk => by rw [hi k hk]; exact h.blk k hk⟩

theorem _root_.Go.Abs.HOk.pushI {LP : Nat → Fr → Prop} {H : AHeap} (h : HOk LP H) (x : List Int) : HOk LP (H ++ [Blk.cells (mI x)]) := h.push (by simp [blkN, mI_bnd])
set_option maxHeartbeats 1000000 in
theorem s113 (mv : Nat) (vs : List (List Int)) (id : Option Nat) (H : AHeap) (x : List Int) (hx : x.length = 4) (hl : vs.length < 1073741824) (hok : HOk (LPb H.length) H) (hm : Mvs mv vs id H) :
    Abs.Spec Try.prog 113 [vec x, .ptr mv 0] H fun v H' => v = .tup [] ∧ ∃ id', Mvs mv (vs ++ [x]) id' H' ∧ MTo H.length mv id H id' H' := by
  have lt : ∀ {H : AHeap} {j b}, H[j]? = some b → j < H.length := fun hj => (List.getElem?_eq_some_iff.1 hj).1
  have hml := lt hm.cell
  have hpl : (mI x).length = 4 := by rw [mI_length, hx]
  have hac := allI_cell x
  have dz : mI x ++ List.drop 4 [[I 0, I 0, I 0, I 0]].flatten = mI x := by simp
  have tk : (mI x).take 4 = mI x := List.take_of_length_le (by omega)
  have h4' : ∀ v ∈ vs ++ [x], v.length = 4 := fun v hv => by
    rcases List.mem_append.1 hv with hv | hv
    · exact hm.h4 v hv
    · simp at hv; subst hv; exact hx
  refine Abs.Spec.walk mixed fn113 nn113 t113 q113 nt113 (by simp) ?_
  cases id with
  | none =>
    obtain rfl := hm.emp rfl
    have hc : H[mv]? = some (.cells [nilSl]) := hm.cell
    have g1 : (H ++ [.cells (mI x)])[mv]? = some (.cells [nilSl]) := by rw [List.getElem?_append_left hml]; exact hc
    have g2 : (H ++ [.cells (mI x)])[H.length]? = some (.cells (mI x)) := by simp
    have g3 : cut true 4 (mI x) = vec x := cut_vec hx
    have g4 : (H ++ [.cells (mI x)] ++ [.cells (mI x)])[mv]? = some (.cells [nilSl]) := by rw [List.getElem?_append_left (by simp; omega)]; exact g1
    have g5 : (H ++ [.cells (mI x)] ++ [.cells (mI x)])[(H ++ [Blk.cells (mI x)]).length]? = some (.cells (mI x)) := by simp
    have g7 : (H ++ [.cells (mI x)] ++ [.cells (mI x)] ++ [.cells (mI x)])[mv]? = some (.cells [nilSl]) := by rw [List.getElem?_append_left (by simp; omega)]; exact g4
    simp only [w113, g1, hpl, vec_eq, g2, g3, g4, g5, dz, tk, g7, go_sem, Nat.reduceEqDiff, Nat.reduceAdd, Nat.reduceLT, Nat.reduceLeDiff, reduceIte, reduceCtorEq]
    have n2 : (H ++ [Blk.cells (mI x)] ++ [Blk.cells (mI x)]).length = H.length + 2 := by simp
    rw [n2]
    have hfin : ∀ LP, HOk LP H → HOk LP ((H ++ [Blk.cells (mI x)] ++ [Blk.cells (mI x)] ++ [Blk.cells (mI x)]).set mv (.cells [own (H.length + 2) 0 1 1 4])) := fun LP h => ((h.pushI x).pushI x |>.pushI x).set (by simp [blkN, vid])
    refine ⟨hac, by decide, leafN0 (LP := LPb H.length) (hfin _ hok) (fun _ _ h => h) (by simp) ⟨rfl, some (H.length + 2), ⟨h4', ?_, fun h => by (cases h), fun k hk => ?_⟩, ⟨hfin, by simp, fun j hj hjm _ => ?_, fun j hj => .inr (by cases hj; omega)⟩⟩⟩
    · rw [List.getElem?_set_self (by simp; omega)]; rfl
    · cases hk
      exact ⟨by omega, by rw [List.getElem?_set_ne (by omega), List.getElem?_append_right (by simp)]; simp⟩
    · rw [List.getElem?_set_ne (by omega), List.getElem?_append_left (by simp; omega), List.getElem?_append_left (by simp; omega), List.getElem?_append_left hj]
  | some k =>
    obtain ⟨hkm, hk⟩ := hm.blk k rfl
    have hkl := lt hk
    have hc : H[mv]? = some (.cells [own k 0 vs.length vs.length 4]) := hm.cell
    have g1 : (H ++ [.cells (mI x)])[mv]? = some (.cells [own k 0 vs.length vs.length 4]) := by rw [List.getElem?_append_left hml]; exact hc
    have g2 : (H ++ [.cells (mI x)])[H.length]? = some (.cells (mI x)) := by simp
    have g3 : cut true 4 (mI x) = vec x := cut_vec hx
    have g5 : (H ++ [.cells (mI x)] ++ [.cells (mI x)])[(H ++ [Blk.cells (mI x)]).length]? = some (.cells (mI x)) := by simp
    have g6 : (H ++ [.cells (mI x)] ++ [.cells (mI x)])[k]? = some (.cells (mI vs.flatten)) := by rw [List.getElem?_append_left (by simp; omega), List.getElem?_append_left hkl]; exact hk
    have g7 : ((H ++ [Blk.cells (mI x)] ++ [Blk.cells (mI x)]).set k .dead ++ [Blk.cells (mI (vs ++ [x]).flatten)])[mv]? = some (.cells [own k 0 vs.length vs.length 4]) := by
      rw [List.getElem?_append_left (by simp; omega), List.getElem?_set_ne hkm, List.getElem?_append_left (by simp; omega)]; exact g1
    have g8 : (mI vs.flatten).take (vs.length * 4) = mI vs.flatten := List.take_of_length_le (by rw [mF_len hm.h4]; exact Nat.le_refl _)
    have g9 : vs.flatten ++ x = (vs ++ [x]).flatten := by simp
    have g10 : (vs.length + 1 ≤ vs.length) = False := by simp
    simp only [w113, g1, hpl, vec_eq, g2, g3, g5, g6, dz, tk, g7, g8, g9, g10, go_sem, Nat.reduceEqDiff, Nat.reduceAdd, Nat.reduceLT, Nat.reduceLeDiff, reduceIte, reduceCtorEq]
    have n2 : (H ++ [Blk.cells (mI x)] ++ [Blk.cells (mI x)]).length = H.length + 2 := by simp
    rw [n2]
    have hfin : ∀ LP, HOk LP H → HOk LP (((H ++ [Blk.cells (mI x)] ++ [Blk.cells (mI x)]).set k .dead ++ [Blk.cells (mI (vs ++ [x]).flatten)]).set mv (.cells [own (H.length + 2) 0 (vs.length + 1) (vs.length + 1) 4])) := fun LP h => ((((h.pushI x).pushI x).set (b := .dead) trivial).pushI _).set (by simp [blkN, vid])
    refine ⟨hac, ⟨by rw [flat_len hm.h4]; exact Nat.le_refl _, by omega⟩, leafN0 (LP := LPb H.length) (hfin _ hok) (fun _ _ h => h) (by simp; omega) ⟨rfl, some (H.length + 2), ⟨h4', ?_, fun h => by (cases h), fun k hk => ?_⟩, ⟨hfin, by simp; omega, fun j hj hjm hjk => ?_, fun j hj => .inr (by cases hj; omega)⟩⟩⟩
    · rw [List.getElem?_set_self (by simp; omega)]; simp
    · cases hk
      exact ⟨by omega, by rw [List.getElem?_set_ne (by omega), List.getElem?_append_right (by simp)]; simp⟩
    · have hjk : k ≠ j := fun e => hjk (by rw [e])
      rw [List.getElem?_set_ne (by omega), List.getElem?_append_left (by simp; omega), List.getElem?_set_ne hjk, List.getElem?_append_left (by simp; omega), List.getElem?_append_left hj]

def growV (m xb mb fb g : Nat) : AVal := .fn (.func 132) [] [.ptr m 0, .ptr xb 0, .ptr fb 0, .ptr mb 0, .ptr g 0]
section
variable {m xb mb fb g mv n most : Nat} {rows : List (List Int)}
/-- Where all that lies. -/
structure GSt (m xb mb fb g mv n most : Nat) (rows : List (List Int)) (x : List Int) (vs : List (List Int)) (id : Option Nat) (H : AHeap) : Prop where
  mvs : Mvs mv vs id H
  hm : H[m]? = some (.cells [.sl false false (mV rows), I n])
  hx : H[xb]? = some (.cells (mI x))
  hf : H[fb]? = some (.cells [.fn (.func 113) [] [.ptr mv 0]])
  hmb : H[mb]? = some (.cells [I most])
  hg : H[g]? = some (.cells [growV m xb mb fb g])
  ne : ∀ j, (j = m ∨ j = xb ∨ j = fb ∨ j = mb ∨ j = g) → j ≠ mv ∧ id ≠ some j
theorem GSt.keep {x : List Int} {vs vs' : List (List Int)} {id id' : Option Nat} {H H' : AHeap} (h : GSt m xb mb fb g mv n most rows x vs id H) (hv : Mvs mv vs' id' H') (ht : MTo H.length mv id H id' H') : GSt m xb mb fb g mv n most rows x vs' id' H' := by
  have lt : ∀ {j b}, H[j]? = some b → j < H.length := fun hj => (List.getElem?_eq_some_iff.1 hj).1
  have k : ∀ j b, (j = m ∨ j = xb ∨ j = fb ∨ j = mb ∨ j = g) → H[j]? = some b → H'[j]? = some b := fun j b hj hb => by
    rw [ht.kept j (lt hb) (h.ne j hj).1 (h.ne j hj).2]; exact hb
  refine ⟨hv, k _ _ (by simp) h.hm, k _ _ (by simp) h.hx, k _ _ (by simp) h.hf, k _ _ (by simp) h.hmb, k _ _ (by simp) h.hg, fun j hj => ⟨(h.ne j hj).1, fun e => ?_⟩⟩
  have hjl : j < H.length := by
    rcases hj with rfl | rfl | rfl | rfl | rfl
    · exact lt h.hm
    · exact lt h.hx
    · exact lt h.hf
    · exact lt h.hmb
    · exact lt h.hg
  rcases ht.own j e with e | e
  · exact (h.ne j hj).2 e
  · omega
/-- A number is set. -/
theorem GSt.put {b0 : Nat} {x : List Int} {vs : List (List Int)} {id : Option Nat} {H : AHeap} (h : GSt m xb mb fb g mv n most rows x vs id H) (hb : b0 ≤ xb) (hd : xb ≠ m ∧ xb ≠ fb ∧ xb ≠ mb ∧ xb ≠ g) (y : List Int) : GSt m xb mb fb g mv n most rows y vs id (H.set xb (.cells (mI y))) ∧ MTo b0 mv id H id (H.set xb (.cells (mI y))) := by
  have hxl := (List.getElem?_eq_some_iff.1 h.hx).1
  have kp : ∀ j, j ≠ xb → (H.set xb (.cells (mI y)))[j]? = H[j]? := fun j hj => List.getElem?_set_ne (Ne.symm hj)
  have hne := h.ne xb (by simp)
  refine ⟨⟨h.mvs.keep (kp _ (Ne.symm hne.1)) fun k hk => kp k fun e => hne.2 (by rw [hk, e]), by rw [kp _ (Ne.symm hd.1)]; exact h.hm, by rw [List.getElem?_set_self hxl], by rw [kp _ (Ne.symm hd.2.1)]; exact h.hf, by rw [kp _ (Ne.symm hd.2.2.1)]; exact h.hmb, by rw [kp _ (Ne.symm hd.2.2.2)]; exact h.hg, h.ne⟩, ?_⟩
  exact ⟨fun LP h0 => h0.set (by simp [blkN, mI_bnd]), by simp, fun j hj _ _ => kp j (by omega), fun j hj => .inl hj⟩

set_option maxHeartbeats 4000000 in
theorem s132 {b0 : Nat} (hn : n ≤ 4) (hmost : most ≤ 16) (hr : Sp.Rows4 rows) (hb : b0 ≤ xb) (hd : xb ≠ m ∧ xb ≠ fb ∧ xb ≠ mb ∧ xb ≠ g) :
    ∀ (k i : Nat) (x : List Int) (vs : List (List Int)) (id : Option Nat) (H : AHeap), i + k = n → x.length = 4 → Sp.inB most x → (∀ j, i ≤ j → x.getD j 0 = 0) → vs.length + (Sp.growL rows n most k i x).length < 1073741824 → HOk (LPb H.length) H → GSt m xb mb fb g mv n most rows x vs id H →
      Abs.Spec Try.prog 132 [I i, .ptr m 0, .ptr xb 0, .ptr fb 0, .ptr mb 0, .ptr g 0] H fun v H' => v = .tup [] ∧ ∃ id', GSt m xb mb fb g mv n most rows x (vs ++ Sp.growL rows n most k i x) id' H' ∧ MTo b0 mv id H id' H'
  | 0, i, x, vs, id, H, hin, hx4, hxb, hx0, hvl, hok, hg => by
    obtain rfl : i = n := by omega
    have hpl : (mI x).length = 4 := by rw [mI_length, hx4]
    have hcx : cut true 4 (mI x) = vec x := cut_vec hx4
    have hmc : cut true 2 [sl false false (mV rows), I i] = matV rows i := rfl
    have hz : AVal.agg [I 0, I 0, I 0, I 0] = .agg (mI Sp.z4) := rfl
    refine Abs.Spec.walk mixed fn132 nn132 t132 q132 nt132 (by simp) ?_
    have hq : ((i : Int) == i) = true := by simp
    simp only [w132T1, w132L0, w132, hg.hm, hg.hx, hcx, hpl, hq, vec_eq, hz, go_sem, Nat.reduceEqDiff, Nat.reduceAdd, Nat.reduceLT, Nat.reduceLeDiff, reduceIte, reduceCtorEq]
    refine ⟨⟨hx4, rfl⟩, ?_⟩
    have leave : ∀ {fr : Fr}, Sp.growL rows i most 0 i x = [] → retA H.length r132 (fun v H' => v = .tup [] ∧ ∃ id', GSt m xb mb fb g mv i most rows x (vs ++ Sp.growL rows i most 0 i x) id' H' ∧ MTo b0 mv id H id' H') .ret fr H [] := fun he =>
      leafN0 (LP := LPb H.length) hok (fun _ _ h => h) (Nat.le_refl _) ⟨rfl, id, by rw [he, List.append_nil]; exact hg, .refl⟩
    refine G.split (fun hnz => ?_) fun hnz => ?_
    rotate_left
    · have hz0 : (x == Sp.z4) = true := by simpa using hnz
      simp only [go_sem, Nat.reduceEqDiff, Nat.reduceAdd, Nat.reduceLT, Nat.reduceLeDiff, reduceIte, reduceCtorEq]
      exact leave (by rw [Sp.growL, hz0]; rfl)
    have hz0 : (x == Sp.z4) = false := by simpa using hnz
    simp only [hg.hm, hg.hx, hcx, hpl, vec_eq, hmc, go_sem, Nat.reduceEqDiff, Nat.reduceAdd, Nat.reduceLT, Nat.reduceLeDiff, reduceIte, reduceCtorEq]
    refine CallK.pure (liftV (s67 rows i hr x most (by omega) (by omega) hx4 hxb) (by simp [bndL, vec_bnd, matV, AVal.bnd, mV_bnd]) rfl _) ?_
    simp only [go_sem, Nat.reduceEqDiff, Nat.reduceAdd, Nat.reduceLT, Nat.reduceLeDiff, reduceIte, reduceCtorEq]
    refine IC.split (fun hm => ?_) fun hm => ?_
    rotate_left
    · simp only [go_sem, Nat.reduceEqDiff, Nat.reduceAdd, Nat.reduceLT, Nat.reduceLeDiff, reduceIte, reduceCtorEq]
      exact leave (by rw [Sp.growL, hz0, hm]; rfl)
    have hgl : Sp.growL rows i most 0 i x = [x] := by rw [Sp.growL, hz0, hm]; rfl
    rw [hgl] at hvl ⊢
    simp only [hg.hf, hg.hx, hcx, hpl, vec_eq, go_sem, Nat.reduceEqDiff, Nat.reduceAdd, Nat.reduceLT, Nat.reduceLeDiff, reduceIte, reduceCtorEq]
    refine CallK.by (CallV.of_spec (first := []) (cap := [.ptr mv 0]) (s113 mv vs id H x hx4 (by simp at hvl; omega) hok hg.mvs)) fun v H' ⟨hv, id', hm', hto⟩ => ?_
    subst hv
    simp only [go_sem, Nat.reduceEqDiff, Nat.reduceAdd, Nat.reduceLT, Nat.reduceLeDiff, reduceIte, reduceCtorEq]
    have hto' : MTo b0 mv id H id' H' := hto.le (by have := (List.getElem?_eq_some_iff.1 hg.hx).1; omega)
    exact leafN0 (LP := LPb H.length) (hto.hok _ hok) (fun _ _ h => h) hto.len ⟨rfl, id', hg.keep hm' hto, hto'⟩
  | k + 1, i, x, vs, id, H, hin, hx4, hxb, hx0, hvl, hok, hg => by
    have lt : ∀ {H : AHeap} {j b}, H[j]? = some b → j < H.length := fun hj => (List.getElem?_eq_some_iff.1 hj).1
    have hpl : (mI x).length = 4 := by rw [mI_length, hx4]
    have hmc : cut true 2 [sl false false (mV rows), I n] = matV rows n := rfl
    have hix : i < x.length := by omega
    have hi4 : (i : Int) < 4 := by omega
    have hq : ((i : Int) == n) = false := by rw [beq_eq_false_iff_ne]; omega
    have hwi : IntKind.i64.wrap ((i : Int) + 1) = ((i + 1 : Nat) : Int) := by rw [wrap64 (by omega) (by omega)]; rfl
    have hwn : IntKind.i64.wrap (0 - (most : Int)) = ((0 : Nat) : Int) - most := wrap64 (by omega) (by omega)
    refine Abs.Spec.walk mixed fn132 nn132 t132 q132 nt132 (by simp) ?_
    obtain ⟨F, hF⟩ : ∃ F : Nat → List (List Int), F = fun (c : Nat) => if Sp.can rows n (i + 1) most (x.set i ((c : Int) - most)) then Sp.growL rows n most k (i + 1) (x.set i ((c : Int) - most)) else [] := ⟨_, rfl⟩
    obtain ⟨N, hN⟩ : ∃ N, N = 2 * most + 1 := ⟨_, rfl⟩
    have hE : Sp.growL rows n most (k + 1) i x = (List.range N).flatMap F := by rw [hF, hN]; rfl
    rw [hE] at hvl ⊢
    obtain ⟨hg0, hto0⟩ := hg.put hb hd (x.set i (((0 : Nat) : Int) - most))
    simp only [w132T1, w132L0, w132, hg.hm, hg.hx, hpl, hq, hg.hmb, hwn, hi4, mI_put, set_put, hix, go_sem, Nat.reduceEqDiff, Nat.reduceAdd, Nat.reduceLT, Nat.reduceLeDiff, reduceIte, reduceCtorEq]
    refine ⟨by omega, by omega, ?_⟩
    have hok0 := hto0.hok _ hok
    have hl0 : (H.set xb (.cells (mI (x.set i (((0 : Nat) : Int) - most))))).length = H.length := by simp
    generalize H.set xb (.cells (mI (x.set i (((0 : Nat) : Int) - most)))) = H0 at hg0 hto0 hok0 hl0 ⊢
    refine W_loop (fun q : { q : Nat × Option Nat × AHeap // q.1 ≤ N ∧ GSt m xb mb fb g mv n most rows (x.set i ((q.1 : Int) - most)) (vs ++ (List.range q.1).flatMap F) q.2.1 q.2.2 ∧ MTo b0 mv id H q.2.1 q.2.2 } =>
      ([(0, I i), (1, .ptr m 0), (2, .ptr xb 0), (4, .ptr mb 0), (5, .ptr g 0)], q.1.2.2)) (fun q => N - q.1.1) ⟨(0, id, H0), by omega, by simpa using hg0, hto0⟩ (idρ H0.length) (Wk.ok hok0 (fun _ _ h => h) (by rw [hl0]; exact Nat.le_refl _) (by
        have l1 := lt hg0.hm; have l2 := lt hg0.hx; have l3 := lt hg0.hmb; have l4 := lt hg0.hg
        intro q hq
        simp only [List.mem_cons, List.not_mem_nil, or_false] at hq
        rcases hq with rfl | rfl | rfl | rfl | rfl <;> exact ⟨rfl, by simp [vid, l1, l2, l3, l4]⟩) (fun _ h => by cases h)) ?_
    rintro ⟨⟨c, id1, H1⟩, hc, hg1, hto1⟩
    dsimp only at hc hg1 hto1 ⊢
    have hok1 := hto1.hok _ hok
    have hgx : (x.set i ((c : Int) - most)).getD i 0 = (c : Int) - most := by simp [List.getD_eq_getElem?_getD, hix]
    have hxl1 : i < (x.set i ((c : Int) - most)).length := by simpa using hix
    have hpl1 : (mI (x.set i ((c : Int) - most))).length = 4 := by rw [mI_length, List.length_set, hx4]
    by_cases hcl : c < N
    · have hz : decide ((c : Int) - most ≤ most) = true := decide_eq_true (by omega)
      have hcx : cut true 4 (mI (x.set i ((c : Int) - most))) = vec (x.set i ((c : Int) - most)) := cut_vec (by rw [List.length_set, hx4])
      have hwc : IntKind.i64.wrap ((c : Int) - most + 1) = ((c + 1 : Nat) : Int) - most := by rw [wrap64 (by omega) (by omega)]; omega
      have hib : Sp.inB most (x.set i ((c : Int) - most)) := fun a ha => by
        rcases List.mem_or_eq_of_mem_set ha with ha | rfl
        · exact hxb a ha
        · omega
      simp only [w132L0, hg1.hm, hg1.hx, hg1.hmb, mI_hd, hxl1, hgx, hz, hi4, hpl1, hcx, hmc, vec_eq, hwi, go_sem, Nat.reduceEqDiff, Nat.reduceAdd, Nat.reduceLT, Nat.reduceLeDiff, reduceIte, reduceCtorEq]
      refine ⟨by omega, by omega, ?_⟩
      have hsplit : ∃ r, List.range N = List.range c ++ c :: r := ⟨(List.range N).drop (c + 1), by
        have h1 : (List.range N).take c = List.range c := by rw [List.take_range]; congr 1; omega
        have h2 : (List.range N).drop c = c :: (List.range N).drop (c + 1) := by
          rw [List.drop_eq_getElem_cons (by simpa using hcl)]; simp
        rw [← h1, ← h2, List.take_append_drop]⟩
      have hlen : ((List.range c).flatMap F).length + (F c).length ≤ ((List.range N).flatMap F).length := by
        obtain ⟨r, hr'⟩ := hsplit
        rw [hr', List.flatMap_append, List.flatMap_cons, List.length_append, List.length_append]; omega
      have hnext : (List.range (c + 1)).flatMap F = (List.range c).flatMap F ++ F c := by simp [List.range_succ, List.flatMap_append]
      refine CallK.pure (liftV (s133 rows n hn hr (x.set i ((c : Int) - most)) most (by omega) (by rw [List.length_set, hx4]) hib (i + 1) (by omega) most (by omega)) (by simp [bndL, vec_bnd, matV, AVal.bnd, mV_bnd]) rfl _) ?_
      simp only [go_sem, Nat.reduceEqDiff, Nat.reduceAdd, Nat.reduceLT, Nat.reduceLeDiff, reduceIte, reduceCtorEq]
      have back : ∀ (id2 : Option Nat) (H2 : AHeap), GSt m xb mb fb g mv n most rows (x.set i ((c : Int) - most)) (vs ++ (List.range (c + 1)).flatMap F) id2 H2 → MTo b0 mv id H id2 H2 →
          GSt m xb mb fb g mv n most rows (x.set i (((c + 1 : Nat) : Int) - most)) (vs ++ (List.range (c + 1)).flatMap F) id2 (H2.set xb (.cells (mI ((x.set i ((c : Int) - most)).set i (((c + 1 : Nat) : Int) - most))))) ∧ MTo b0 mv id H id2 (H2.set xb (.cells (mI ((x.set i ((c : Int) - most)).set i (((c + 1 : Nat) : Int) - most))))) := fun id2 H2 h2 t2 => by
        obtain ⟨k1, k2⟩ := h2.put hb hd ((x.set i ((c : Int) - most)).set i (((c + 1 : Nat) : Int) - most))
        refine ⟨?_, t2.trans k2⟩
        rw [List.set_set] at k1 ⊢
        exact k1
      refine IC.split (fun hcan => ?_) fun hcan => ?_
      · have hFc : F c = Sp.growL rows n most k (i + 1) (x.set i ((c : Int) - most)) := by rw [hF]; simp only [hcan, if_true]
        simp only [hg1.hg, growV, hwi, go_sem, Nat.reduceEqDiff, Nat.reduceAdd, Nat.reduceLT, Nat.reduceLeDiff, reduceIte, reduceCtorEq]
        refine CallK.by (CallV.of_spec (first := []) (cap := [.ptr m 0, .ptr xb 0, .ptr fb 0, .ptr mb 0, .ptr g 0]) (s132 hn hmost hr hb hd k (i + 1) (x.set i ((c : Int) - most)) (vs ++ (List.range c).flatMap F) id1 H1 (by omega) (by rw [List.length_set, hx4]) hib (fun j hj => by
          have := hx0 j (by omega)
          rw [List.getD_eq_getElem?_getD] at this ⊢
          rw [List.getElem?_set_ne (by omega)]; exact this) (by rw [← hFc, List.length_append]; omega) (hok1.mono fun _ _ h => h.mono (by have := hto1.len; omega)) hg1)) fun v H2 ⟨hv, id2, hg2, hto2⟩ => ?_
        subst hv
        rw [← hFc, List.append_assoc, ← hnext] at hg2
        obtain ⟨k1, k2⟩ := back _ _ hg2 (hto1.trans hto2)
        simp only [hg2.hx, mI_hd, hxl1, hgx, hi4, hwc, mI_put, set_put, go_sem, Nat.reduceEqDiff, Nat.reduceAdd, Nat.reduceLT, Nat.reduceLeDiff, reduceIte, reduceCtorEq]
        repeat (refine ⟨by omega, ?_⟩)
        have l1 := lt k1.hm; have l2 := lt k1.hx; have l3 := lt k1.hmb; have l4 := lt k1.hg
        refine roundN (LP := LPb H.length) (k2.hok _ hok) (fun _ _ h => h) k2.len ⟨(c + 1, id2, _), by omega, k1, k2⟩ (by dsimp only; omega) rfl ?_
        intro q hq
        simp only [List.mem_cons, List.not_mem_nil, or_false] at hq
        rcases hq with rfl | rfl | rfl | rfl | rfl <;> exact ⟨rfl, by simp only [vid, l1, l2, l3, l4, decide_true]⟩
      · have hFc : F c = [] := by rw [hF]; simp only [hcan]; rfl
        rw [← List.append_nil ((List.range c).flatMap F), ← hFc, ← hnext] at hg1
        obtain ⟨k1, k2⟩ := back _ _ hg1 hto1
        simp only [hg1.hx, mI_hd, hxl1, hgx, hi4, hwc, mI_put, set_put, go_sem, Nat.reduceEqDiff, Nat.reduceAdd, Nat.reduceLT, Nat.reduceLeDiff, reduceIte, reduceCtorEq]
        repeat (refine ⟨by omega, ?_⟩)
        have l1 := lt k1.hm; have l2 := lt k1.hx; have l3 := lt k1.hmb; have l4 := lt k1.hg
        refine roundN (LP := LPb H.length) (k2.hok _ hok) (fun _ _ h => h) k2.len ⟨(c + 1, id1, _), by omega, k1, k2⟩ (by dsimp only; omega) rfl ?_
        intro q hq
        simp only [List.mem_cons, List.not_mem_nil, or_false] at hq
        rcases hq with rfl | rfl | rfl | rfl | rfl <;> exact ⟨rfl, by simp only [vid, l1, l2, l3, l4, decide_true]⟩
    · obtain rfl : c = N := by omega
      have hz : decide ((c : Int) - most ≤ most) = false := decide_eq_false (by omega)
      simp only [w132L0, hg1.hm, hg1.hx, hg1.hmb, mI_hd, hxl1, hgx, hz, hi4, hpl1, w132T1, mI_put, set_put, go_sem, Nat.reduceEqDiff, Nat.reduceAdd, Nat.reduceLT, Nat.reduceLeDiff, reduceIte, reduceCtorEq]
      repeat (refine ⟨by omega, ?_⟩)
      obtain ⟨k1, k2⟩ := hg1.put hb hd ((x.set i ((c : Int) - most)).set i 0)
      have hx' : (x.set i ((c : Int) - most)).set i 0 = x := by
        rw [List.set_set]
        apply List.ext_getElem (by simp)
        intro j h1 h2
        rw [List.getElem_set]
        split
        · rename_i e
          subst e
          have := hx0 i (Nat.le_refl _)
          rw [List.getD_eq_getElem?_getD, List.getElem?_eq_getElem hix] at this
          simpa using this.symm
        · rfl
      rw [hx'] at k1 k2 ⊢
      have k3 := hto1.trans k2
      exact leafN0 (LP := LPb H.length) (k3.hok _ hok) (fun _ _ h => h) k3.len ⟨rfl, id1, k1, k3⟩
end

/-- **All moves up to a bound**, gathered behind those that were there. -/
theorem s111 (rows : List (List Int)) (n most mv : Nat) (hn : n ≤ 4) (hmost : most ≤ 16) (hr : Sp.Rows4 rows) (vs : List (List Int)) (id : Option Nat) (H : AHeap) (hvl : vs.length + (Sp.growL rows n most n 0 Sp.z4).length < 1073741824) (hok : HOk (LPb H.length) H) (hm : Mvs mv vs id H) :
    Abs.Spec Try.prog 111 [matV rows n, I most, .fn (.func 113) [] [.ptr mv 0]] H fun v H' => v = .tup [] ∧ ∃ id', Mvs mv (vs ++ Sp.growL rows n most n 0 Sp.z4) id' H' ∧ MTo H.length mv id H id' H' := by
  refine Abs.Spec.walk mixed fn111 nn111 t111 q111 nt111 (by simp) ?_
  simp only [w111, matV_eq, List.append_assoc, List.cons_append, List.nil_append, List.length_append, List.length_cons, List.length_nil, app_get, app_get0, app_set, app_set0, List.getElem?_cons_succ, List.getElem?_cons_zero, List.set_cons_succ, List.set_cons_zero, go_sem, Nat.reduceEqDiff, Nat.reduceAdd, Nat.reduceLT, Nat.reduceLeDiff, reduceIte, reduceCtorEq]
  have lt : ∀ {H : AHeap} {j b}, H[j]? = some b → j < H.length := fun hj => (List.getElem?_eq_some_iff.1 hj).1
  have hml := lt hm.cell
  have hidl : ∀ k, id = some k → k < H.length := fun k hk => lt (hm.blk k hk).2
  obtain ⟨T, hT⟩ : ∃ T : AHeap, T = [Blk.cells [sl false false (mV rows), I n], Blk.cells [I most], Blk.cells [fn (Fn.func 113) [] [ptr mv 0]], Blk.cells (mI Sp.z4), Blk.cells [growV H.length (H.length + 3) (H.length + 1) (H.length + 2) (H.length + 4)]] := ⟨_, rfl⟩
  have hTl : T.length = 5 := by rw [hT]; rfl
  have hTk : ∀ LP, HOk LP H → HOk LP (H ++ T) := fun LP h => by
    have e : H ++ T = ((((H ++ [Blk.cells [sl false false (mV rows), I n]]) ++ [Blk.cells [I most]]) ++ [Blk.cells [fn (Fn.func 113) [] [ptr mv 0]]]) ++ [Blk.cells (mI Sp.z4)]) ++ [Blk.cells [growV H.length (H.length + 3) (H.length + 1) (H.length + 2) (H.length + 4)]] := by rw [hT]; simp
    rw [e]
    refine (((((h.push ?_).push ?_).push ?_).pushI _).push ?_)
    · simp [blkN, bndL, AVal.bnd, mV_bnd]
    · simp [blkN, bndL, AVal.bnd]
    · have : mv < H.length + 1 + 1 + 1 := by omega
      simp [blkN, vid, this]
    · simp [blkN, vid, growV]
      omega
  have hto : MTo H.length mv id H id (H ++ T) := ⟨hTk, by simp, fun j hj _ _ => List.getElem?_append_left hj, fun j hj => .inl hj⟩
  have hg : GSt H.length (H.length + 3) (H.length + 1) (H.length + 2) (H.length + 4) mv n most rows Sp.z4 vs id (H ++ T) := by
    refine ⟨hm.keep (List.getElem?_append_left hml) fun k hk => List.getElem?_append_left (hidl k hk), ?_, ?_, ?_, ?_, ?_, fun j hj => ⟨by omega, fun e => by have := hidl j e; omega⟩⟩
    · rw [app_get0, hT]; rfl
    · rw [app_get, hT]; rfl
    · rw [app_get, hT]; rfl
    · rw [app_get, hT]; rfl
    · rw [app_get, hT]; rfl
  have hTe : [Blk.cells [sl false false (mV rows), I n], Blk.cells [val (Value.int IntKind.i64 most)], Blk.cells [fn (Fn.func 113) [] [ptr mv 0]], Blk.cells [I 0, I 0, I 0, I 0], Blk.cells [fn (Fn.func 132) [] [ptr H.length 0, ptr (H.length + 3) 0, ptr (H.length + 2) 0, ptr (H.length + 1) 0, ptr (H.length + 4) 0]]] = T := by rw [hT]; rfl
  rw [hTe]
  have hok5 : HOk (LPb (H ++ T).length) (H ++ T) := (hTk _ hok).mono fun _ _ h => h.mono (by simp)
  refine CallK.by (CallV.of_spec (first := []) (cap := [ptr H.length 0, ptr (H.length + 3) 0, ptr (H.length + 2) 0, ptr (H.length + 1) 0, ptr (H.length + 4) 0]) (s132 (b0 := H.length) hn hmost hr (by omega) ⟨by omega, by omega, by omega, by omega⟩ n 0 Sp.z4 vs id (H ++ T) (by omega) rfl (fun a ha => by simp [Sp.z4] at ha; omega) (fun j _ => by
    rw [List.getD_eq_getElem?_getD]
    match j with
    | 0 => rfl
    | 1 => rfl
    | 2 => rfl
    | 3 => rfl
    | j + 4 => rfl) hvl hok5 hg)) fun v H' ⟨hv, id', hg', hto'⟩ => ?_
  subst hv
  simp only [go_sem, Nat.reduceEqDiff, Nat.reduceAdd, Nat.reduceLT, Nat.reduceLeDiff, reduceIte, reduceCtorEq]
  have hto2 := hto.trans hto'
  exact leafN0 (LP := LPb H.length) (hto2.hok _ hok) (fun _ _ h => h) hto2.len ⟨rfl, id', hg'.mvs, hto2⟩
end Go.Proofs.Ytipfjfmdjmaflaa
