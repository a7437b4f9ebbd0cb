/- Contracts: the vectors one move away, for any client. -/
import Derived.Test.YtipfjfmdjmaflaaNU
namespace Go.Abs
open AVal
/-- A function value that is called for each. -/
def FOk (P : Program) (c : Cl) (fv : AVal) (dom : c.σ → List Int → Prop) : Prop := ∀ (γ : c.Γ) (H : AHeap) (D : List Int), c.ok γ H → HOk (LPb H.length) H → dom (c.val γ) D →
  CallV P fv [.agg (mI D)] H fun v H' => v = .tup [] ∧ ∃ γ', c.val γ' = c.upd (c.val γ) D ∧ c.To H.length γ H γ' H'
theorem Cl.To.wr {c : Cl} {b0 : Nat} {γ : c.Γ} {H H' : AHeap} (h : c.ok γ H) (hl : H.length ≤ H'.length) (hb : ∀ j, j < H.length → H'[j]? = H[j]?) (hb0 : b0 ≤ H.length) (hok : ∀ LP, HOk LP H → HOk LP H') : c.To b0 γ H γ H' :=
  ⟨c.frame γ H H' h fun j hj => hb j (c.lt γ H j h hj), hok, hl, fun j hj _ => hb j (by omega), fun j hj => .inl hj⟩
end Go.Abs
namespace Go.Proofs.Ytipfjfmdjmaflaa
open Go.Abs AVal
set_option linter.unusedSimpArgs false
attribute [local go_sem] W_skip W_keep KQ_canon canon Fr.norm W_seq W_block W_scope W_exit W_ret W_ops W_draw KQ_nil KQ_norm_seq KQ_exit_seq KQ_ret_seq KQ_norm_block KQ_ret_block KQ_exit_block KQ_exit_loop KQ_ret_loop O_nil O_cons S_call S_mv SE_mv SD_mv S_pick SE_pick SD_pick S_bin SE_bin SD_bin S_eqb SE_eqb SD_eqb S_eqv SE_eqv SD_eqv S_eqnil SE_eqnil SD_eqnil S_un SE_un SD_un S_conv SE_conv SD_conv S_mkfn SE_mkfn SD_mkfn S_load SE_load SD_load S_nilck SE_nilck SD_nilck S_slS SE_slS SD_slS S_slP SE_slP SD_slP S_fldA SE_fldA SD_fldA S_fld SE_fld SD_fld S_ixS SE_ixS SD_ixS S_ixP SE_ixP SD_ixP S_ixV SE_ixV SD_ixV S_ixStr SE_ixStr SD_ixStr S_ext SE_ext SD_ext S_len SE_len SD_len S_lenStr SE_lenStr SD_lenStr S_lenc SE_lenc SD_lenc S_mn SE_mn SD_mn S_mx SE_mx SD_mx S_build SE_build SD_build S_alloc SD_alloc S_box SD_box S_bslice SD_bslice S_mksl SD_mksl S_store SD_store S_append SD_append S_copy SD_copy S_clr SD_clr S_mlen SE_mlen SD_mlen S_mget SE_mget SD_mget S_mval SE_mval SD_mval S_mentry SE_mentry SD_mentry S_mkmap SD_mkmap S_mset SD_mset S_mrange SD_mrange S_mnext mlenA mgetA mvalA mentryA msetA mrangeA cells_mp isCell_mp cellsOk_mp aq_some aa_some al_some alA_some aqd_some aad_some ald_some ape_some D_done D_both D_early D_step SE_call SD_call IOpd.ev Fr.get Fr.put Fr.putd entryFr pickA binA binI isSh shI eqbA eqvA ints ints_mI Option.map_some eqnilA unA convA loadA nilckA intA slSA slPA fldAA fldVA ixSA ixPA ixVA ixStrA extA lenA lenStrA mnA mxA AVal.fits fillA fillOk buildA opa srcA appA stoA copA clrA rdFree zeros List.length_nil List.length_cons List.length_map List.map_cons List.map_nil Option.map_some Option.map_none if_true if_false ite_true ite_false true_and and_true and_self implies_true forall_const true_implies Bool.false_eq_true Bool.not_true Bool.not_false decide_eq_true_eq decide_eq_false_iff_not eq_self List.getElem?_cons_zero List.getElem?_cons_succ List.getElem?_nil List.set_cons_zero List.set_cons_succ List.nil_append List.cons_append List.append_nil List.replicate_zero List.replicate_succ Nat.zero_add false_implies rng_lt rng_end rng_get cells_I cells_B cells_sl cut_one Int.toNat_natCast Int.natCast_nonneg List.headD_cons Int.lt_irrefl not_false_eq_true decide_false decide_true mI_length mI_cells mI_sz mI_isCell mI_mid mI_append mI_take mI_drop cells_val cells_own cells_agg isCell_I isCell_B isCell_nil isCell_sl isCell_own isCell_ptr isCell_fn isCell_rp isCell_yld cellsOk_I cellsOk_B cellsOk_nil cellsOk_sl cellsOk_own cellsOk_ptr cellsOk_fn cellsOk_rp cellsOk_yld cellsOk_agg cells_nil cells_ptr cells_fn cells_rp List.all_cons List.all_nil Bool.and_true Nat.mul_one Nat.zero_mul Nat.one_mul List.take_zero List.take_nil List.drop_nil List.drop_zero List.not_mem_nil Nat.le_refl Nat.zero_le mS_length mS_cells mS_sz mS_isCell mS_mid mS_append mS_take mS_drop cells_sI isCell_sI cellsOk_sI sI_eq succ_le_self' List.take_succ_cons List.drop_succ_cons List.take_length beq_self_eq_true List.mem_cons or_false forall_eq mI_put mI_rep O_guard' D_earlyG' D_stepG' W_cond' G_tt G_tf G_ft G_ff GE_tt GE_tf GE_ft GE_ff GS_tt GS_tf GS_ft GS_ff G_u GE_u GS_u IC_t IC_f xft xff xtt xtf z00 z20 z22 z02 zz tn0
set_option maxRecDepth 20000 in
set_option maxHeartbeats 4000000 in
theorem s105c {c : Cl} {fv : AVal} {dom : c.σ → List Int → Prop} (F : FOk Try.prog c fv dom) (H : AHeap) (γ : c.Γ) (rows : List (List Int)) (n : Int) (bs : List (List Int)) (X X0 : List Int) (hX : X.length = 4) (hX0 : X0.length = 4) (h4 : ∀ m ∈ bs, m.length = 4) (hbl : bs.length ≤ 2000000) (bX : Sp.inB 90000 X) (bb : ∀ m ∈ bs, Sp.inB 16 m)
    (hc : c.ok γ H) (hfv : vid H.length 3 fv = true) (hok : HOk (LPb H.length) H) (hdom : ∀ pre y post, nearL X bs = pre ++ y :: post → dom (pre.foldl c.upd (c.val γ)) y) :
    Abs.Spec Try.prog 105 [taskV rows n bs X0, vec X, fv] H fun v H' => v = .tup [] ∧ ∃ γ', c.val γ' = (nearL X bs).foldl c.upd (c.val γ) ∧ c.To H.length γ H γ' H' := by
  refine Abs.Spec.walk mixed fn105 nn105 t105 q105 nt105 (by simp) ?_
  have hXl : (mI X).length = 4 := by rw [mI_length, hX]
  have hX0l : (mI X0).length = 4 := by rw [mI_length, hX0]
  have acX := allI_cell X
  have acX0 := allI_cell X0
  simp only [w105, taskV_eq, vec_eq, hXl, hX0l, mV_length, app_get, app_get0, app_set, app_set0, List.append_assoc, List.cons_append, List.nil_append, List.length_append, List.length_cons, List.length_nil, List.getElem?_cons_succ, List.getElem?_cons_zero, List.set_cons_succ, List.set_cons_zero, go_sem, Nat.reduceEqDiff, Nat.reduceAdd, Nat.reduceLT, Nat.reduceLeDiff, reduceIte, reduceCtorEq]
  obtain ⟨T, hT⟩ : ∃ T : AHeap, T = [Blk.cells (.sl false false (mV rows) :: I n :: .sl false false (mV bs) :: mI X0), Blk.cells (mI X)] := ⟨_, rfl⟩
  have hTl : T.length = 2 := by rw [hT]; rfl
  rw [← hT]
  have okT : ∀ {LP : Nat → Fr → Prop} {G : AHeap}, HOk LP G → HOk LP (G ++ T) := fun {LP G} h => by
    rw [hT, show [Blk.cells (.sl false false (mV rows) :: I n :: .sl false false (mV bs) :: mI X0), Blk.cells (mI X)] = [Blk.cells (.sl false false (mV rows) :: I n :: .sl false false (mV bs) :: mI X0)] ++ [Blk.cells (mI X)] from rfl, ← List.append_assoc]
    exact (h.push (by simp [blkN, bndL, AVal.bnd, mV_bnd, mI_bnd])).pushI X
  have to0 : c.To H.length γ H γ (H ++ T) := Cl.To.wr hc (by simp) (fun j hj => List.getElem?_append_left hj) (Nat.le_refl _) fun LP h => okT h
  have nm : ∀ j, H.length ≤ j → ¬ c.mine γ j := fun j hj hm => by have := c.lt γ H j hc hm; omega
  refine ⟨by simp [acX0], acX, ?_⟩
  refine W_loop (fun i : { i : Nat × c.Γ × AHeap // i.1 ≤ bs.length ∧ c.To (H.length + 2) γ (H ++ T) i.2.1 i.2.2 ∧ c.val i.2.1 = (nearL X (bs.take i.1)).foldl c.upd (c.val γ) } => ([(2, fv), (4, .ptr (H.length + 1) 0), (10, .sl false false (mV bs)), (11, I bs.length), (12, I i.1.1)], i.1.2.2)) (fun i => bs.length - i.1.1) ⟨(0, γ, H ++ T), Nat.zero_le _, .refl to0.ok, rfl⟩ (idρ _) (Wk.ok (LP := LPb H.length) (okT hok) (fun _ _ h => h) (by simp) (by
      simp only [List.mem_cons, List.not_mem_nil, or_false, forall_eq_or_imp, forall_eq]
      refine ⟨⟨rfl, vid_mono (by simp) 3 _ hfv⟩, ⟨rfl, ?_⟩, ⟨rfl, ?_⟩, ⟨rfl, rfl⟩, rfl, rfl⟩
      · simp [vid, hTl]
      · simp [vid, AVal.bnd, mV_bnd]) fun _ h => by cases h) ?_
  rintro ⟨⟨i, γ1, H1⟩, hi, hto, hval⟩
  dsimp only at hi hto hval ⊢
  have hl1 : H.length + 2 ≤ H1.length := by have := hto.len; rw [List.length_append, hTl] at this; exact this
  have hok1 : HOk (LPb H.length) H1 := hto.hok _ (okT hok)
  have toA : c.To H.length γ H γ1 H1 := to0.trans (hto.le (by omega))
  by_cases hib : i < bs.length
  · have d1 : (i : Int) < bs.length := by omega
    obtain ⟨m, hm⟩ : ∃ m, bs.getD i [] = m := ⟨_, rfl⟩
    have mb : m ∈ bs := by rw [← hm]; exact gd_mem' hib
    have ml := h4 m mb
    have gm : (mV bs).getD i any = vec m := by rw [← hm]; simp [mV, List.getD_eq_getElem?_getD, hib]
    have hml : (mI m).length = 4 := by rw [mI_length, ml]
    have g3 : cut true 4 (mI m) = vec m := cut_vec ml
    have gX : cut true 4 (mI X) = vec X := cut_vec hX
    have acm := allI_cell m
    have gT : (H ++ T)[H.length + 1]? = some (.cells (mI X)) := by rw [app_get, hT]; rfl
    have g1 : H1[H.length + 1]? = some (.cells (mI X)) := by rw [hto.kept _ (by omega) (nm _ (by omega))]; exact gT
    have g1a : ∀ L : AHeap, (H1 ++ L)[H.length + 1]? = some (.cells (mI X)) := fun L => by rw [List.getElem?_append_left (by omega)]; exact g1
    simp only [w105L0, d1, gm, vec_eq, g1, g1a, hml, hXl, g3, gX, app_get, app_get0, app_set, app_set0, List.append_assoc, List.cons_append, List.nil_append, List.length_append, List.length_cons, List.length_nil, List.getElem?_cons_succ, List.getElem?_cons_zero, List.set_cons_succ, List.set_cons_zero, go_sem, Nat.reduceEqDiff, Nat.reduceAdd, Nat.reduceLT, Nat.reduceLeDiff, reduceIte, reduceCtorEq]
    obtain ⟨y, hy⟩ : ∃ y, plusV 1 X m = y := ⟨_, rfl⟩
    have yl : y.length = 4 := by rw [← hy]; exact plusV_len hX ml
    have hyl : (mI y).length = 4 := by rw [mI_length, yl]
    have gy : cut true 4 (mI y) = vec y := cut_vec yl
    have acy := allI_cell y
    have h68 : ∀ H, CallV Try.prog (.fn (.func 68) [] []) [.agg (mI X), I 1, .agg (mI m)] H fun v H' => v = vec y ∧ H' = H := fun H => by
      rw [← hy]
      exact liftV (s68 X m 1 hX ml (.inl rfl) (Sp.inB_mono bX (by decide)) (Sp.inB_mono (bb m mb) (by decide))) (by simp [bndL, AVal.bnd, vec, mI_bnd]) (by simp [AVal.bnd, vec, mI_bnd]) H
    have btk : bs.take (i + 1) = bs.take i ++ [m] := by
      rw [List.take_add_one, List.getElem?_eq_getElem hib, ← hm, List.getD_eq_getElem?_getD, List.getElem?_eq_getElem hib]; rfl
    have ei : IntKind.i64.wrap ((i : Int) + 1) = ((i + 1 : Nat) : Int) := by rw [wrap64 (by omega) (by omega)]; omega
    have hsn : nearL X (bs.take (i + 1)) = nearL X (bs.take i) ++ (if posV y then [y] else []) := by rw [btk, nearL_snoc, hy]
    have hmm : c.To (H.length + 2) γ1 H1 γ1 (H1 ++ [Blk.cells (mI m), Blk.cells (mI y)]) := Cl.To.wr hto.ok (by simp) (fun j hj => List.getElem?_append_left hj) hl1 fun LP h => by
      have := (h.pushI m).pushI y
      simpa [List.append_assoc] using this
    refine ⟨by rw [mV_length]; exact d1, acm, CallK.pure (h68 _) ?_⟩
    simp only [vec_eq, g1, g1a, hml, hyl, hXl, g3, gX, gy, app_get, app_get0, app_set, app_set0, List.append_assoc, List.cons_append, List.nil_append, List.length_append, List.length_cons, List.length_nil, List.getElem?_cons_succ, List.getElem?_cons_zero, List.set_cons_succ, List.set_cons_zero, go_sem, Nat.reduceEqDiff, Nat.reduceAdd, Nat.reduceLT, Nat.reduceLeDiff, reduceIte, reduceCtorEq]
    refine ⟨acy, CallK.pure (liftV (s130 y yl) (by simp [bndL, AVal.bnd, vec, mI_bnd]) rfl _) ?_⟩
    have fin : ∀ {γ2 : c.Γ} {H2 : AHeap} {fr : Fr}, c.To (H.length + 2) γ (H ++ T) γ2 H2 → c.val γ2 = (nearL X (bs.take (i + 1))).foldl c.upd (c.val γ) → (∀ p ∈ ([(2, fv), (4, .ptr (H.length + 1) 0), (10, .sl false false (mV bs)), (11, I bs.length), (12, I ((i + 1 : Nat) : Int))] : Fr), fr.get p.1 = p.2) → 
        KQ ⟨Try.prog, H.length, 25, true⟩ (retA H.length r105 fun v H' => v = .tup [] ∧ ∃ γ', c.val γ' = (nearL X bs).foldl c.upd (c.val γ) ∧ c.To H.length γ H γ' H') .norm [.loop [] (fun i : { i : Nat × c.Γ × AHeap // i.1 ≤ bs.length ∧ c.To (H.length + 2) γ (H ++ T) i.2.1 i.2.2 ∧ c.val i.2.1 = (nearL X (bs.take i.1)).foldl c.upd (c.val γ) } => ([(2, fv), (4, .ptr (H.length + 1) 0), (10, .sl false false (mV bs)), (11, I bs.length), (12, I i.1.1)], i.1.2.2)) (fun i => bs.length - i.1.1) ⟨(i, γ1, H1), hi, hto, hval⟩, .block 0] fr H2 [] := fun {γ2 H2 fr} h1 h2 h3 => by
      have hl2 : H.length + 2 ≤ H2.length := by have := h1.len; rw [List.length_append, hTl] at this; exact this
      refine roundN (LP := LPb H.length) (h1.hok _ (okT hok)) (fun _ _ h => h) (by show H.length ≤ _; omega) ⟨(i + 1, γ2, H2), hib, h1, h2⟩ (by dsimp only; omega) rfl ?_
      dsimp only
      simp only [List.mem_cons, List.not_mem_nil, or_false, forall_eq_or_imp, forall_eq] at h3 ⊢
      refine ⟨⟨h3.1, vid_mono (by omega) 3 _ hfv⟩, ⟨h3.2.1, ?_⟩, ⟨h3.2.2.1, ?_⟩, ⟨h3.2.2.2.1, rfl⟩, h3.2.2.2.2, rfl⟩
      · simp [vid]; omega
      · simp [vid, AVal.bnd, mV_bnd]
    cases hpos : posV y with
    | false =>
      rw [hpos, if_neg (by decide), List.append_nil] at hsn
      simp only [ei, go_sem, Nat.reduceEqDiff, Nat.reduceAdd, Nat.reduceLT, Nat.reduceLeDiff, reduceIte, reduceCtorEq]
      exact fin (hto.trans hmm) (by rw [hsn]; exact hval) (by simp [Fr.get])
    | true =>
      rw [hpos, if_pos rfl] at hsn
      simp only [vec_eq, g1, g1a, hml, hyl, hXl, g3, gX, gy, app_get, app_get0, app_set, app_set0, List.append_assoc, List.cons_append, List.nil_append, List.length_append, List.length_cons, List.length_nil, List.getElem?_cons_succ, List.getElem?_cons_zero, List.set_cons_succ, List.set_cons_zero, go_sem, Nat.reduceEqDiff, Nat.reduceAdd, Nat.reduceLT, Nat.reduceLeDiff, reduceIte, reduceCtorEq]
      have hd : dom (c.val γ1) y := by
        rw [hval]
        refine hdom (nearL X (bs.take i)) y (nearL X (bs.drop (i + 1))) ?_
        have e : bs = bs.take (i + 1) ++ bs.drop (i + 1) := (List.take_append_drop _ _).symm
        conv => lhs; rw [e]
        unfold nearL
        rw [List.map_append, List.filter_append]
        have := hsn
        unfold nearL at this
        rw [this, List.append_assoc]; rfl
      refine CallK.by (F γ1 (H1 ++ [Blk.cells (mI m), Blk.cells (mI y)]) y hmm.ok ((hmm.hok _ (hok1.mono fun _ _ h => h.mono (by simp; omega)))) hd) fun v H2 ⟨hv, γ2, hv2, hto2⟩ => ?_
      subst hv
      simp only [ei, go_sem, Nat.reduceEqDiff, Nat.reduceAdd, Nat.reduceLT, Nat.reduceLeDiff, reduceIte, reduceCtorEq]
      refine fin ((hto.trans hmm).trans (hto2.le (by simp; omega))) ?_ (by simp [Fr.get])
      rw [hsn, List.foldl_append, hv2, hval]; rfl
  · have d1 : ¬ (i : Int) < bs.length := by omega
    obtain rfl : i = bs.length := by omega
    rw [List.take_length] at hval
    simp only [w105L0, d1, go_sem, Nat.reduceEqDiff, Nat.reduceAdd, Nat.reduceLT, Nat.reduceLeDiff, reduceIte, reduceCtorEq]
    exact leafN0 (LP := LPb H.length) hok1 (fun _ _ h => h) (by omega) ⟨rfl, γ1, hval, toA⟩
end Go.Proofs.Ytipfjfmdjmaflaa
