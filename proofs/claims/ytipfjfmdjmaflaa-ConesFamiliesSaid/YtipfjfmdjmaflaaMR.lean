/- Contracts: the reference's with. -/
import Derived.Test.YtipfjfmdjmaflaaMQ
namespace Go.Proofs.Ytipfjfmdjmaflaa
open Go.Abs AVal
set_option linter.unusedSimpArgs false
attribute [local go_sem] W_skip W_keep KQ_canon canon Fr.norm W_seq W_block W_scope W_exit W_ret W_ops W_draw KQ_nil KQ_norm_seq KQ_exit_seq KQ_ret_seq KQ_norm_block KQ_ret_block KQ_exit_block KQ_exit_loop KQ_ret_loop O_nil O_cons S_call S_mv SE_mv SD_mv S_pick SE_pick SD_pick S_bin SE_bin SD_bin S_eqb SE_eqb SD_eqb S_eqv SE_eqv SD_eqv S_eqnil SE_eqnil SD_eqnil S_un SE_un SD_un S_conv SE_conv SD_conv S_mkfn SE_mkfn SD_mkfn S_load SE_load SD_load S_nilck SE_nilck SD_nilck S_slS SE_slS SD_slS S_slP SE_slP SD_slP S_fldA SE_fldA SD_fldA S_fld SE_fld SD_fld S_ixS SE_ixS SD_ixS S_ixP SE_ixP SD_ixP S_ixV SE_ixV SD_ixV S_ixStr SE_ixStr SD_ixStr S_ext SE_ext SD_ext S_len SE_len SD_len S_lenStr SE_lenStr SD_lenStr S_lenc SE_lenc SD_lenc S_mn SE_mn SD_mn S_mx SE_mx SD_mx S_build SE_build SD_build S_alloc SD_alloc S_box SD_box S_bslice SD_bslice S_mksl SD_mksl S_store SD_store S_append SD_append S_copy SD_copy S_clr SD_clr S_mlen SE_mlen SD_mlen S_mget SE_mget SD_mget S_mval SE_mval SD_mval S_mentry SE_mentry SD_mentry S_mkmap SD_mkmap S_mset SD_mset S_mrange SD_mrange S_mnext mlenA mgetA mvalA mentryA msetA mrangeA cells_mp isCell_mp cellsOk_mp aq_some aa_some al_some alA_some aqd_some aad_some ald_some ape_some D_done D_both D_early D_step SE_call SD_call IOpd.ev Fr.get Fr.put Fr.putd entryFr pickA binA binI isSh shI eqbA eqvA ints ints_mI Option.map_some eqnilA unA convA loadA nilckA intA slSA slPA fldAA fldVA ixSA ixPA ixVA ixStrA extA lenA lenStrA mnA mxA AVal.fits fillA fillOk buildA opa srcA appA stoA copA clrA rdFree zeros List.length_nil List.length_cons List.length_map List.map_cons List.map_nil Option.map_some Option.map_none if_true if_false ite_true ite_false true_and and_true and_self implies_true forall_const true_implies Bool.false_eq_true Bool.not_true Bool.not_false decide_eq_true_eq decide_eq_false_iff_not eq_self List.getElem?_cons_zero List.getElem?_cons_succ List.getElem?_nil List.set_cons_zero List.set_cons_succ List.nil_append List.cons_append List.append_nil List.replicate_zero List.replicate_succ Nat.zero_add false_implies rng_lt rng_end rng_get cells_I cells_B cells_sl cut_one Int.toNat_natCast Int.natCast_nonneg List.headD_cons Int.lt_irrefl not_false_eq_true decide_false decide_true mI_length mI_cells mI_sz mI_isCell mI_mid mI_append mI_take mI_drop cells_val cells_own cells_agg isCell_I isCell_B isCell_nil isCell_sl isCell_own isCell_ptr isCell_fn isCell_rp isCell_yld cellsOk_I cellsOk_B cellsOk_nil cellsOk_sl cellsOk_own cellsOk_ptr cellsOk_fn cellsOk_rp cellsOk_yld cellsOk_agg cells_nil cells_ptr cells_fn cells_rp List.all_cons List.all_nil Bool.and_true Nat.mul_one Nat.zero_mul Nat.one_mul List.take_zero List.take_nil List.drop_nil List.drop_zero List.not_mem_nil Nat.le_refl Nat.zero_le mS_length mS_cells mS_sz mS_isCell mS_mid mS_append mS_take mS_drop cells_sI isCell_sI cellsOk_sI sI_eq succ_le_self' List.take_succ_cons List.drop_succ_cons List.take_length beq_self_eq_true List.mem_cons or_false forall_eq mI_put mI_rep O_guard' D_earlyG' D_stepG' W_cond' G_tt G_tf G_ft G_ff GE_tt GE_tf GE_ft GE_ff GS_tt GS_tf GS_ft GS_ff G_u GE_u GS_u IC_t IC_f xft xff xtt xtf z00 z20 z22 z02 zz tn0
theorem leafK2 {B t u : Nat} {e : Ex} {fr : Fr} {H : AHeap} {R : AVal → AHeap → Prop} (v : AVal) (hv : AVal.tup [fr.get t, fr.get u] = v) (hok : HOk (fun _ _ => False) H) (hB : B ≤ H.length) (hvid : vid H.length 3 v = true) (hR : R v H) (he : e = .norm ∨ e = .ret := by simp) : retA B [.tmp t, .tmp u] R e fr H [] :=
  ⟨he, by
    simp only [killM, resL, resA]
    exact ⟨⟨trivial, trivial, trivial⟩, idρ H.length, v, H, Wk.ok hok (fun _ _ h => h.elim) hB (fun p hp => by simp at hp; subst hp; exact ⟨hv, hvid⟩) (fun _ h => by cases h), hR⟩⟩
theorem ok1 {b0 : Blk} (hb0 : blkOk 2 b0 = true) (l : List (List Int)) : ∀ b ∈ [b0, Blk.cells (mS l)], blkOk 2 b = true := fun b hb => by
  rcases List.mem_cons.1 hb with rfl | hb
  · exact hb0
  · simp at hb; subst hb; simp [blkOk, mS_bnd]
theorem ins_cells {α : Type} (l : List α) (z y : α) {t n : Nat} (hn : l.length = n) (h : t < n) :
    List.take t (List.take (t + 1) (l ++ [z]) ++ List.take (min (n + 1 - t) (n + 1 - (t + 1))) (List.take (n + 1 - t) (List.drop t (l ++ [z]))) ++ List.drop (t + 1 + min (n + 1 - t) (n + 1 - (t + 1))) (l ++ [z])) ++ [y] ++
      List.drop (t + 1) (List.take (t + 1) (l ++ [z]) ++ List.take (min (n + 1 - t) (n + 1 - (t + 1))) (List.take (n + 1 - t) (List.drop t (l ++ [z]))) ++ List.drop (t + 1 + min (n + 1 - t) (n + 1 - (t + 1))) (l ++ [z])) = l.take t ++ y :: l.drop t := by
  have e1 : min (n + 1 - t) (n + 1 - (t + 1)) = n - t := by omega
  have e2 : List.take (n + 1 - t) (List.drop t (l ++ [z])) = List.drop t (l ++ [z]) := List.take_of_length_le (by simp; omega)
  have e3 : List.take (n - t) (List.drop t (l ++ [z])) = List.drop t l := by
    rw [List.drop_append_of_le_length (by omega), List.take_append_of_le_length (by simp; omega), List.take_of_length_le (by simp; omega)]
  have e4 : List.drop (t + 1 + (n - t)) (l ++ [z]) = [] := List.drop_of_length_le (by simp; omega)
  have e5 : List.take (t + 1) (l ++ [z]) = List.take (t + 1) l := List.take_append_of_le_length (by omega)
  have e6 : (List.take (t + 1) l).length = t + 1 := by rw [List.length_take]; omega
  rw [e1, e2, e3, e4, e5, List.append_nil, List.take_append_of_le_length (by omega), List.take_take, Nat.min_eq_left (by omega), List.drop_append_of_le_length (by omega), List.drop_of_length_le (by omega), List.nil_append]
  simp
theorem mS_hd0 {l : List (List Int)} {i : Nat} (h : i < l.length) : (mS (l.drop i)).headD any = .sl false false (mI (l.getD i [])) := by
  rw [List.drop_eq_getElem_cons h, List.getD_eq_getElem?_getD, List.getElem?_eq_getElem h]; rfl
set_option maxRecDepth 20000 in
set_option maxHeartbeats 4000000 in
theorem s95g (b0 : Blk) (hb0 : blkOk 2 b0 = true) (hbc : ∀ i, i = 0 → blkN (fun _ _ => False) 4 i b0) (hbc2 : blkN (fun _ _ => False) 2 0 b0) (l : List (List Int)) (x : List Int) (n : Nat) (h4 : ∀ y ∈ l, y.length = n) (hx : x.length = n) (hn : n ≤ 4) (hs : l.Pairwise fun a b => Sp.cmpL a b < 0) (hl : l.length ≤ 40000000000) :
    Abs.Spec Try.prog 95 [.own 1 0 l.length l.length 1, .sl false false (mI x)] [b0, .cells (mS l)] fun v H' => (x ∈ l ∧ v = .tup [.own 1 0 l.length l.length 1, B false] ∧ H' = [b0, .cells (mS l)]) ∨ x ∉ l ∧ ∃ m : List (List Int), m.length = l.length + 1 ∧ m.Pairwise (fun a b => Sp.cmpL a b < 0) ∧ (∀ y, y ∈ m ↔ y ∈ l ∨ y = x) ∧ v = .tup [.own 3 0 m.length m.length 1, B true] ∧ H' = [b0, .dead, .cells [nilSl], .cells (mS m)] := by
  refine Abs.Spec.walk mixed fn95 nn95 t95 q95 nt95 (by simp) ?_
  simp only [w95, go_sem, Nat.reduceEqDiff, Nat.reduceAdd, Nat.reduceLT, Nat.reduceLeDiff, reduceIte, reduceCtorEq]
  refine W_loop (fun q : { q : Nat × Nat // q.1 ≤ q.2 ∧ q.2 ≤ l.length ∧ (∀ i < q.1, Sp.cmpL (l.getD i []) x < 0) ∧ ∀ i, q.2 ≤ i → i < l.length → ¬ Sp.cmpL (l.getD i []) x < 0 } => ([(0, .own 1 0 l.length l.length 1), (1, .sl false false (mI x)), (6, I q.1.1), (7, I q.1.2)], [b0, .cells (mS l)])) (fun q => q.1.2 - q.1.1) ⟨(0, l.length), by simp, by simp, by simp, fun i h1 h2 => by dsimp only at h1; omega⟩ (idρ 2) (WkB (B := 2) rfl (ok1 hb0 l) (by simp [Fr.get, vid, AVal.bnd, mI_bnd])) ?_
  rintro ⟨⟨f, t⟩, h1, h2, h3, h5⟩
  dsimp only at h1 h2 h3 h5 ⊢
  by_cases hft : f < t
  · have d1 : (f : Int) < t := by omega
    obtain ⟨m, hm⟩ : ∃ m : Nat, (f + t) / 2 = m := ⟨_, rfl⟩
    have e1 : IntKind.i64.wrap ((f : Int) + t) = (f : Int) + t := wrap64 (by omega) (by omega)
    have e2 : IntKind.i64.wrap (((f : Int) + t).tdiv 2) = m := by
      rw [Int.tdiv_eq_ediv_of_nonneg (by omega), wrap64 (by omega) (by omega)]; omega
    have e3 : IntKind.i64.wrap ((m : Int) + 1) = (m : Int) + 1 := wrap64 (by omega) (by omega)
    have hml : m < l.length := by omega
    have gm := mS_hd0 hml
    have lm := h4 _ (gd_mem' hml)
    have d2 : (m : Int) < l.length := by omega
    obtain ⟨z, hz⟩ : ∃ z, l.getD m [] = z := ⟨_, rfl⟩
    rw [hz] at gm lm
    simp only [w95L0, d1, e1, e2, gm, d2, go_sem, Nat.reduceEqDiff, Nat.reduceAdd, Nat.reduceLT, Nat.reduceLeDiff, reduceIte, reduceCtorEq]
    refine ⟨by decide, by omega, ?_⟩
    refine CallK.pure (liftV (s83 false false false false z x (by omega) (by omega)) (by simp [bndL, AVal.bnd, mI_bnd]) rfl _) ?_
    have asc : ∀ i j, i ≤ j → j < l.length → Sp.cmpL (l.getD i []) (l.getD j []) ≤ 0 := fun i j hij hj => by
      rw [List.getD_eq_getElem?_getD, List.getD_eq_getElem?_getD, List.getElem?_eq_getElem (by omega), List.getElem?_eq_getElem hj]
      rcases Nat.lt_or_eq_of_le hij with h | h
      · have := List.pairwise_iff_getElem.1 hs i j (by omega) hj h
        simp only [Option.getD_some]; omega
      · subst h; simp only [Option.getD_some]; rw [Sp.cmpL_self]; exact Int.le_refl _
    by_cases hc : Sp.cmpL z x < 0
    · simp only [hc, decide_true, e3, go_sem, Nat.reduceEqDiff, Nat.reduceAdd, Nat.reduceLT, Nat.reduceLeDiff, reduceIte, reduceCtorEq]
      refine roundB ⟨(m + 1, t), by dsimp only; omega, h2, fun i hi => ?_, h5⟩ (by dsimp only; omega) rfl rfl (ok1 hb0 l) (by simp [Fr.get, vid, AVal.bnd, mI_bnd])
      have k1 := asc i m (by dsimp only at hi; omega) hml
      rw [hz] at k1
      by_cases h0 : Sp.cmpL (l.getD i []) x < 0
      · exact h0
      · exfalso
        have k2 := Sp.cmpL_anti (l.getD i []) x
        have k3 := Sp.cmpL_trans (a := x) (b := l.getD i []) (c := z) (by omega) k1
        have k4 := Sp.cmpL_anti z x
        omega
    · simp only [hc, decide_false, go_sem, Nat.reduceEqDiff, Nat.reduceAdd, Nat.reduceLT, Nat.reduceLeDiff, reduceIte, reduceCtorEq]
      refine roundB ⟨(f, m), by dsimp only; omega, by dsimp only; omega, h3, fun i hi hil => ?_⟩ (by dsimp only; omega) rfl rfl (ok1 hb0 l) (by simp [Fr.get, vid, AVal.bnd, mI_bnd])
      have k1 := asc m i (by dsimp only at hi; omega) hil
      rw [hz] at k1
      intro h0
      have k2 := Sp.cmpL_trans (a := z) (b := l.getD i []) (c := x) k1 (by omega)
      have : z = x := Sp.cmpL_eq (by omega)
      subst this
      have := Sp.cmpL_anti (l.getD i []) z
      omega
  · have d1 : ¬ (f : Int) < t := by omega
    have ef : t = f := by omega
    subst ef
    by_cases hxl : x ∈ l
    · obtain ⟨j, hj, hjx⟩ := List.getElem_of_mem hxl
      have gj : l.getD j [] = x := by rw [List.getD_eq_getElem?_getD, List.getElem?_eq_getElem hj]; exact hjx
      have htj : t ≤ j := by
        refine Decidable.byContradiction fun h => ?_
        have := h3 j (by omega)
        rw [gj, Sp.cmpL_self] at this
        omega
      have htl : t < l.length := by omega
      have etj : t = j := by
        refine Decidable.byContradiction fun h => ?_
        have k1 := List.pairwise_iff_getElem.1 hs t j (by omega) hj (by omega)
        have k2 := h5 t (Nat.le_refl _) htl
        rw [List.getD_eq_getElem?_getD, List.getElem?_eq_getElem htl] at k2
        rw [hjx] at k1
        exact k2 k1
      subst etj
      have d2 : (t : Int) < l.length := by omega
      have gt := mS_hd0 htl
      rw [gj] at gt
      have z : (x == x) = true := beq_self_eq_true x
      have ok2 : HOk (fun _ _ => False) [b0, .cells (mS l)] := fun i b hi => by
        rcases i with _ | _ | i
        · cases hi; exact hbc2
        · cases hi; simp [blkN, mS_bnd]
        · simp at hi
      simp only [w95L0, w95T1, d1, d2, decide_true, gt, go_sem, Nat.reduceEqDiff, Nat.reduceAdd, Nat.reduceLT, Nat.reduceLeDiff, reduceIte, reduceCtorEq]
      refine ⟨by omega, ?_⟩
      refine CallK.pure (liftV (s75 false false false false x x (by omega) (by omega)) (by simp [bndL, AVal.bnd, mI_bnd]) rfl _) ?_
      rw [z]
      simp only [go_sem, Nat.reduceEqDiff, Nat.reduceAdd, Nat.reduceLT, Nat.reduceLeDiff, reduceIte, reduceCtorEq]
      exact leafK2 _ rfl ok2 (by simp) rfl (.inl ⟨hxl, rfl, rfl⟩)
    have hni : x ∉ l := hxl
    obtain ⟨M, hM⟩ : ∃ M, l.take t ++ x :: l.drop t = M := ⟨_, rfl⟩
    have Ml : M.length = l.length + 1 := by rw [← hM]; simp; omega
    have fin : M.Pairwise (fun a b => Sp.cmpL a b < 0) ∧ ∀ y, y ∈ M ↔ y ∈ l ∨ y = x := by
      have hlo : ∀ y ∈ l.take t, Sp.cmpL y x < 0 := fun y hy => by
        obtain ⟨i, hi, rfl⟩ := List.getElem_of_mem hy
        rw [List.length_take] at hi
        have := h3 i (by omega)
        rw [List.getD_eq_getElem?_getD, List.getElem?_eq_getElem (by omega)] at this
        rw [List.getElem_take]; exact this
      have hhi : ∀ y ∈ l.drop t, Sp.cmpL x y < 0 := fun y hy => by
        have hyl := List.mem_of_mem_drop hy
        obtain ⟨i, hi, rfl⟩ := List.getElem_of_mem hy
        rw [List.length_drop] at hi
        have := h5 (t + i) (by omega) (by omega)
        rw [List.getD_eq_getElem?_getD, List.getElem?_eq_getElem (by omega)] at this
        rw [List.getElem_drop] at hyl ⊢
        simp only [Option.getD_some] at this
        have k1 := Sp.cmpL_anti l[t + i] x
        have k2 : Sp.cmpL l[t + i] x ≠ 0 := fun e => hni (by rw [← Sp.cmpL_eq e]; exact hyl)
        omega
      refine ⟨?_, fun y => ?_⟩
      · rw [← hM, List.pairwise_append, List.pairwise_cons]
        refine ⟨hs.sublist (List.take_sublist t l), ⟨hhi, hs.sublist (List.drop_sublist t l)⟩, fun a ha b hb => ?_⟩
        rcases List.mem_cons.1 hb with rfl | hb
        · exact hlo a ha
        · have k1 := hlo a ha
          have k2 := hhi b hb
          have k3 := Sp.cmpL_trans (a := a) (b := x) (c := b) (by omega) (by omega)
          have k4 : Sp.cmpL a b ≠ 0 := fun e => by
            have := Sp.cmpL_eq e
            subst this
            have := Sp.cmpL_anti a x
            omega
          omega
      · rw [← hM, List.mem_append, List.mem_cons]
        have : y ∈ l ↔ y ∈ l.take t ∨ y ∈ l.drop t := by rw [← List.mem_append, List.take_append_drop]
        rw [this]
        constructor
        · rintro (h | h | h)
          · exact .inl (.inl h)
          · exact .inr h
          · exact .inl (.inr h)
        · rintro ((h | h) | h)
          · exact .inl h
          · exact .inr (.inr h)
          · exact .inr (.inl h)
    have mc : (mS l).length = l.length := mS_length
    have allc : ∀ u ∈ mS l ++ [val (Value.slice none 0 0)], u.isCell = true := fun u hu => by
      rcases List.mem_append.1 hu with hu | hu
      · obtain ⟨y, -, rfl⟩ := List.mem_map.1 hu; rfl
      · simp at hu; subst hu; rfl
    have hM' : List.take t (mS l) ++ .sl false false (mI x) :: List.drop t (mS l) = mS M := by
      rw [← hM]; simp [mS, sI, List.map_take, List.map_drop]
    have hok : HOk (fun _ _ => False) [b0, .dead, .cells [val (Value.slice none 0 0)], .cells (mS M)] := fun i b hi => by
      rcases i with _ | _ | _ | _ | i
      · cases hi; exact hbc 0 rfl
      · cases hi; trivial
      · cases hi; rfl
      · cases hi; simp [blkN, mS_bnd]
      · simp at hi
    simp only [w95L0, w95T1, d1, go_sem, Nat.reduceEqDiff, Nat.reduceAdd, Nat.reduceLT, Nat.reduceLeDiff, reduceIte, reduceCtorEq]
    have e4 : IntKind.i64.wrap ((t : Int) + 1) = ((t + 1 : Nat) : Int) := by rw [wrap64 (by omega) (by omega)]; rfl
    have n2 : ¬ ((t : Int) = ((l.length + 1 : Nat) : Int) ∧ 0 < (t : Int)) := by omega
    have zc : (val (Value.slice none 0 0)).cellsOk = true := rfl
    by_cases htl : t < l.length
    · have d2 : (t : Int) < l.length := by omega
      have gt := mS_hd0 htl
      have lt' := h4 _ (gd_mem' htl)
      have hne : (l.getD t [] == x) = false := beq_eq_false_iff_ne.2 fun e => hni (by rw [← e]; exact gd_mem' htl)
      obtain ⟨z, hz⟩ : ∃ z, l.getD t [] = z := ⟨_, rfl⟩
      rw [hz] at gt lt' hne
      have n1 : ¬ (((t + 1 : Nat) : Int) = ((l.length + 1 : Nat) : Int) ∧ 0 < ((t + 1 : Nat) : Int)) := by omega
      simp only [d2, decide_true, gt, go_sem, Nat.reduceEqDiff, Nat.reduceAdd, Nat.reduceLT, Nat.reduceLeDiff, reduceIte, reduceCtorEq]
      refine ⟨by omega, ?_⟩
      refine CallK.pure (liftV (s75 false false false false z x (by omega) (by omega)) (by simp [bndL, AVal.bnd, mI_bnd]) rfl _) ?_
      rw [hne]
      simp only [e4, n1, n2, Int.toNat_natCast, go_sem, Nat.reduceEqDiff, Nat.reduceAdd, Nat.reduceLT, Nat.reduceLeDiff, reduceIte, reduceCtorEq]
      have hic := ins_cells (mS l) (val (Value.slice none 0 0)) (.sl false false (mI x)) mS_length htl
      rw [hic, hM']
      refine ⟨by omega, ⟨by omega, by omega⟩, ⟨by omega, by omega⟩, ⟨⟨?_, fun u hu => allc u (List.mem_of_mem_drop (List.mem_of_mem_take hu))⟩, ?_⟩, by omega, ?_, ?_⟩
      · simp [mS_length]; omega
      · simp [mS_length]; omega
      · simp [mS_length]; omega
      · exact leafK2 _ rfl hok (by simp) rfl (.inr ⟨hni, M, Ml, fin.1, fin.2, by rw [Ml]; rfl, rfl⟩)
    · have d2 : ¬ (t : Int) < l.length := by omega
      have n1 : ((t + 1 : Nat) : Int) = ((l.length + 1 : Nat) : Int) ∧ 0 < ((t + 1 : Nat) : Int) := by omega
      have pos : (0 : Int) < ((l.length + 1 : Nat) : Int) := by omega
      simp only [d2, decide_false, e4, n1, n2, pos, Int.toNat_natCast, go_sem, Nat.reduceEqDiff, Nat.reduceAdd, Nat.reduceLT, Nat.reduceLeDiff, reduceIte, reduceCtorEq]
      have et : t = l.length := by omega
      have hic : List.take t (mS l ++ [val (Value.slice none 0 0)]) ++ [.sl false false (mI x)] ++ List.drop (t + 1) (mS l ++ [val (Value.slice none 0 0)]) = mS M := by
        have q1 : List.drop (t + 1) (mS l ++ [val (Value.slice none 0 0)]) = [] := List.drop_of_length_le (by simp [mS_length]; omega)
        have q2 : List.drop t (mS l) = [] := List.drop_of_length_le (by omega)
        rw [← hM', List.take_append_of_le_length (by omega), q1, q2, List.append_nil]
      rw [hic]
      refine ⟨by omega, ⟨by omega, by omega⟩, ⟨?_, fun u hu => allc u (List.mem_of_mem_drop (List.mem_of_mem_take hu))⟩, by omega, ?_, ?_⟩
      · simp [mS_length]; omega
      · simp [mS_length]; omega
      · exact leafK2 _ rfl hok (by simp) rfl (.inr ⟨hni, M, Ml, fin.1, fin.2, by rw [Ml]; rfl, rfl⟩)
theorem s95 (b0 : Blk) (hb0 : blkOk 2 b0 = true) (hbc : ∀ i, i = 0 → blkN (fun _ _ => False) 4 i b0) (hbc2 : blkN (fun _ _ => False) 2 0 b0) (l : List (List Int)) (x : List Int) (n : Nat) (h4 : ∀ y ∈ l, y.length = n) (hx : x.length = n) (hn : n ≤ 4) (hs : l.Pairwise fun a b => Sp.cmpL a b < 0) (hni : x ∉ l) (hl : l.length ≤ 1000) :
    Abs.Spec Try.prog 95 [.own 1 0 l.length l.length 1, .sl false false (mI x)] [b0, .cells (mS l)] fun v H' => ∃ m : List (List Int), m.length = l.length + 1 ∧ m.Pairwise (fun a b => Sp.cmpL a b < 0) ∧ (∀ y, y ∈ m ↔ y ∈ l ∨ y = x) ∧ v = .tup [.own 3 0 m.length m.length 1, B true] ∧ H' = [b0, .dead, .cells [nilSl], .cells (mS m)] :=
  (s95g b0 hb0 hbc hbc2 l x n h4 hx hn hs (by omega)).mono fun v H' h => by
    rcases h with ⟨h, -⟩ | ⟨-, h⟩
    · exact absurd h hni
    · exact h
end Go.Proofs.Ytipfjfmdjmaflaa
