/- Contracts: comparing, sorting, vectors for others. -/
import Derived.Test.YtipfjfmdjmaflaaLF
import Derived.Test.YtipfjfmdjmaflaaLQ
import Derived.Test.YtipfjfmdjmaflaaKS
namespace Go.Proofs.Ytipfjfmdjmaflaa
open Go.Abs AVal
set_option linter.unusedSimpArgs false
attribute [local go_sem] W_skip W_keep KQ_canon canon Fr.norm W_seq W_block W_scope W_exit W_ret W_ops W_draw KQ_nil KQ_norm_seq KQ_exit_seq KQ_ret_seq KQ_norm_block KQ_ret_block KQ_exit_block KQ_exit_loop KQ_ret_loop O_nil O_cons S_call S_mv SE_mv SD_mv S_pick SE_pick SD_pick S_bin SE_bin SD_bin S_eqb SE_eqb SD_eqb S_eqv SE_eqv SD_eqv S_eqnil SE_eqnil SD_eqnil S_un SE_un SD_un S_conv SE_conv SD_conv S_mkfn SE_mkfn SD_mkfn S_load SE_load SD_load S_nilck SE_nilck SD_nilck S_slS SE_slS SD_slS S_slP SE_slP SD_slP S_fldA SE_fldA SD_fldA S_fld SE_fld SD_fld S_ixS SE_ixS SD_ixS S_ixP SE_ixP SD_ixP S_ixV SE_ixV SD_ixV S_ixStr SE_ixStr SD_ixStr S_ext SE_ext SD_ext S_len SE_len SD_len S_lenStr SE_lenStr SD_lenStr S_lenc SE_lenc SD_lenc S_mn SE_mn SD_mn S_mx SE_mx SD_mx S_build SE_build SD_build S_alloc SD_alloc S_box SD_box S_bslice SD_bslice S_mksl SD_mksl S_store SD_store S_append SD_append S_copy SD_copy S_clr SD_clr S_mlen SE_mlen SD_mlen S_mget SE_mget SD_mget S_mval SE_mval SD_mval S_mentry SE_mentry SD_mentry S_mkmap SD_mkmap S_mset SD_mset S_mrange SD_mrange S_mnext mlenA mgetA mvalA mentryA msetA mrangeA cells_mp isCell_mp cellsOk_mp aq_some aa_some al_some alA_some aqd_some aad_some ald_some ape_some D_done D_both D_early D_step SE_call SD_call IOpd.ev Fr.get Fr.put Fr.putd entryFr pickA binA binI isSh shI eqbA eqvA ints ints_mI Option.map_some eqnilA unA convA loadA nilckA intA slSA slPA fldAA fldVA ixSA ixPA ixVA ixStrA extA lenA lenStrA mnA mxA AVal.fits fillA fillOk buildA opa srcA appA stoA copA clrA rdFree zeros List.length_nil List.length_cons List.length_map List.map_cons List.map_nil Option.map_some Option.map_none if_true if_false ite_true ite_false true_and and_true and_self implies_true forall_const true_implies Bool.false_eq_true Bool.not_true Bool.not_false decide_eq_true_eq decide_eq_false_iff_not eq_self List.getElem?_cons_zero List.getElem?_cons_succ List.getElem?_nil List.set_cons_zero List.set_cons_succ List.nil_append List.cons_append List.append_nil List.replicate_zero List.replicate_succ Nat.zero_add false_implies rng_lt rng_end rng_get cells_I cells_B cells_sl cut_one Int.toNat_natCast Int.natCast_nonneg List.headD_cons Int.lt_irrefl not_false_eq_true decide_false decide_true mI_length mI_cells mI_sz mI_isCell mI_mid mI_append mI_take mI_drop cells_val cells_own cells_agg isCell_I isCell_B isCell_nil isCell_sl isCell_own isCell_ptr isCell_fn isCell_rp isCell_yld cellsOk_I cellsOk_B cellsOk_nil cellsOk_sl cellsOk_own cellsOk_ptr cellsOk_fn cellsOk_rp cellsOk_yld cellsOk_agg cells_nil cells_ptr cells_fn cells_rp List.all_cons List.all_nil Bool.and_true Nat.mul_one Nat.zero_mul Nat.one_mul List.take_zero List.take_nil List.drop_nil List.drop_zero List.not_mem_nil Nat.le_refl Nat.zero_le mS_length mS_cells mS_sz mS_isCell mS_mid mS_append mS_take mS_drop cells_sI isCell_sI cellsOk_sI sI_eq succ_le_self' List.take_succ_cons List.drop_succ_cons List.take_length beq_self_eq_true List.mem_cons or_false forall_eq mI_put mI_rep O_guard' D_earlyG' D_stepG' W_cond' G_tt G_tf G_ft G_ff GE_tt GE_tf GE_ft GE_ff GS_tt GS_tf GS_ft GS_ff G_u GE_u GS_u IC_t IC_f xft xff xtt xtf z00 z20 z22 z02 zz tn0
theorem s117 (x : Int) : Abs.Spec Try.prog 117 [I x] [] fun v H' => H' = [] ∧ v = B false := by
  refine Abs.Spec.walk mixed fn117 nn117 t117 q117 nt117 (by simp) ?_
  simp only [w117, bne_self_eq_false, go_sem, Nat.reduceEqDiff, Nat.reduceAdd, Nat.reduceLT, Nat.reduceLeDiff, reduceIte, reduceCtorEq]
  exact leaf (B _) rfl ⟨rfl, rfl⟩
def cmp1 (x y : Int) : Int := if x < y then -1 else if x > y then 1 else 0
theorem s86 (x y : Int) : Abs.Spec Try.prog 86 [I x, I y] [] fun v H' => H' = [] ∧ v = I (cmp1 x y) := by
  refine Abs.Spec.walk mixed fn86 nn86 t86 q86 nt86 (by simp) ?_
  simp only [w86, go_sem, Nat.reduceEqDiff, Nat.reduceAdd, Nat.reduceLT, Nat.reduceLeDiff, reduceIte, reduceCtorEq]
  refine CallK.by (CallV.of_spec (s117 x)) fun v H' ⟨h1, h2⟩ => ?_
  subst h1 h2
  simp only [go_sem, Nat.reduceEqDiff, Nat.reduceAdd, Nat.reduceLT, Nat.reduceLeDiff, reduceIte, reduceCtorEq]
  refine CallK.by (CallV.of_spec (s117 y)) fun v H' ⟨h1, h2⟩ => ?_
  subst h1 h2
  simp only [go_sem, Nat.reduceEqDiff, Nat.reduceAdd, Nat.reduceLT, Nat.reduceLeDiff, reduceIte, reduceCtorEq]
  refine IC.splitP (fun h => ?_) fun h => ?_
  · simp only [go_sem, Nat.reduceEqDiff, Nat.reduceAdd, Nat.reduceLT, Nat.reduceLeDiff, reduceIte, reduceCtorEq]
    exact leaf (I _) rfl ⟨rfl, by rw [cmp1, if_pos h]⟩
  · simp only [go_sem, Nat.reduceEqDiff, Nat.reduceAdd, Nat.reduceLT, Nat.reduceLeDiff, reduceIte, reduceCtorEq]
    refine IC.splitP (fun h2 => ?_) fun h2 => ?_
    · simp only [go_sem, Nat.reduceEqDiff, Nat.reduceAdd, Nat.reduceLT, Nat.reduceLeDiff, reduceIte, reduceCtorEq]
      exact leaf (I _) rfl ⟨rfl, by rw [cmp1, if_neg h, if_pos h2]⟩
    · simp only [go_sem, Nat.reduceEqDiff, Nat.reduceAdd, Nat.reduceLT, Nat.reduceLeDiff, reduceIte, reduceCtorEq]
      exact leaf (I _) rfl ⟨rfl, by rw [cmp1, if_neg h, if_neg h2]⟩
theorem s41 (nn t nn' t' : Bool) (a b : List Int) (ha : a.length < 9223372036854775808) (hb : b.length < 9223372036854775808) : Abs.Spec Try.prog 41 [.sl nn t (mI a), .sl nn' t' (mI b)] [] fun v H' => H' = [] ∧ v = I (Sp.cmpL a b) := by
  refine Abs.Spec.walk mixed fn41 nn41 t41 q41 nt41 (by simp) ?_
  simp only [w41, go_sem, Nat.reduceEqDiff, Nat.reduceAdd, Nat.reduceLT, Nat.reduceLeDiff, reduceIte, reduceCtorEq]
  refine W_loop (fun q : { i : Nat // i ≤ a.length ∧ i ≤ b.length ∧ Sp.cmpL (a.drop i) (b.drop i) = Sp.cmpL a b } => ([(0, .sl nn t (mI a)), (1, .sl nn' t' (mI b)), (9, .sl nn t (mI a)), (10, I a.length), (11, I q.1)], [])) (fun q => a.length - q.1)
    ⟨0, by omega, by omega, rfl⟩ [] (Wk.nil (by simp [fle, vle, Fr.get, mI_bnd])) ?_
  rintro ⟨i, hi, hib, hinv⟩
  dsimp only
  by_cases hil : i < a.length
  · have hz : decide ((i : Int) < a.length) = true := decide_eq_true (by omega)
    have hil' : (i : Int) < a.length := by omega
    have hwk : IntKind.i64.wrap ((i : Int) + 1) = ((i + 1 : Nat) : Int) := by rw [wrap64 (by omega) (by omega)]; rfl
    obtain ⟨x, hx⟩ : ∃ x, a.getD i 0 = x := ⟨_, rfl⟩
    have hx' : a[i] = x := by rw [← hx, List.getD_eq_getElem?_getD, List.getElem?_eq_getElem hil]; rfl
    rw [List.drop_eq_getElem_cons hil, hx'] at hinv
    by_cases hbl : i < b.length
    · have hz2 : decide ((i : Int) ≥ b.length) = false := decide_eq_false (by omega)
      have hbl' : (i : Int) < b.length := by omega
      obtain ⟨y, hy⟩ : ∃ y, b.getD i 0 = y := ⟨_, rfl⟩
      have hy' : b[i] = y := by rw [← hy, List.getD_eq_getElem?_getD, List.getElem?_eq_getElem hbl]; rfl
      rw [List.drop_eq_getElem_cons hbl, hy', Sp.cmpL] at hinv
      simp only [w41L0, hz, hil', mI_get, hil, hx, mI_hd, hz2, hbl, hbl', hy, go_sem, Nat.reduceEqDiff, Nat.reduceAdd, Nat.reduceLT, Nat.reduceLeDiff, reduceIte, reduceCtorEq]
      refine CallK.pure (liftV (s86 x y) (by simp [bndL, AVal.bnd]) rfl _) ?_
      have c1 : ((-1 : Int) != 0) = true := rfl
      have c2 : ((1 : Int) != 0) = true := rfl
      by_cases h1 : x < y
      · rw [if_pos h1] at hinv
        rw [cmp1, if_pos h1]
        simp only [c1, go_sem, Nat.reduceEqDiff, Nat.reduceAdd, Nat.reduceLT, Nat.reduceLeDiff, reduceIte, reduceCtorEq]
        exact leaf (I _) rfl ⟨rfl, by rw [hinv]⟩
      · rw [if_neg h1] at hinv
        by_cases h2 : x > y
        · rw [if_pos h2] at hinv
          rw [cmp1, if_neg h1, if_pos h2]
          simp only [c2, go_sem, Nat.reduceEqDiff, Nat.reduceAdd, Nat.reduceLT, Nat.reduceLeDiff, reduceIte, reduceCtorEq]
          exact leaf (I _) rfl ⟨rfl, by rw [hinv]⟩
        · rw [if_neg h2] at hinv
          rw [cmp1, if_neg h1, if_neg h2]
          simp only [z00, hwk, go_sem, Nat.reduceEqDiff, Nat.reduceAdd, Nat.reduceLT, Nat.reduceLeDiff, reduceIte, reduceCtorEq]
          refine round0 rfl ⟨i + 1, by omega, by omega, hinv⟩ (by dsimp only; omega) rfl ?_
          simp [fle, vle, Fr.get, mI_bnd]
    · have hz2 : decide ((i : Int) ≥ b.length) = true := decide_eq_true (by omega)
      rw [List.drop_of_length_le (show b.length ≤ i by omega), Sp.cmpL] at hinv
      simp only [w41L0, hz, hil', mI_get, hil, hx, mI_hd, hz2, go_sem, Nat.reduceEqDiff, Nat.reduceAdd, Nat.reduceLT, Nat.reduceLeDiff, reduceIte, reduceCtorEq]
      exact leaf (I _) rfl ⟨rfl, by rw [hinv]⟩
  · have hz : decide ((i : Int) < a.length) = false := decide_eq_false (by omega)
    obtain rfl : i = a.length := by omega
    rw [List.drop_length] at hinv
    simp only [w41L0, hz, w41T1, go_sem, Nat.reduceEqDiff, Nat.reduceAdd, Nat.reduceLT, Nat.reduceLeDiff, reduceIte, reduceCtorEq]
    refine IC.splitP (fun h => ?_) fun h => ?_
    · obtain ⟨y, r, hr⟩ : ∃ y r, b.drop a.length = y :: r := by
        cases hd : b.drop a.length with
        | nil => have := List.length_drop (l := b) (i := a.length); rw [hd] at this; simp at this; omega
        | cons y r => exact ⟨y, r, rfl⟩
      rw [hr, Sp.cmpL] at hinv
      simp only [go_sem, Nat.reduceEqDiff, Nat.reduceAdd, Nat.reduceLT, Nat.reduceLeDiff, reduceIte, reduceCtorEq]
      exact leaf (I _) rfl ⟨rfl, by rw [hinv]⟩
    · rw [List.drop_of_length_le (by omega), Sp.cmpL] at hinv
      simp only [go_sem, Nat.reduceEqDiff, Nat.reduceAdd, Nat.reduceLT, Nat.reduceLeDiff, reduceIte, reduceCtorEq]
      exact leaf (I _) rfl ⟨rfl, by rw [hinv]⟩
/-- slices.SortFunc by slices.Compare, of rows. -/
theorem sortRows {H : AHeap} {i n lb : Nat} {xs : List (List Int)} (hx : ∀ x ∈ xs, x.length < 9223372036854775808) (hn : n = xs.length) (hi : H[i]? = some (.cells (mS xs))) (hsz : n < 4611686018427387904) :
    CallV Try.prog (.fn (.func 46) [] []) [.own i 0 n lb 1, .fn (.func 41) [] []] H fun v' H' => v' = .tup [] ∧ H' = H.set i (.cells (mS (Sp.sortV xs))) := by
  have hk := CallV.sortFunc sortLay (α := { l : List Int // l.length < 9223372036854775808 }) (fun l => sI l.1) (fun E x v h => by
    rcases h.inv_sl with ⟨-, -, rfl⟩ | ⟨b, off, cap, k, rfl, -⟩ | ⟨-, -, a, rfl⟩ <;> rfl) (fun H x => by simp [vle, sI, mI_bnd]) (fun a b => Sp.cmpL a.1 b.1) (Sp.swoL fun a : { l : List Int // l.length < 9223372036854775808 } => a.1) (g := 41)
    (fun x y => s41 false false false false x.1 y.1 x.2 y.2) (H := H) (i := i) (n := n) (lb := lb) (xs := xs.attach.map fun x => ⟨x.1, hx x.1 x.2⟩) (rest := []) (by simpa using hn) (by
      rw [hi, List.append_nil, List.map_map]
      congr 2
      show xs.map sI = _
      conv => lhs; rw [← List.attach_map_subtype_val xs, List.map_map]
      rfl) hsz
  refine hk.mono fun v' H' ⟨hv, ys, hp, hs, hH⟩ => ⟨hv, ?_⟩
  have e : ys.map (·.1) = Sp.sortV xs := by
    refine Sp.asc_unique ?_ (Sp.sortV_asc xs) ?_
    · rw [List.pairwise_map]
      refine hs.imp fun {a b} h => ?_
      have := Sp.cmpL_anti b.1 a.1
      simp only [ltOf, decide_eq_false_iff_not] at h
      omega
    · refine ((hp.map (·.1)).trans ?_).trans (Sp.sortV_perm xs).symm
      rw [List.map_map]
      have : (xs.attach.map ((fun x : { l : List Int // l.length < 9223372036854775808 } => x.1) ∘ fun x => ⟨x.1, hx x.1 x.2⟩)) = xs := List.attach_map_subtype_val xs
      rw [this]
  rw [hH, ← e, List.append_nil]
  show _ = H.set i (.cells ((ys.map (·.1)).map sI))
  rw [List.map_map]; rfl
theorem s38o (t : Bool) (xs : List Int) (h0 : xs ≠ []) (hl : xs.length ≤ 137388953472) : Abs.Spec Try.prog 38 [.sl true t (mI xs)] [] fun v H' => v = .own 0 0 xs.length xs.length 1 ∧ H' = [.cells (mI xs)] := by
  refine Abs.Spec.walk mixed fn38 nn38 t38 q38 nt38 (by simp) ?_
  have h1 : ¬ xs.length ≤ 0 := by have := List.length_pos_iff.2 h0; omega
  simp only [w38, h1, go_sem, Nat.reduceEqDiff, Nat.reduceAdd, Nat.reduceLT, Nat.reduceLeDiff, reduceIte, reduceCtorEq]
  refine ⟨?_, ?_⟩
  · simp; omega
  · exact leafO _ _ [some 1] (Wk.one rfl rfl mI_bnd (by simp [fle, vle, Fr.get])) ⟨rfl, rfl⟩
theorem s38o' (t : Bool) (xs : List Int) (h0 : xs ≠ []) (hl : xs.length ≤ 137388953472) : Abs.Spec Try.prog 38 [.sl false t (mI xs)] [] fun v H' => v = .own 0 0 xs.length xs.length 1 ∧ H' = [.cells (mI xs)] :=
  Spec.split_nil (post := []) (fun h => absurd (by simpa [mI] using h) h0) (s38o t xs h0 hl)
/-- A vector for others. -/
theorem s71 (rows : List (List Int)) (n : Nat) (h1 : 1 ≤ n) (hn : n ≤ 4) (x : List Int) (hx : x.length = 4) : Abs.Spec Try.prog 71 [matV rows n, vec x] [] fun v H' => H' = [] ∧ v = .sl false false (mI (x.take n)) := by
  refine Abs.Spec.walk mixed fn71 nn71 t71 q71 nt71 (by simp) ?_
  have hxl : (mI x).length = 4 := by rw [mI_length, hx]
  have hxn : (x.take n).length = n := by rw [List.length_take]; omega
  simp only [w71, hxl, matV_eq, vec_eq, Nat.sub_zero, go_sem, Nat.reduceEqDiff, Nat.reduceAdd, Nat.reduceLT, Nat.reduceLeDiff, reduceIte, reduceCtorEq]
  refine ⟨allI_cell x, ⟨Int.le_refl 0, by omega, .inl trivial⟩, ?_⟩
  refine CallK.by (CallV.of_spec (first := []) (cap := []) (Spec.lendInts (args := [.own 1 0 n 4 1]) (args' := [.sl false false (mI (x.take n))]) (lb := (x.take n).length) (s38o' false (x.take n) (fun e => by rw [e] at hxn; simp at hxn; omega) (by omega)) ⟨vle_mI rfl (by simp) hxn.symm mI_take, trivial⟩)) fun v H' ⟨hv, hH⟩ => ?_
  subst hv hH
  simp only [go_sem, Nat.reduceEqDiff, Nat.reduceAdd, Nat.reduceLT, Nat.reduceLeDiff, reduceIte, reduceCtorEq]
  exact leaf (.sl false false (mI (x.take n))) ⟨mI_bnd, fun h => h, fun h => h, rfl⟩ ⟨rfl, rfl⟩
theorem s84 (rows : List (List Int)) (n : Nat) (h1 : 1 ≤ n) (hn : n ≤ 4) (xs : List (List Int)) (h4 : ∀ x ∈ xs, x.length = 4) (hl : xs.length ≤ 40000000000) : Abs.Spec Try.prog 84 [matV rows n, .sl false false (mV xs)] [] fun v H' => H' = [] ∧ v = .sl false false (mS (Sp.sortV (xs.map fun x => x.take n))) := by
  refine Abs.Spec.walk mixed fn84 nn84 t84 q84 nt84 (by simp) ?_
  have hmc : cut true 2 [sl false false (mV rows), I n] = matV rows n := rfl
  simp only [w84, matV_eq, mV_length, go_sem, Nat.reduceEqDiff, Nat.reduceAdd, Nat.reduceLT, Nat.reduceLeDiff, reduceIte, reduceCtorEq]
  refine W_loop (fun q : { q : List (List Int) × List (List Int) // q.1 ++ q.2 = xs } => ([(2, ptr 0 0), (5, .own 1 0 q.1.1.length q.1.1.length 1), (8, .sl false false (mV xs)), (9, I xs.length), (10, I q.1.1.length)], [.cells [sl false false (mV rows), I n], .cells (mS (q.1.1.map fun x => x.take n))])) (fun q => q.1.2.length)
    ⟨([], xs), rfl⟩ [some 0, none] (Wk.mk0 rfl (by simp [imgs, Blk.alive]) (by simp [hle, csle, bndL, AVal.bnd, mV_bnd, mS_nil]) (by simp [fle, vle, Fr.get, mV_bnd])) ?_
  rintro ⟨⟨pre, suf⟩, hp⟩
  dsimp only at hp
  subst hp
  have hlp : pre.length ≤ (pre ++ suf).length := by simp
  cases suf with
  | nil =>
    rw [List.append_nil] at hl h4
    simp only [w84L0, w84T1, go_sem, Nat.reduceEqDiff, Nat.reduceAdd, Nat.reduceLT, Nat.reduceLeDiff, reduceIte, reduceCtorEq]
    refine CallK.by (sortRows (xs := pre.map fun x => x.take n) (fun x hx => ?_) (by simp) rfl (by omega)) fun v H' ⟨hv, hH⟩ => ?_
    · obtain ⟨y, _, rfl⟩ := List.mem_map.1 hx
      rw [List.length_take]; omega
    subst hv hH
    simp only [go_sem, Nat.reduceEqDiff, Nat.reduceAdd, Nat.reduceLT, Nat.reduceLeDiff, reduceIte, reduceCtorEq]
    refine leaf (.sl false false (mS (Sp.sortV (pre.map fun x => x.take n)))) (vle_mS rfl (by simp) (by rw [(Sp.sortV_perm _).length_eq]; simp) (List.take_of_length_le (by rw [mS_length, (Sp.sortV_perm _).length_eq]; simp))) ⟨rfl, rfl⟩
  | cons x suf =>
    have hx4 : x.length = 4 := h4 x (by simp)
    have hxl : (mI x).length = 4 := by rw [mI_length, hx4]
    have hxc : cut true 4 (mI x) = vec x := cut_vec hx4
    have hxo : (vec x).cellsOk = true := allI_cell x
    have hwk : IntKind.i64.wrap ((pre.length : Int) + 1) = pre.length + 1 := wrap64 (by simp at hl; omega) (by simp at hl; omega)
    simp only [w84L0, mV_mid, mV_length, cells_vec, hxl, hxc, hxo, hmc, go_sem, Nat.reduceEqDiff, Nat.reduceAdd, Nat.reduceLT, Nat.reduceLeDiff, reduceIte, reduceCtorEq]
    refine CallK.pure (liftV (s71 rows n h1 hn x hx4) (by simp [bndL, vec_bnd, matV, AVal.bnd, mV_bnd]) (by simp [AVal.bnd, mI_bnd]) _) ?_
    have e : mS (List.take pre.length (List.map (fun x => List.take n x) pre)) ++ [sl false false (mI (List.take n x))] = mS ((pre ++ [x]).map fun x => x.take n) := by
      rw [List.take_of_length_le (by simp), mS_one, mS_append]; simp
    simp only [hwk, e, go_sem, Nat.reduceEqDiff, Nat.reduceAdd, Nat.reduceLT, Nat.reduceLeDiff, reduceIte, reduceCtorEq]
    refine ⟨by simp at hl; omega, ?_⟩
    exact round1 rfl ⟨(pre ++ [x], suf), by simp⟩ [some 0, some 4] (by simp) (Wk.mk0 rfl (by simp [imgs, Blk.alive]) (by simp [hle, csle, bndL, AVal.bnd, mV_bnd, mS_bnd]) (by simp [fle, vle, Fr.get, mV_bnd]))
/-- Basic moves of a matrix, as they come: those into which none fits of those before, in an order by size. -/
def IsB (rows : List (List Int)) (n : Nat) (bs : List (List Int)) : Prop := ∃ l : List (List Int), l.Perm (Sp.movesL rows n) ∧ l.Pairwise (fun x y => Sp.size x ≤ Sp.size y) ∧ bs = Sp.keepMin [] l
theorem keepMin_sub {P : List Int → Prop} : ∀ {l out : List (List Int)}, (∀ x ∈ out, P x) → (∀ x ∈ l, P x) → ∀ x ∈ Sp.keepMin out l, P x
  | [], out, h, _ => h
  | y :: l, out, h, hl => by
    unfold Sp.keepMin
    split
    · exact keepMin_sub h fun x hx => hl x (by simp [hx])
    · refine keepMin_sub (fun x hx => ?_) fun x hx => hl x (by simp [hx])
      rcases List.mem_append.1 hx with hx | hx
      · exact h x hx
      · simp at hx; subst hx; exact hl _ (by simp)
theorem keepMin_len : ∀ {l out : List (List Int)}, (Sp.keepMin out l).length ≤ out.length + l.length
  | [], out => by simp [Sp.keepMin]
  | y :: l, out => by
    unfold Sp.keepMin
    split
    · have := keepMin_len (l := l) (out := out); simp; omega
    · have := keepMin_len (l := l) (out := out ++ [y]); simp at this ⊢; omega
theorem IsB.ok {rows : List (List Int)} {n : Nat} {bs : List (List Int)} (h : IsB rows n bs) : ∀ x ∈ bs, okV x := by
  obtain ⟨l, hp, -, rfl⟩ := h
  exact keepMin_sub (by simp) fun x hx => movesL_ok (hp.mem_iff.1 hx)
theorem IsB.len {rows : List (List Int)} {n : Nat} {bs : List (List Int)} (hn : n ≤ 4) (h : IsB rows n bs) : bs.length ≤ 1185921 := by
  obtain ⟨l, hp, -, rfl⟩ := h
  have h1 := keepMin_len (l := l) (out := [])
  have h2 := Sp.movesL_len (rows := rows) hn
  have h3 := hp.length_eq
  simp at h1; omega
/-- Basic moves, to be read. -/
theorem s85f (rows : List (List Int)) (n : Nat) (hn : n ≤ 4) (h0 : rows ≠ []) (hr : Sp.Rows4 rows) : Abs.Spec Try.prog 85 [matV rows n] [] fun v H' => H' = [] ∧ ∃ bs, IsB rows n bs ∧ v = .sl false false (mV bs) :=
  (s85 rows n hn h0 hr).wk fun v H1 ⟨l, hp, hs, hv, hH⟩ => by
    subst hv hH
    have hB : IsB rows n (Sp.keepMin [] l) := ⟨l, hp, hs, rfl⟩
    exact ⟨[], .sl false false (mV (Sp.keepMin [] l)), [], Wk.nil ⟨vle_mV (fun v hv => (hB.ok v hv).1) rfl (by simp) rfl, trivial⟩, rfl, _, hB, rfl⟩
theorem mat_rows {a : List (List Int)} (h : Sp.mat a = true) : Sp.Rows4 (a.map Sp.pad) ∧ a.map Sp.pad ≠ [] ∧ 1 ≤ (a.getD 0 []).length ∧ (a.getD 0 []).length ≤ 4 := by
  obtain ⟨h1, h2, h3⟩ := Sp.mat_spec h
  have hb : ∀ r ∈ a, Sp.inB 2 r := by
    unfold Sp.mat at h
    simp only [Bool.and_eq_true, decide_eq_true_eq, List.all_eq_true, Sp.numbers] at h
    intro r hr x hx
    have := (h.2.2 r hr).2.2.2 x hx
    omega
  have hg : a.getD 0 [] ∈ a := by rw [List.getD_eq_getElem?_getD, List.getElem?_eq_getElem (by omega)]; exact List.getElem_mem _
  refine ⟨⟨fun r hr => ?_, fun r hr => ?_, by simpa using h2⟩, ?_, (h3 _ hg).2.1, (h3 _ hg).2.2⟩
  · obtain ⟨x, hx, rfl⟩ := List.mem_map.1 hr
    exact Sp.pad_len (h3 x hx).2.2
  · obtain ⟨x, hx, rfl⟩ := List.mem_map.1 hr
    intro c hc
    rcases List.mem_append.1 hc with hc | hc
    · exact hb x hx c hc
    · rw [List.eq_of_mem_replicate hc]; omega
  · intro e; have := congrArg List.length e; simp at this; rw [this] at h1; simp at h1
/-- What Basic answers of a matrix. -/
def basicC (a : List (List Int)) (v : AVal) : Prop := ∃ bs, IsB (a.map Sp.pad) (a.getD 0 []).length bs ∧ v = .tup [.sl false false (mS (Sp.sortV (bs.map fun x => x.take (a.getD 0 []).length))), I 0]
set_option maxHeartbeats 1000000 in
/-- Basic. -/
theorem s39 (nn t : Bool) (a : List (List Int)) (ha : ∀ l ∈ a, l.length < 9223372036854775808) (hl : a.length < 9223372036854775808) : Abs.Spec Try.prog 39 [.sl nn t (mS a)] [] fun v H' => H' = [] ∧
    ((Sp.mat a = false ∧ v = .tup [.sl false false (mS []), I 2]) ∨ (Sp.mat a = true ∧ basicC a v)) := by
  refine Abs.Spec.walk mixed fn39 nn39 t39 q39 nt39 (by simp) ?_
  simp only [w39, go_sem, Nat.reduceEqDiff, Nat.reduceAdd, Nat.reduceLT, Nat.reduceLeDiff, reduceIte, reduceCtorEq]
  refine CallK.by (CallV.of_spec (s62 nn t a ha hl)) fun v H' ⟨hH, hr⟩ => ?_
  subst hH
  rcases hr with ⟨hm, hv⟩ | ⟨hm, vs, n, hv⟩
  · subst hv
    obtain ⟨r1, r2, r3, r4⟩ := mat_rows hm
    have hmc : cut true 2 [sl false false (mV (a.map Sp.pad)), I ((a.getD 0 []).length : Int)] = matV (a.map Sp.pad) (a.getD 0 []).length := rfl
    simp only [matV_eq, List.getD_cons_zero, List.getD_cons_succ, hmc, go_sem, Nat.reduceEqDiff, Nat.reduceAdd, Nat.reduceLT, Nat.reduceLeDiff, reduceIte, reduceCtorEq]
    refine CallKD.grow (CallV.of_spec (first := []) (cap := []) (Spec.liftE (s85f (a.map Sp.pad) (a.getD 0 []).length r4 r2 r1) (by simp [bndL, matV, AVal.bnd, mV_bnd]) (fun v ⟨bs, _, h⟩ => by subst h; simp [AVal.bnd, mV_bnd]) _)) fun v H' ⟨⟨bs, hB, hv⟩, hH⟩ => ?_
    subst hv hH
    refine ⟨.refl _, ?_⟩
    simp only [matV_eq, go_sem, Nat.reduceEqDiff, Nat.reduceAdd, Nat.reduceLT, Nat.reduceLeDiff, reduceIte, reduceCtorEq]
    refine CallKD.pure (liftV (s84 (a.map Sp.pad) (a.getD 0 []).length r3 r4 bs (fun x hx => (hB.ok x hx).1) (by have := hB.len r4; omega)) (by simp [bndL, matV, AVal.bnd, mV_bnd]) (by simp [AVal.bnd, mS_bnd])) ?_
    simp only [go_sem, Nat.reduceEqDiff, Nat.reduceAdd, Nat.reduceLT, Nat.reduceLeDiff, reduceIte, reduceCtorEq]
    exact leaf2 (.tup [.sl false false (mS (Sp.sortV (bs.map fun x => x.take (a.getD 0 []).length))), I 0]) ⟨⟨mS_bnd, fun h => h, fun h => h, rfl⟩, rfl, trivial⟩ ⟨rfl, .inr ⟨hm, bs, hB, rfl⟩⟩
  · subst hv
    simp only [matV_eq, List.getD_cons_zero, List.getD_cons_succ, go_sem, Nat.reduceEqDiff, Nat.reduceAdd, Nat.reduceLT, Nat.reduceLeDiff, reduceIte, reduceCtorEq]
    exact leaf2 (.tup [.sl false false (mS []), I 2]) ⟨⟨rfl, rfl, rfl⟩, rfl, trivial⟩ ⟨rfl, .inl ⟨hm, rfl⟩⟩
def posV (x : List Int) : Bool := x.all fun a => decide (0 ≤ a)
theorem s130 (x : List Int) (hx : x.length = 4) : Abs.Spec Try.prog 130 [vec x] [] fun v H' => H' = [] ∧ v = B (posV x) := by
  refine Abs.Spec.walk mixed fn130 nn130 t130 q130 nt130 (by simp) ?_
  obtain ⟨p, r, rfl⟩ : ∃ p r, x = p :: r := by
    match x, hx with
    | p :: r, _ => exact ⟨p, r, rfl⟩
  have hxl : (mI (p :: r)).length = 4 := by rw [mI_length, hx]
  simp only [w130, hxl, vec_eq, Nat.sub_zero, go_sem, Nat.reduceEqDiff, Nat.reduceAdd, Nat.reduceLT, Nat.reduceLeDiff, reduceIte, reduceCtorEq]
  refine ⟨allI_cell _, ⟨Int.le_refl 0, Int.le_refl _, .inl trivial⟩, ?_⟩
  refine CallK.pure (CallV.of_spec (first := []) (cap := []) (Spec.lend (args' := [.sl false false (mI (p :: r))]) (s72 false false p r (by rw [hx]; decide)) rfl ⟨vle_mI rfl (by simp) hx.symm (List.take_of_length_le (by omega)), trivial⟩)) ?_
  simp only [go_sem, Nat.reduceEqDiff, Nat.reduceAdd, Nat.reduceLT, Nat.reduceLeDiff, reduceIte, reduceCtorEq]
  refine leaf (B _) rfl ⟨rfl, ?_⟩
  congr 1
  rw [Bool.eq_iff_iff, decide_eq_true_eq]
  have := Sp.min_fold 0 r p
  unfold posV
  rw [List.all_cons, Bool.and_eq_true, decide_eq_true_eq, List.all_eq_true]
  simp only [decide_eq_true_eq]
  exact this
theorem idx_any {α : Type} (p : α → Bool) (xs : List α) : decide (Sp.idx p xs ≥ 0) = xs.any p := by
  cases h : xs.any p with
  | false => rw [List.any_eq_false] at h; rw [Sp.idx_none fun x hx => by simpa using h x hx]; rfl
  | true => obtain ⟨x, hx, hp⟩ := List.any_eq_true.1 h; exact decide_eq_true (Sp.idx_pos ⟨x, hx, hp⟩)
end Go.Proofs.Ytipfjfmdjmaflaa
