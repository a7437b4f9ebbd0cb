/- Contracts: how far basic moves reach. -/
import Derived.Test.YtipfjfmdjmaflaaLA
import Derived.Test.YtipfjfmdjmaflaaLP
import Derived.Test.YtipfjfmdjmaflaaKG
import Derived.Test.YtipfjfmdjmaflaaAN
namespace Go.Proofs.Ytipfjfmdjmaflaa
open Go.Abs AVal
set_option linter.unusedSimpArgs false
attribute [local go_sem] W_skip W_keep KQ_canon canon Fr.norm W_seq W_block W_scope W_exit W_ret W_ops W_draw KQ_nil KQ_norm_seq KQ_exit_seq KQ_ret_seq KQ_norm_block KQ_ret_block KQ_exit_block KQ_exit_loop KQ_ret_loop O_nil O_cons S_call S_mv SE_mv SD_mv S_pick SE_pick SD_pick S_bin SE_bin SD_bin S_eqb SE_eqb SD_eqb S_eqv SE_eqv SD_eqv S_eqnil SE_eqnil SD_eqnil S_un SE_un SD_un S_conv SE_conv SD_conv S_mkfn SE_mkfn SD_mkfn S_load SE_load SD_load S_nilck SE_nilck SD_nilck S_slS SE_slS SD_slS S_slP SE_slP SD_slP S_fldA SE_fldA SD_fldA S_fld SE_fld SD_fld S_ixS SE_ixS SD_ixS S_ixP SE_ixP SD_ixP S_ixV SE_ixV SD_ixV S_ixStr SE_ixStr SD_ixStr S_ext SE_ext SD_ext S_len SE_len SD_len S_lenStr SE_lenStr SD_lenStr S_lenc SE_lenc SD_lenc S_mn SE_mn SD_mn S_mx SE_mx SD_mx S_build SE_build SD_build S_alloc SD_alloc S_box SD_box S_bslice SD_bslice S_mksl SD_mksl S_store SD_store S_append SD_append S_copy SD_copy S_clr SD_clr aq_some aa_some al_some aqd_some aad_some ald_some ape_some D_done D_both D_early D_step SE_call SD_call IOpd.ev Fr.get Fr.put Fr.putd entryFr pickA binA binI isSh shI eqbA eqvA ints ints_mI Option.map_some eqnilA unA convA loadA nilckA intA slSA slPA fldAA fldVA ixSA ixPA ixVA ixStrA extA lenA lenStrA mnA mxA AVal.fits fillA fillOk buildA opa srcA appA stoA copA clrA rdFree zeros List.length_nil List.length_cons List.length_map List.map_cons List.map_nil Option.map_some Option.map_none if_true if_false ite_true ite_false true_and and_true and_self implies_true forall_const true_implies Bool.false_eq_true Bool.not_true Bool.not_false decide_eq_true_eq decide_eq_false_iff_not eq_self List.getElem?_cons_zero List.getElem?_cons_succ List.getElem?_nil List.set_cons_zero List.set_cons_succ List.nil_append List.cons_append List.append_nil List.replicate_zero List.replicate_succ Nat.zero_add false_implies rng_lt rng_end rng_get cells_I cells_B cells_sl cut_one Int.toNat_natCast Int.natCast_nonneg List.headD_cons Int.lt_irrefl not_false_eq_true decide_false decide_true mI_length mI_cells mI_sz mI_isCell mI_mid mI_append mI_take mI_drop cells_val cells_own cells_agg isCell_I isCell_B isCell_nil isCell_sl isCell_own isCell_ptr isCell_fn isCell_rp isCell_yld cellsOk_I cellsOk_B cellsOk_nil cellsOk_sl cellsOk_own cellsOk_ptr cellsOk_fn cellsOk_rp cellsOk_yld cellsOk_agg cells_nil cells_ptr cells_fn cells_rp List.all_cons List.all_nil Bool.and_true Nat.mul_one Nat.zero_mul Nat.one_mul List.take_zero List.take_nil List.drop_nil List.drop_zero List.not_mem_nil Nat.le_refl Nat.zero_le mS_length mS_cells mS_sz mS_isCell mS_mid mS_append mS_take mS_drop cells_sI isCell_sI cellsOk_sI sI_eq succ_le_self' List.take_succ_cons List.drop_succ_cons List.take_length beq_self_eq_true List.mem_cons or_false forall_eq mI_put mI_rep O_guard' D_earlyG' D_stepG' W_cond' G_tt G_tf G_ft G_ff GE_tt GE_tf GE_ft GE_ff GS_tt GS_tf GS_ft GS_ff G_u GE_u GS_u IC_t IC_f xft xff xtt xtf z00 z20 z22 z02 zz tn0

theorem s134 (x : List Int) (hx : x.length = 4) : Abs.Spec Try.prog 134 [vec x] [] fun v H' => H' = [] ∧ v = B (x == Sp.z4) := by
  refine Abs.Spec.walk mixed fn134 nn134 t134 q134 nt134 (by simp) ?_
  have hpl : (mI x).length = 4 := by rw [mI_length, hx]
  have hz : AVal.agg [I 0, I 0, I 0, I 0] = .agg (mI Sp.z4) := rfl
  simp only [w134, vec_eq, cut_vec, hpl, hx, cells_vec, hz, eqvA, ints_mI, go_sem, Nat.reduceEqDiff, Nat.reduceAdd, Nat.reduceLT, Nat.reduceLeDiff, reduceIte, reduceCtorEq]
  exact ⟨allI_cell x, rfl, leaf (B _) rfl ⟨rfl, by simp⟩⟩
theorem s137 (d : Int) : Abs.Spec Try.prog 137 [I d] [] fun v H' => H' = [] ∧ v = B (d != 0) := by
  refine Abs.Spec.walk mixed fn137 nn137 t137 q137 nt137 (by simp) ?_
  simp only [w137, go_sem, Nat.reduceEqDiff, Nat.reduceAdd, Nat.reduceLT, Nat.reduceLeDiff, reduceIte, reduceCtorEq]
  exact leaf (B _) rfl ⟨rfl, rfl⟩
theorem s135 (t : Bool) (vs : List (List Int)) (h0 : vs ≠ []) (h4 : ∀ v ∈ vs, v.length = 4) (hl : vs.length ≤ 1000000000) : Abs.Spec Try.prog 135 [.sl true t (mV vs)] [] fun v H' => v = .own 0 0 vs.length vs.length 4 ∧ H' = [.cells (mI vs.flatten)] := by
  refine Abs.Spec.walk mixed fn135 nn135 t135 q135 nt135 (by simp) ?_
  have h1 : ¬ vs.length ≤ 0 := by have := List.length_pos_iff.2 h0; omega
  simp only [w135, mV_length, h1, mV_cells, go_sem, Nat.reduceEqDiff, Nat.reduceAdd, Nat.reduceLT, Nat.reduceLeDiff, reduceIte, reduceCtorEq]
  refine ⟨⟨mV_sz h4, by omega⟩, ?_⟩
  exact leafO _ _ [some 1] (Wk.one rfl rfl mI_bnd (by simp [fle, vle, Fr.get])) ⟨rfl, rfl⟩
theorem s135' (t : Bool) (vs : List (List Int)) (h0 : vs ≠ []) (h4 : ∀ v ∈ vs, v.length = 4) (hl : vs.length ≤ 1000000000) : Abs.Spec Try.prog 135 [.sl false t (mV vs)] [] fun v H' => v = .own 0 0 vs.length vs.length 4 ∧ H' = [.cells (mI vs.flatten)] :=
  Spec.split_nil (post := []) (fun h => absurd (by simpa [mV] using h) h0) (s135 t vs h0 h4 hl)
theorem s96 (nn t : Bool) (xs : List (List Int)) (h4 : ∀ x ∈ xs, x.length = 4) (fv : AVal) (p : List Int → Bool) (hf : ∀ x ∈ xs, CallV Try.prog fv [vec x] [] fun v H' => v = B (p x) ∧ H' = []) (hv : ∀ H, vle H [] [] 3 fv fv) (hl : xs.length < 9223372036854775808) :
    Abs.Spec Try.prog 96 [.sl nn t (mV xs), fv] [] fun v H' => H' = [] ∧ v = I (Sp.idx p xs) := by
  refine Abs.Spec.walk mixed fn96 nn96 t96 q96 nt96 (by simp) ?_
  simp only [w96, mV_length, go_sem, Nat.reduceEqDiff, Nat.reduceAdd, Nat.reduceLT, Nat.reduceLeDiff, reduceIte, reduceCtorEq]
  refine W_loop (fun q : { q : List (List Int) × List (List Int) // q.1 ++ q.2 = xs ∧ ∀ x ∈ q.1, p x = false } => ([(0, sl nn t (mV xs)), (1, fv), (7, I xs.length), (8, I q.1.1.length)], [])) (fun q => q.1.2.length) ⟨([], xs), rfl, by simp⟩ [] (Wk.nil (by simp [fle, vle, Fr.get, mV_bnd, hv])) ?_
  rintro ⟨⟨pre, suf⟩, hp, hinv⟩
  dsimp only at hp hinv
  subst hp
  cases suf with
  | nil =>
    simp only [w96L0, w96T1, go_sem, Nat.reduceEqDiff, Nat.reduceAdd, Nat.reduceLT, Nat.reduceLeDiff, reduceIte, reduceCtorEq]
    exact leaf (I _) rfl ⟨rfl, by rw [Sp.idx_none hinv]⟩
  | cons x suf =>
    have hx4 : x.length = 4 := h4 x (by simp)
    have hxl : (mI x).length = 4 := by rw [mI_length, hx4]
    simp only [w96L0, mV_mid, mV_length, cells_vec, cut_vec, hx4, hxl, go_sem, Nat.reduceEqDiff, Nat.reduceAdd, Nat.reduceLT, Nat.reduceLeDiff, reduceIte, reduceCtorEq]
    refine CallK.pure (hf x (by simp)) ?_
    simp only [go_sem, Nat.reduceEqDiff, Nat.reduceAdd, Nat.reduceLT, Nat.reduceLeDiff, reduceIte, reduceCtorEq]
    refine IC.split (fun h => ?_) fun h => ?_
    · simp only [go_sem, Nat.reduceEqDiff, Nat.reduceAdd, Nat.reduceLT, Nat.reduceLeDiff, reduceIte, reduceCtorEq]
      exact leaf (I _) rfl ⟨rfl, by rw [Sp.idx_mid p pre _ hinv]; simp [Sp.idx, h]⟩
    · simp only [go_sem, Nat.reduceEqDiff, Nat.reduceAdd, Nat.reduceLT, Nat.reduceLeDiff, reduceIte, reduceCtorEq]
      refine round0 rfl ⟨(pre ++ [x], suf), by simp, fun y hy => by rcases List.mem_append.1 hy with hy | hy; exact hinv y hy; simp at hy; subst hy; exact h⟩ (by simp) rfl ?_
      simp [fle, vle, Fr.get, rng_idx' hl, mV_bnd, hv]

theorem s87 (nn t : Bool) (xs : List Int) (fv : AVal) (p : Int → Bool) (hf : ∀ x ∈ xs, CallV Try.prog fv [I x] [] fun v H' => v = B (p x) ∧ H' = []) (hv : ∀ H, vle H [] [] 3 fv fv) (hl : xs.length < 9223372036854775808) :
    Abs.Spec Try.prog 87 [.sl nn t (mI xs), fv] [] fun v H' => H' = [] ∧ v = I (Sp.idx p xs) := by
  refine Abs.Spec.walk mixed fn87 nn87 t87 q87 nt87 (by simp) ?_
  simp only [w87, go_sem, Nat.reduceEqDiff, Nat.reduceAdd, Nat.reduceLT, Nat.reduceLeDiff, reduceIte, reduceCtorEq]
  refine W_loop (fun q : { q : List Int × List Int // q.1 ++ q.2 = xs ∧ ∀ x ∈ q.1, p x = false } => ([(0, sl nn t (mI xs)), (1, fv), (7, I xs.length), (8, I q.1.1.length)], [])) (fun q => q.1.2.length) ⟨([], xs), rfl, by simp⟩ [] (Wk.nil (by simp [fle, vle, Fr.get, mI_bnd, hv])) ?_
  rintro ⟨⟨pre, suf⟩, hp, hinv⟩
  dsimp only at hp hinv
  subst hp
  cases suf with
  | nil =>
    simp only [w87L0, w87T1, go_sem, Nat.reduceEqDiff, Nat.reduceAdd, Nat.reduceLT, Nat.reduceLeDiff, reduceIte, reduceCtorEq]
    exact leaf (I _) rfl ⟨rfl, by rw [Sp.idx_none hinv]⟩
  | cons x suf =>
    simp only [w87L0, go_sem, Nat.reduceEqDiff, Nat.reduceAdd, Nat.reduceLT, Nat.reduceLeDiff, reduceIte, reduceCtorEq]
    refine CallK.pure (hf x (by simp)) ?_
    simp only [go_sem, Nat.reduceEqDiff, Nat.reduceAdd, Nat.reduceLT, Nat.reduceLeDiff, reduceIte, reduceCtorEq]
    refine IC.split (fun h => ?_) fun h => ?_
    · simp only [go_sem, Nat.reduceEqDiff, Nat.reduceAdd, Nat.reduceLT, Nat.reduceLeDiff, reduceIte, reduceCtorEq]
      exact leaf (I _) rfl ⟨rfl, by rw [Sp.idx_mid p pre _ hinv]; simp [Sp.idx, h]⟩
    · simp only [go_sem, Nat.reduceEqDiff, Nat.reduceAdd, Nat.reduceLT, Nat.reduceLeDiff, reduceIte, reduceCtorEq]
      refine round0 rfl ⟨(pre ++ [x], suf), by simp, fun y hy => by rcases List.mem_append.1 hy with hy | hy; exact hinv y hy; simp at hy; subst hy; exact h⟩ (by simp) rfl ?_
      simp [fle, vle, Fr.get, rng_idx' hl, mI_bnd, hv]

/-- Minors, row by row. -/
def minorsTo (a b : List Int) (j i : Nat) : List Int := ((List.range j).flatMap fun j => (List.range j).map fun i => a.getD i 0 * b.getD j 0 - a.getD j 0 * b.getD i 0) ++ (List.range i).map fun i => a.getD i 0 * b.getD j 0 - a.getD j 0 * b.getD i 0
theorem minorsTo_next {a b : List Int} {j : Nat} : minorsTo a b j j = minorsTo a b (j + 1) 0 := by
  simp [minorsTo, List.range_succ, List.flatMap_append]
theorem minorsTo_step {a b : List Int} {j i : Nat} : minorsTo a b j i ++ [a.getD i 0 * b.getD j 0 - a.getD j 0 * b.getD i 0] = minorsTo a b j (i + 1) := by
  simp [minorsTo, List.range_succ]
theorem minorsTo_len {a b : List Int} {j i : Nat} (hj : j ≤ 4) (hi : i ≤ 4) : (minorsTo a b j i).length ≤ 20 := by
  have : ∀ j, j ≤ 4 → ((List.range j).flatMap fun j => (List.range j).map fun i => a.getD i 0 * b.getD j 0 - a.getD j 0 * b.getD i 0).length ≤ 16 := by
    intro j hj
    match j, hj with
    | 0, _ => simp
    | 1, _ => simp [List.range_succ]
    | 2, _ => simp [List.range_succ]
    | 3, _ => simp [List.range_succ]
    | 4, _ => simp [List.range_succ]
  have := this j hj
  simp [minorsTo]; simp at this; omega
theorem minor_wrap {x y z w : Int} (hx : -2 ≤ x ∧ x ≤ 2) (hy : -2 ≤ y ∧ y ≤ 2) (hz : -2 ≤ z ∧ z ≤ 2) (hw : -2 ≤ w ∧ w ≤ 2) : IntKind.i64.wrap (IntKind.i64.wrap (x * w) - IntKind.i64.wrap (y * z)) = x * w - y * z := by
  have h1 := Sp.mul_bound hx.1 hx.2 hw.1 hw.2
  have h2 := Sp.mul_bound hy.1 hy.2 hz.1 hz.2
  rw [wrap64 (x := x * w) (by omega) (by omega), wrap64 (x := y * z) (by omega) (by omega), wrap64 (by omega) (by omega)]
theorem s136 (a b : List Int) (ha : a.length = 4) (hb : b.length = 4) (ba : Sp.inB 2 a) (bb : Sp.inB 2 b) : Abs.Spec Try.prog 136 [vec a, vec b] [] fun v H' => H' = [] ∧ v = .sl false false (mI (Sp.minors a b)) := by
  refine Abs.Spec.walk mixed fn136 nn136 t136 q136 nt136 (by simp) ?_
  simp only [w136, vec_eq, go_sem, Nat.reduceEqDiff, Nat.reduceAdd, Nat.reduceLT, Nat.reduceLeDiff, reduceIte, reduceCtorEq]
  refine ⟨allI_cell a, allI_cell b, ?_⟩
  refine W_loop (fun p : { j : Nat // j ≤ 4 } => ([(2, ptr 0 0), (3, ptr 1 0), (5, own 2 0 (minorsTo a b p.1 0).length (minorsTo a b p.1 0).length 1), (8, I p.1)], [.cells (mI a), .cells (mI b), .cells (mI (minorsTo a b p.1 0))])) (fun p => 4 - p.1) ⟨0, by omega⟩ [some 0, some 1, none] (Wk.mk0 rfl (by simp [imgs, Blk.alive]) (by simp [hle, csle, mI_bnd, minorsTo, mI_nil]) (by simp [fle, vle, Fr.get, minorsTo])) ?_
  rintro ⟨j, hj4⟩
  dsimp only
  by_cases hj : j < 4
  · have hj' : decide ((j : Int) < 4) = true := decide_eq_true (by omega)
    have hwj : IntKind.i64.wrap ((j : Int) + 1) = ((j + 1 : Nat) : Int) := by rw [wrap64 (by omega) (by omega)]; rfl
    simp only [w136L0, hj', go_sem, Nat.reduceEqDiff, Nat.reduceAdd, Nat.reduceLT, Nat.reduceLeDiff, reduceIte, reduceCtorEq]
    refine W_loop (fun p : { i : Nat // i ≤ j } => ([(2, ptr 0 0), (3, ptr 1 0), (5, own 2 0 (minorsTo a b j p.1).length (minorsTo a b j p.1).length 1), (6, I j), (8, I j), (11, I j), (12, I p.1)], [.cells (mI a), .cells (mI b), .cells (mI (minorsTo a b j p.1))])) (fun p => j - p.1) ⟨0, by omega⟩ [some 0, some 1, some 2] (Wk.mk0 rfl (by simp [imgs, Blk.alive]) (by simp [hle, csle, mI_bnd]) (by simp [fle, vle, Fr.get])) ?_
    rintro ⟨i, hij⟩
    dsimp only
    by_cases hi : i < j
    · have hi' : decide ((i : Int) < j) = true := decide_eq_true (by omega)
      have hwi : IntKind.i64.wrap ((i : Int) + 1) = ((i + 1 : Nat) : Int) := by rw [wrap64 (by omega) (by omega)]; rfl
      have hia : i < a.length := by omega
      have hib : i < b.length := by omega
      have hja : j < a.length := by omega
      have hjb : j < b.length := by omega
      have hmn := minor_wrap (Sp.inB_getD ba i) (Sp.inB_getD ba j) (Sp.inB_getD bb i) (Sp.inB_getD bb j)
      have hmn' := minorsTo_len (a := a) (b := b) (j := j) (i := i) (by omega) (by omega)
      simp only [w136L1, hi', mI_hd, hia, hib, hja, hjb, hmn, hwi, mI_snoc, minorsTo_step, go_sem, Nat.reduceEqDiff, Nat.reduceAdd, Nat.reduceLT, Nat.reduceLeDiff, reduceIte, reduceCtorEq]
      repeat (refine ⟨by omega, ?_⟩)
      refine round1 rfl ⟨i + 1, by omega⟩ [some 0, some 1, some 4] (by dsimp only; omega) (Wk.mk0 rfl (by simp [imgs, Blk.alive]) (by simp [hle, csle, mI_bnd]) (by simp [fle, vle, Fr.get, ← minorsTo_step]))
    · have hi' : decide ((i : Int) < j) = false := decide_eq_false (by omega)
      obtain rfl : i = j := by omega
      simp only [w136L1, hi', w136T2, hwj, go_sem, Nat.reduceEqDiff, Nat.reduceAdd, Nat.reduceLT, Nat.reduceLeDiff, reduceIte, reduceCtorEq]
      refine round1 rfl ⟨i + 1, by omega⟩ [some 0, some 1, some 2] (by dsimp only; omega) (Wk.mk0 rfl (by simp [imgs, Blk.alive]) (by simp [hle, csle, mI_bnd, minorsTo_next]) (by simp [fle, vle, Fr.get, minorsTo_next]))
  · have hj' : decide ((j : Int) < 4) = false := decide_eq_false (by omega)
    obtain rfl : j = 4 := by omega
    simp only [w136L0, hj', w136T3, go_sem, Nat.reduceEqDiff, Nat.reduceAdd, Nat.reduceLT, Nat.reduceLeDiff, reduceIte, reduceCtorEq]
    exact leaf (.sl false false (mI (Sp.minors a b))) (vle_mI rfl (by simp) (by simp [minorsTo, Sp.minors]) (List.take_of_length_le (by simp [mI_length]))) ⟨rfl, rfl⟩

theorem idx_miss {α : Type} {p : α → Bool} {xs : List α} (h : Sp.idx p xs < 0) : xs.filter (fun x => !p x) = xs := by
  refine List.filter_eq_self.2 fun x hx => ?_
  cases hp : p x with
  | false => rfl
  | true => have := Sp.idx_pos (p := p) ⟨x, hx, hp⟩; omega
theorem idx_at {α : Type} {p : α → Bool} : ∀ {xs : List α}, 0 ≤ Sp.idx p xs → ∃ (i : Nat) (x : α), Sp.idx p xs = i ∧ xs[i]? = some x ∧ p x = true ∧ ∀ y ∈ xs.take i, p y = false
  | [], h => by simp [Sp.idx] at h
  | x :: xs, h => by
    unfold Sp.idx at h ⊢
    by_cases hp : p x = true
    · rw [if_pos hp]; exact ⟨0, x, rfl, rfl, hp, by simp⟩
    · rw [if_neg hp] at h ⊢
      by_cases h0 : Sp.idx p xs < 0
      · rw [if_pos h0] at h; omega
      · rw [if_neg h0]
        obtain ⟨i, y, h1, h2, h3, h4⟩ := idx_at (p := p) (xs := xs) (by omega)
        refine ⟨i + 1, y, by omega, by simpa using h2, h3, fun z hz => ?_⟩
        rw [List.take_succ_cons] at hz
        rcases List.mem_cons.1 hz with rfl | hz
        · simpa using hp
        · exact h4 z hz
theorem idx_found {α : Type} {p : α → Bool} {xs : List α} (h : 0 ≤ Sp.idx p xs) : ∃ i : Nat, Sp.idx p xs = i ∧ i < xs.length ∧ (xs.take (i + 1)).filter (fun x => !p x) = xs.take i := by
  obtain ⟨i, x, h1, h2, h3, h4⟩ := idx_at h
  have hi := (List.getElem?_eq_some_iff.1 h2).1
  refine ⟨i, h1, hi, ?_⟩
  rw [List.take_add_one, h2, List.filter_append, List.filter_eq_self.2 fun y hy => by simp [h4 y hy]]
  simp [h3]

theorem z4_flat (n : Nat) : (List.replicate n [I 0, I 0, I 0, I 0]).flatten = mI (List.replicate n Sp.z4).flatten := by
  rw [show [I 0, I 0, I 0, I 0] = mI Sp.z4 from rfl]
  simp [mI, List.map_flatten]
theorem ok2 {b0 : Blk} (h : blkOk 2 b0 = true) (xs : List Int) : ∀ b ∈ [b0, Blk.cells (mI xs)], blkOk 2 b = true := fun b hb => by
  rcases List.mem_cons.1 hb with rfl | hb
  · exact h
  · simp at hb; subst hb; simp [blkOk, mI_bnd]
set_option maxHeartbeats 2000000 in
/-- DeleteFunc, of vectors that are owned. -/
theorem s128 (b0 : Blk) (hb0 : blkOk 2 b0 = true) (D : List (List Int)) (h4 : ∀ v ∈ D, v.length = 4) (g : FuncId) (p : List Int → Bool) (hf : ∀ x : List Int, x.length = 4 → Abs.Spec Try.prog g [vec x] [] fun v H' => H' = [] ∧ v = B (p x)) (hl : D.length ≤ 1000000000) : Abs.Spec Try.prog 128 [.own 1 0 D.length D.length 4, .fn (.func g) [] []] [b0, .cells (mI D.flatten)] fun v H' =>
    ∃ (k : Nat) (ys : List (List Int)), k ≤ ys.length ∧ (∀ v ∈ ys, v.length = 4) ∧ ys.length = D.length ∧ v = .own 1 0 k D.length 4 ∧ H' = [b0, .cells (mI ys.flatten)] ∧ ys.take k = D.filter fun x => !p x := by
  have hvb : ∀ x : List Int, (vec x).bnd 0 = true := fun x => by simp [vec, AVal.bnd, mI_bnd]
  refine Abs.Spec.walk mixed fn128 nn128 t128 q128 nt128 (by simp) ?_
  simp only [w128, go_sem, Nat.reduceEqDiff, Nat.reduceAdd, Nat.reduceLT, Nat.reduceLeDiff, reduceIte, reduceCtorEq]
  refine CallK.pure (CallV.of_spec (first := []) (cap := []) (Spec.lend (args' := [.sl false false (mV D), .fn (.func g) [] []]) (s96 false false D h4 _ p (fun x hx => (CallV.of_spec (first := []) (cap := []) (hf x (h4 x hx))).mono fun v H' ⟨a, b⟩ => ⟨b, a⟩) (fun H => by simp [vle, vle.vleL]) (by omega)) rfl ⟨vle_mV h4 rfl (by simp) rfl, by simp [vle, vle.vleL], trivial⟩)) ?_
  by_cases hm : Sp.idx p D < 0
  · have hm1 : Sp.idx p D = -1 := by have := Sp.idx_lt p D; omega
    rw [hm1]
    have z : ((-1 : Int) == -1) = true := rfl
    simp only [z, go_sem, Nat.reduceEqDiff, Nat.reduceAdd, Nat.reduceLT, Nat.reduceLeDiff, reduceIte, reduceCtorEq]
    exact leafB' _ rfl rfl (ok2 hb0 _) (by simp [Fr.get, vid]) ⟨D.length, D, Nat.le_refl _, h4, rfl, rfl, rfl, by rw [List.take_length, idx_miss hm]⟩
  · obtain ⟨i0, e, hi0, hfl⟩ := idx_found (p := p) (xs := D) (by omega)
    rw [e]
    have z : ((i0 : Int) == -1) = false := by rw [beq_eq_false_iff_ne]; omega
    have hw : IntKind.i64.wrap ((i0 : Int) + 1) = ((i0 + 1 : Nat) : Int) := by rw [wrap64 (by omega) (by omega)]; rfl
    simp only [z, hw, go_sem, Nat.reduceEqDiff, Nat.reduceAdd, Nat.reduceLT, Nat.reduceLeDiff, reduceIte, reduceCtorEq]
    refine W_loop (fun q : { q : Nat × Nat × List (List Int) // q.1 < q.2.1 ∧ q.2.1 ≤ D.length ∧ (∀ v ∈ q.2.2, v.length = 4) ∧ q.2.2.length = D.length ∧ q.2.2.take q.1 = (D.take q.2.1).filter (fun x => !p x) ∧ q.2.2.drop q.2.1 = D.drop q.2.1 } => ([(0, own 1 0 D.length D.length 4), (1, .fn (.func g) [] []), (5, I q.1.1), (6, I q.1.2.1)], [b0, .cells (mI q.1.2.2.flatten)])) (fun q => D.length - q.1.2.1)
      ⟨(i0, i0 + 1, D), by simp, by dsimp only; omega, h4, rfl, hfl.symm, rfl⟩ (idρ 2) (WkB (B := 2) rfl (ok2 hb0 _) (by simp [Fr.get, vid])) ?_
    rintro ⟨⟨i, j, ys⟩, hij, hj, hy4, hyl, htake, hdrop⟩
    dsimp only at hij hj hy4 hyl htake hdrop ⊢
    by_cases hjl : j < D.length
    · have hz : decide ((j : Int) < D.length) = true := decide_eq_true (by omega)
      have hjl' : (j : Int) < D.length := by omega
      have hjy : j < ys.length := by omega
      have hiy : i < ys.length := by omega
      have hil' : (i : Int) < D.length := by omega
      have hwj : IntKind.i64.wrap ((j : Int) + 1) = ((j + 1 : Nat) : Int) := by rw [wrap64 (by omega) (by omega)]; rfl
      have hwi : IntKind.i64.wrap ((i : Int) + 1) = ((i + 1 : Nat) : Int) := by rw [wrap64 (by omega) (by omega)]; rfl
      obtain ⟨y, hy⟩ : ∃ y, ys.getD j [] = y := ⟨_, rfl⟩
      have hy4' : y.length = 4 := by rw [← hy]; exact getD4 hy4 hjy
      have hy' : ys[j] = y := by rw [← hy, List.getD_eq_getElem?_getD, List.getElem?_eq_getElem hjy]; rfl
      have hyD : D[j] = y := by
        have := congrArg (·[0]?) hdrop
        simp only [List.getElem?_drop, Nat.add_zero, List.getElem?_eq_getElem hjy, List.getElem?_eq_getElem hjl, Option.some.injEq] at this
        rw [← this, hy']
      have hdrop2 : ys.drop (j + 1) = D.drop (j + 1) := by
        have := congrArg (List.drop 1) hdrop
        simpa [List.drop_drop, Nat.add_comm] using this
      have htk : D.take (j + 1) = D.take j ++ [y] := by rw [List.take_add_one, List.getElem?_eq_getElem hjl, hyD]; rfl
      have hcut : cut true 4 (mI (ys.flatten.drop (j * 4))) = vec y := by rw [mF_cut' hy4 hjy, hy]
      have hyc : cut true 4 (mI y) = vec y := cut_vec hy4'
      have hyl' : (mI y).length = 4 := by rw [mI_length, hy4']
      have hput := flat_set hy4 hiy y
      have hcok : (vec y).cellsOk = true := allI_cell y
      have hml : (mI ys.flatten).length = ys.length * 4 := mF_len hy4
      simp only [w128L0, hz, hjl', hcut, hml, cells_vec, hyc, hyl', hcok, go_sem, Nat.reduceEqDiff, Nat.reduceAdd, Nat.reduceLT, Nat.reduceLeDiff, reduceIte, reduceCtorEq]
      refine ⟨by omega, ?_⟩
      refine CallK.pure (CallV.of_spec (first := []) (cap := []) (Spec.lift (hf y hy4') (by simp [bndL, hvb]) rfl _)) ?_
      cases hpy : p y with
      | true =>
        simp only [hwj, go_sem, Nat.reduceEqDiff, Nat.reduceAdd, Nat.reduceLT, Nat.reduceLeDiff, reduceIte, reduceCtorEq]
        refine roundB1 (H1 := [.cells (mI y)]) ⟨(i, j + 1, ys), by dsimp only; omega, by dsimp only; omega, hy4, hyl, by dsimp only; rw [htk, List.filter_append, ← htake]; simp [hpy], hdrop2⟩ (by dsimp only; omega) rfl rfl (ok2 hb0 _) (by simp [Fr.get, vid])
      | false =>
        simp only [hil', hwi, hwj, hyc, hyl', hcok, hml, cells_vec, hput, go_sem, Nat.reduceEqDiff, Nat.reduceAdd, Nat.reduceLT, Nat.reduceLeDiff, reduceIte, reduceCtorEq]
        refine ⟨by omega, ?_⟩
        refine roundB1 (H1 := [.cells (mI y)]) ⟨(i + 1, j + 1, ys.set i y), by dsimp only; omega, by dsimp only; omega, set4 hy4 hy4', by simp [hyl], ?_, ?_⟩ (by dsimp only; omega) rfl rfl (ok2 hb0 _) (by simp [Fr.get, vid])
        · dsimp only
          rw [htk, List.filter_append, ← htake, List.take_add_one, List.getElem?_set_self hiy, List.take_set_of_le (Nat.le_refl _)]
          simp [hpy]
        · dsimp only
          rw [List.drop_set_of_lt (by omega), hdrop2]
    · have hz : decide ((j : Int) < D.length) = false := decide_eq_false (by omega)
      obtain rfl : j = D.length := by omega
      rw [List.take_length] at htake
      have hil' : (i : Int) ≤ D.length := by omega
      have hml : (mI ys.flatten).length = ys.length * 4 := mF_len hy4
      have hfin : ys.flatten.take (i * 4) ++ (List.replicate (D.length - i) Sp.z4).flatten ++ ys.flatten.drop (i * 4 + (D.length - i) * 4) = (ys.take i ++ List.replicate (D.length - i) Sp.z4).flatten := by
        rw [flat_take hy4, List.drop_of_length_le (by rw [flat_len hy4]; omega)]
        simp
      simp only [w128L0, hz, w128T1, hil', hml, z4_flat, hfin, Nat.sub_zero, go_sem, Nat.reduceEqDiff, Nat.reduceAdd, Nat.reduceLT, Nat.reduceLeDiff, reduceIte, reduceCtorEq]
      refine ⟨by omega, by omega, ⟨by omega, .inl trivial⟩, ?_⟩
      refine leafB' _ rfl rfl (ok2 hb0 _) (by simp [Fr.get, vid]) ⟨i, _, ?_, ?_, ?_, rfl, rfl, ?_⟩
      · simp; omega
      · intro v hv
        rcases List.mem_append.1 hv with hv | hv
        · exact hy4 v (List.mem_of_mem_take hv)
        · rw [List.eq_of_mem_replicate hv]; rfl
      · simp; omega
      · rw [List.take_append_of_le_length (by simp; omega), List.take_take, Nat.min_self, htake]

/-- A matrix in its own words. -/
theorem mat_load {vs : List (List Int)} {n : Int} : cut true 2 [.sl false false (mV vs), I n] = matV vs n := rfl
theorem filter_len {α : Type} (p : α → Bool) (l : List α) : (l.filter p).length ≤ l.length := List.length_filter_le p l
set_option maxHeartbeats 2000000 in
theorem s112 (vs : List (List Int)) (n : Int) (h0 : vs ≠ []) (hr : Sp.Rows4 vs) : Abs.Spec Try.prog 112 [matV vs n] [] fun v H' => H' = [] ∧ v = I (Sp.mostOf vs) := by
  refine Abs.Spec.walk mixed fn112 nn112 t112 q112 nt112 (by simp) ?_
  have hl2 := hr.two
  simp only [w112, matV_eq, go_sem, Nat.reduceEqDiff, Nat.reduceAdd, Nat.reduceLT, Nat.reduceLeDiff, reduceIte, reduceCtorEq]
  refine CallK.by (CallV.of_spec (first := []) (cap := []) (Spec.made (s135' false vs h0 hr.len (by omega)) (by simp [bndL, AVal.bnd, mV_bnd]) mI_bnd _)) fun v H' ⟨e1, e2⟩ => ?_
  subst e1 e2
  simp only [go_sem, Nat.reduceEqDiff, Nat.reduceAdd, Nat.reduceLT, Nat.reduceLeDiff, reduceIte, reduceCtorEq]
  refine CallK.by (CallV.of_spec (first := []) (cap := []) (s128 _ (by simp [blkOk, bndL, AVal.bnd, mV_bnd]) vs hr.len 134 (fun x => x == Sp.z4) (fun x hx => s134 x hx) (by omega))) fun v H' ⟨k, ys, hk, hy4, hyl, hv, hH, htk⟩ => ?_
  subst hv hH
  have hnl : (vs.filter fun x => !(x == Sp.z4)).length ≤ 2 := Nat.le_trans (filter_len _ _) hl2
  have hkl : (vs.filter fun x => !(x == Sp.z4)).length = k := by rw [← htk, List.length_take]; omega
  have hmem : ∀ x ∈ vs.filter (fun x => !(x == Sp.z4)), Sp.inB 2 x := fun x hx => hr.bnd x (List.mem_filter.1 hx |>.1)
  rcases Nat.lt_or_ge k 1 with h1 | h1
  · obtain rfl : k = 0 := by omega
    have e : Sp.mostOf vs = 1 := by rw [Sp.mostOf, List.eq_nil_of_length_eq_zero hkl]
    have k0 : (((0 : Nat) : Int) == 0) = true := rfl
    simp only [k0, go_sem, Nat.reduceEqDiff, Nat.reduceAdd, Nat.reduceLT, Nat.reduceLeDiff, reduceIte, reduceCtorEq]
    exact leaf (I _) rfl ⟨rfl, by rw [e]; rfl⟩
  rcases Nat.lt_or_ge k 2 with h2 | h2
  · obtain rfl : k = 1 := by omega
    obtain ⟨a, ha⟩ := List.length_eq_one_iff.1 hkl
    have e : Sp.mostOf vs = 3 := by rw [Sp.mostOf, ha]
    have k0 : (((1 : Nat) : Int) == 0) = false := rfl
    have k1 : (((1 : Nat) : Int) == 1) = true := rfl
    simp only [k0, k1, go_sem, Nat.reduceEqDiff, Nat.reduceAdd, Nat.reduceLT, Nat.reduceLeDiff, reduceIte, reduceCtorEq]
    exact leaf (I _) rfl ⟨rfl, by rw [e]; rfl⟩
  obtain rfl : k = 2 := by omega
  obtain ⟨a, b, hab⟩ : ∃ a b, (vs.filter fun x => !(x == Sp.z4)) = [a, b] := by
    match (vs.filter fun x => !(x == Sp.z4)), hkl with
    | [a, b], _ => exact ⟨a, b, rfl⟩
  rw [hab] at htk hmem
  obtain ⟨ys', rfl⟩ : ∃ ys', ys = a :: b :: ys' := ⟨ys.drop 2, by have := List.take_append_drop 2 ys; rw [htk] at this; simpa using this.symm⟩
  have e : Sp.mostOf vs = if (Sp.minors a b).all (fun d => !(d != 0)) then 3 else 16 := by rw [Sp.mostOf, hab]
  have ha4 : a.length = 4 := hy4 a (by simp)
  have hb4 : b.length = 4 := hy4 b (by simp)
  have c0 := mF_cut' hy4 (i := 0) (by simp)
  have c1 := mF_cut' hy4 (i := 1) (by simp)
  have hml : (mI (a :: b :: ys').flatten).length = (a :: b :: ys').length * 4 := mF_len hy4
  have k0 : (((2 : Nat) : Int) == 0) = false := rfl
  have k1 : (((2 : Nat) : Int) == 1) = false := rfl
  have c0 : cut true 4 (mI (a :: b :: ys').flatten) = vec a := c0
  have c1 : cut true 4 (mI (List.drop (Int.toNat 1 * 4) (a :: b :: ys').flatten)) = vec b := c1
  have ba : Sp.inB 2 a := hmem a (by simp)
  have bb : Sp.inB 2 b := hmem b (by simp)
  simp only [c0, c1, hml, k0, k1, go_sem, Nat.reduceEqDiff, Nat.reduceAdd, Nat.reduceLT, Nat.reduceLeDiff, reduceIte, reduceCtorEq]
  refine ⟨⟨Int.le_refl 0, by decide⟩, by omega, ⟨by decide, by decide⟩, by show 1 * 4 + 4 ≤ _; omega, ?_⟩
  refine CallKD.pure (liftV (s136 a b ha4 hb4 ba bb) (by simp [bndL, vec, AVal.bnd, mI_bnd]) (by simp [AVal.bnd, mI_bnd])) ?_
  simp only [go_sem, Nat.reduceEqDiff, Nat.reduceAdd, Nat.reduceLT, Nat.reduceLeDiff, reduceIte, reduceCtorEq]
  have hmnl : (Sp.minors a b).length ≤ 20 := by
    have := minorsTo_len (a := a) (b := b) (j := 4) (i := 0) (by omega) (by omega)
    simpa [minorsTo, Sp.minors] using this
  refine CallKD.pure (liftV (s87 false false (Sp.minors a b) (.fn (.func 137) [] []) (fun d => d != 0) (fun d _ => (CallV.of_spec (first := []) (cap := []) (s137 d)).mono fun v H' ⟨a, b⟩ => ⟨b, a⟩) (fun H => by simp [vle, vle.vleL]) (by omega)) (by simp [bndL, AVal.bnd, mI_bnd]) rfl) ?_
  by_cases hm : Sp.idx (fun d => d != 0) (Sp.minors a b) < 0
  · have hz : decide (Sp.idx (fun d => d != 0) (Sp.minors a b) < 0) = true := decide_eq_true hm
    have hall : (Sp.minors a b).all (fun d => !(d != 0)) = true := List.all_eq_true.2 fun d hd => (List.mem_filter.1 (by rw [idx_miss hm]; exact hd : d ∈ (Sp.minors a b).filter fun d => !(d != 0))).2
    rw [hall] at e
    simp only [hz, go_sem, Nat.reduceEqDiff, Nat.reduceAdd, Nat.reduceLT, Nat.reduceLeDiff, reduceIte, reduceCtorEq]
    exact leaf (I _) rfl ⟨rfl, by rw [e]; rfl⟩
  · have hz : decide (Sp.idx (fun d => d != 0) (Sp.minors a b) < 0) = false := decide_eq_false hm
    have hall : (Sp.minors a b).all (fun d => !(d != 0)) = false := by
      obtain ⟨i, d, h1, h2, h3, -⟩ := idx_at (p := fun d => d != 0) (xs := Sp.minors a b) (by omega)
      exact List.all_eq_false.2 ⟨d, List.mem_of_getElem? h2, by simpa using h3⟩
    rw [hall] at e
    simp only [hz, go_sem, Nat.reduceEqDiff, Nat.reduceAdd, Nat.reduceLT, Nat.reduceLeDiff, reduceIte, reduceCtorEq]
    exact leaf (I _) rfl ⟨rfl, by rw [e]; rfl⟩
end Go.Proofs.Ytipfjfmdjmaflaa
