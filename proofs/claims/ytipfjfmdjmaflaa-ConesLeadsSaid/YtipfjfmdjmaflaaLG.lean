/- Contracts: comparing, sorting, vectors for others. -/
import Derived.Test.YtipfjfmdjmaflaaLF
import Derived.Test.YtipfjfmdjmaflaaLQ
import Derived.Test.YtipfjfmdjmaflaaAG
import Derived.Test.YtipfjfmdjmaflaaProg
import Derived.Shelf.SlSortCmp.NoneTotal
namespace Go.Proofs.Ytipfjfmdjmaflaa
open Go.Abs AVal
set_option linter.unusedSimpArgs false
attribute [local go_sem] W_skip W_keep KQ_canon canon Fr.norm W_seq W_block W_scope W_exit W_ret W_ops W_draw KQ_nil KQ_norm_seq KQ_exit_seq KQ_ret_seq KQ_norm_block KQ_ret_block KQ_exit_block KQ_exit_loop KQ_ret_loop O_nil O_cons S_call S_mv SE_mv SD_mv S_pick SE_pick SD_pick S_bin SE_bin SD_bin S_eqb SE_eqb SD_eqb S_eqv SE_eqv SD_eqv S_eqnil SE_eqnil SD_eqnil S_un SE_un SD_un S_conv SE_conv SD_conv S_mkfn SE_mkfn SD_mkfn S_load SE_load SD_load S_nilck SE_nilck SD_nilck S_slS SE_slS SD_slS S_slP SE_slP SD_slP S_fldA SE_fldA SD_fldA S_fld SE_fld SD_fld S_ixS SE_ixS SD_ixS S_ixP SE_ixP SD_ixP S_ixV SE_ixV SD_ixV S_ixStr SE_ixStr SD_ixStr S_ext SE_ext SD_ext S_len SE_len SD_len S_lenStr SE_lenStr SD_lenStr S_lenc SE_lenc SD_lenc S_mn SE_mn SD_mn S_mx SE_mx SD_mx S_build SE_build SD_build S_alloc SD_alloc S_box SD_box S_bslice SD_bslice S_mksl SD_mksl S_store SD_store S_append SD_append S_copy SD_copy S_clr SD_clr S_mlen SE_mlen SD_mlen S_mget SE_mget SD_mget S_mval SE_mval SD_mval S_mentry SE_mentry SD_mentry S_mkmap SD_mkmap S_mset SD_mset S_mrange SD_mrange S_mnext mlenA mgetA mvalA mentryA msetA mrangeA cells_mp isCell_mp cellsOk_mp aq_some aa_some al_some alA_some aqd_some aad_some ald_some ape_some D_done D_both D_early D_step SE_call SD_call IOpd.ev Fr.get Fr.put Fr.putd entryFr pickA binA binI isSh shI eqbA eqvA ints ints_mI Option.map_some eqnilA unA convA loadA nilckA intA slSA slPA fldAA fldVA ixSA ixPA ixVA ixStrA extA lenA lenStrA mnA mxA AVal.fits fillA fillOk buildA opa srcA appA stoA copA clrA rdFree zeros List.length_nil List.length_cons List.length_map List.map_cons List.map_nil Option.map_some Option.map_none if_true if_false ite_true ite_false true_and and_true and_self implies_true forall_const true_implies Bool.false_eq_true Bool.not_true Bool.not_false decide_eq_true_eq decide_eq_false_iff_not eq_self List.getElem?_cons_zero List.getElem?_cons_succ List.getElem?_nil List.set_cons_zero List.set_cons_succ List.nil_append List.cons_append List.append_nil List.replicate_zero List.replicate_succ Nat.zero_add false_implies rng_lt rng_end rng_get cells_I cells_B cells_sl cut_one Int.toNat_natCast Int.natCast_nonneg List.headD_cons Int.lt_irrefl not_false_eq_true decide_false decide_true mI_length mI_cells mI_sz mI_isCell mI_mid mI_append mI_take mI_drop cells_val cells_own cells_agg isCell_I isCell_B isCell_nil isCell_sl isCell_own isCell_ptr isCell_fn isCell_rp isCell_yld cellsOk_I cellsOk_B cellsOk_nil cellsOk_sl cellsOk_own cellsOk_ptr cellsOk_fn cellsOk_rp cellsOk_yld cellsOk_agg cells_nil cells_ptr cells_fn cells_rp List.all_cons List.all_nil Bool.and_true Nat.mul_one Nat.zero_mul Nat.one_mul List.take_zero List.take_nil List.drop_nil List.drop_zero List.not_mem_nil Nat.le_refl Nat.zero_le mS_length mS_cells mS_sz mS_isCell mS_mid mS_append mS_take mS_drop cells_sI isCell_sI cellsOk_sI sI_eq succ_le_self' List.take_succ_cons List.drop_succ_cons List.take_length beq_self_eq_true List.mem_cons or_false forall_eq mI_put mI_rep O_guard' D_earlyG' D_stepG' W_cond' G_tt G_tf G_ft G_ff GE_tt GE_tf GE_ft GE_ff GS_tt GS_tf GS_ft GS_ff G_u GE_u GS_u IC_t IC_f xft xff xtt xtf z00 z20 z22 z02 zz tn0
theorem s38o (t : Bool) (xs : List Int) (h0 : xs ≠ []) (hl : xs.length ≤ 137388953472) : Abs.Spec Try.prog 38 [.sl true t (mI xs)] [] fun v H' => v = .own 0 0 xs.length xs.length 1 ∧ H' = [.cells (mI xs)] := by
  refine Abs.Spec.walk mixed fn38 nn38 t38 q38 nt38 (by simp) ?_
  have h1 : ¬ xs.length ≤ 0 := by have := List.length_pos_iff.2 h0; omega
  simp only [w38, h1, go_sem, Nat.reduceEqDiff, Nat.reduceAdd, Nat.reduceLT, Nat.reduceLeDiff, reduceIte, reduceCtorEq]
  refine ⟨?_, ?_⟩
  · simp; omega
  · exact leafO _ _ [some 1] (Wk.one rfl rfl mI_bnd (by simp [fle, vle, Fr.get])) ⟨rfl, rfl⟩
theorem s38o' (t : Bool) (xs : List Int) (h0 : xs ≠ []) (hl : xs.length ≤ 137388953472) : Abs.Spec Try.prog 38 [.sl false t (mI xs)] [] fun v H' => v = .own 0 0 xs.length xs.length 1 ∧ H' = [.cells (mI xs)] :=
  Spec.split_nil (post := []) (fun h => absurd (by simpa [mI] using h) h0) (s38o t xs h0 hl)
/-- A vector for others. -/
theorem s71 (rows : List (List Int)) (n : Nat) (h1 : 1 ≤ n) (hn : n ≤ 4) (x : List Int) (hx : x.length = 4) : Abs.Spec Try.prog 71 [matV rows n, vec x] [] fun v H' => H' = [] ∧ v = .sl false false (mI (x.take n)) := by
  refine Abs.Spec.walk mixed fn71 nn71 t71 q71 nt71 (by simp) ?_
  have hxl : (mI x).length = 4 := by rw [mI_length, hx]
  have hxn : (x.take n).length = n := by rw [List.length_take]; omega
  simp only [w71, hxl, matV_eq, vec_eq, Nat.sub_zero, go_sem, Nat.reduceEqDiff, Nat.reduceAdd, Nat.reduceLT, Nat.reduceLeDiff, reduceIte, reduceCtorEq]
  refine ⟨allI_cell x, ⟨Int.le_refl 0, by omega, .inl trivial⟩, ?_⟩
  refine CallK.by (CallV.of_spec (first := []) (cap := []) (Spec.lendInts (args := [.own 1 0 n 4 1]) (args' := [.sl false false (mI (x.take n))]) (lb := (x.take n).length) (s38o' false (x.take n) (fun e => by rw [e] at hxn; simp at hxn; omega) (by omega)) ⟨vle_mI rfl (by simp) hxn.symm mI_take, trivial⟩)) fun v H' ⟨hv, hH⟩ => ?_
  subst hv hH
  simp only [go_sem, Nat.reduceEqDiff, Nat.reduceAdd, Nat.reduceLT, Nat.reduceLeDiff, reduceIte, reduceCtorEq]
  exact leaf (.sl false false (mI (x.take n))) ⟨mI_bnd, fun h => h, fun h => h, rfl⟩ ⟨rfl, rfl⟩
/-- Basic moves of a matrix, as they come: those into which none fits of those before, in an order by size. -/
def IsB (rows : List (List Int)) (n : Nat) (bs : List (List Int)) : Prop := ∃ l : List (List Int), l.Perm (Sp.movesL rows n) ∧ l.Pairwise (fun x y => Sp.size x ≤ Sp.size y) ∧ bs = Sp.keepMin [] l
theorem keepMin_sub {P : List Int → Prop} : ∀ {l out : List (List Int)}, (∀ x ∈ out, P x) → (∀ x ∈ l, P x) → ∀ x ∈ Sp.keepMin out l, P x
  | [], out, h, _ => h
  | y :: l, out, h, hl => by
    unfold Sp.keepMin
    split
    · exact keepMin_sub h fun x hx => hl x (by simp [hx])
    · refine keepMin_sub (fun x hx => ?_) fun x hx => hl x (by simp [hx])
      rcases List.mem_append.1 hx with hx | hx
      · exact h x hx
      · simp at hx; subst hx; exact hl _ (by simp)
theorem keepMin_len : ∀ {l out : List (List Int)}, (Sp.keepMin out l).length ≤ out.length + l.length
  | [], out => by simp [Sp.keepMin]
  | y :: l, out => by
    unfold Sp.keepMin
    split
    · have := keepMin_len (l := l) (out := out); simp; omega
    · have := keepMin_len (l := l) (out := out ++ [y]); simp at this ⊢; omega
theorem IsB.ok {rows : List (List Int)} {n : Nat} {bs : List (List Int)} (h : IsB rows n bs) : ∀ x ∈ bs, okV x := by
  obtain ⟨l, hp, -, rfl⟩ := h
  exact keepMin_sub (by simp) fun x hx => movesL_ok (hp.mem_iff.1 hx)
theorem IsB.len {rows : List (List Int)} {n : Nat} {bs : List (List Int)} (hn : n ≤ 4) (h : IsB rows n bs) : bs.length ≤ 1185921 := by
  obtain ⟨l, hp, -, rfl⟩ := h
  have h1 := keepMin_len (l := l) (out := [])
  have h2 := Sp.movesL_len (rows := rows) hn
  have h3 := hp.length_eq
  simp at h1; omega
/-- Basic moves, to be read. -/
theorem s85f (rows : List (List Int)) (n : Nat) (hn : n ≤ 4) (h0 : rows ≠ []) (hr : Sp.Rows4 rows) : Abs.Spec Try.prog 85 [matV rows n] [] fun v H' => H' = [] ∧ ∃ bs, IsB rows n bs ∧ v = .sl false false (mV bs) :=
  (s85 rows n hn h0 hr).wk fun v H1 ⟨l, hp, hs, hv, hH⟩ => by
    subst hv hH
    have hB : IsB rows n (Sp.keepMin [] l) := ⟨l, hp, hs, rfl⟩
    exact ⟨[], .sl false false (mV (Sp.keepMin [] l)), [], Wk.nil ⟨vle_mV (fun v hv => (hB.ok v hv).1) rfl (by simp) rfl, trivial⟩, rfl, _, hB, rfl⟩
theorem mat_rows {a : List (List Int)} (h : Sp.mat a = true) : Sp.Rows4 (a.map Sp.pad) ∧ a.map Sp.pad ≠ [] ∧ 1 ≤ (a.getD 0 []).length ∧ (a.getD 0 []).length ≤ 4 := by
  obtain ⟨h1, h2, h3⟩ := Sp.mat_spec h
  have hb : ∀ r ∈ a, Sp.inB 2 r := by
    unfold Sp.mat at h
    simp only [Bool.and_eq_true, decide_eq_true_eq, List.all_eq_true, Sp.numbers] at h
    intro r hr x hx
    have := (h.2.2 r hr).2.2.2 x hx
    omega
  have hg : a.getD 0 [] ∈ a := by rw [List.getD_eq_getElem?_getD, List.getElem?_eq_getElem (by omega)]; exact List.getElem_mem _
  refine ⟨⟨fun r hr => ?_, fun r hr => ?_, by simpa using h2⟩, ?_, (h3 _ hg).2.1, (h3 _ hg).2.2⟩
  · obtain ⟨x, hx, rfl⟩ := List.mem_map.1 hr
    exact Sp.pad_len (h3 x hx).2.2
  · obtain ⟨x, hx, rfl⟩ := List.mem_map.1 hr
    intro c hc
    rcases List.mem_append.1 hc with hc | hc
    · exact hb x hx c hc
    · rw [List.eq_of_mem_replicate hc]; omega
  · intro e; have := congrArg List.length e; simp at this; rw [this] at h1; simp at h1
def posV (x : List Int) : Bool := x.all fun a => decide (0 ≤ a)
theorem s130 (x : List Int) (hx : x.length = 4) : Abs.Spec Try.prog 130 [vec x] [] fun v H' => H' = [] ∧ v = B (posV x) := by
  refine Abs.Spec.walk mixed fn130 nn130 t130 q130 nt130 (by simp) ?_
  obtain ⟨p, r, rfl⟩ : ∃ p r, x = p :: r := by
    match x, hx with
    | p :: r, _ => exact ⟨p, r, rfl⟩
  have hxl : (mI (p :: r)).length = 4 := by rw [mI_length, hx]
  simp only [w130, hxl, vec_eq, Nat.sub_zero, go_sem, Nat.reduceEqDiff, Nat.reduceAdd, Nat.reduceLT, Nat.reduceLeDiff, reduceIte, reduceCtorEq]
  refine ⟨allI_cell _, ⟨Int.le_refl 0, Int.le_refl _, .inl trivial⟩, ?_⟩
  refine CallK.pure (CallV.of_spec (first := []) (cap := []) (Spec.lend (args' := [.sl false false (mI (p :: r))]) (s72 false false p r (by rw [hx]; decide)) rfl ⟨vle_mI rfl (by simp) hx.symm (List.take_of_length_le (by omega)), trivial⟩)) ?_
  simp only [go_sem, Nat.reduceEqDiff, Nat.reduceAdd, Nat.reduceLT, Nat.reduceLeDiff, reduceIte, reduceCtorEq]
  refine leaf (B _) rfl ⟨rfl, ?_⟩
  congr 1
  rw [Bool.eq_iff_iff, decide_eq_true_eq]
  have := Sp.min_fold 0 r p
  unfold posV
  rw [List.all_cons, Bool.and_eq_true, decide_eq_true_eq, List.all_eq_true]
  simp only [decide_eq_true_eq]
  exact this
theorem idx_any {α : Type} (p : α → Bool) (xs : List α) : decide (Sp.idx p xs ≥ 0) = xs.any p := by
  cases h : xs.any p with
  | false => rw [List.any_eq_false] at h; rw [Sp.idx_none fun x hx => by simpa using h x hx]; rfl
  | true => obtain ⟨x, hx, hp⟩ := List.any_eq_true.1 h; exact decide_eq_true (Sp.idx_pos ⟨x, hx, hp⟩)
end Go.Proofs.Ytipfjfmdjmaflaa
