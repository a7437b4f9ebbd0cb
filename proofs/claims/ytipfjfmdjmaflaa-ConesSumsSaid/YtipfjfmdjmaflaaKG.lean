/- Contracts: reading a matrix. -/
import Derived.Test.YtipfjfmdjmaflaaKF
namespace Go.Proofs.Ytipfjfmdjmaflaa
open Go.Abs AVal
set_option linter.unusedSimpArgs false
attribute [local go_sem] W_skip W_keep KQ_canon canon Fr.norm W_seq W_block W_scope W_exit W_ret W_ops W_draw KQ_nil KQ_norm_seq KQ_exit_seq KQ_ret_seq KQ_norm_block KQ_ret_block KQ_exit_block KQ_exit_loop KQ_ret_loop O_nil O_cons S_call S_mv SE_mv SD_mv S_pick SE_pick SD_pick S_bin SE_bin SD_bin S_eqb SE_eqb SD_eqb S_eqv SE_eqv SD_eqv S_eqnil SE_eqnil SD_eqnil S_un SE_un SD_un S_conv SE_conv SD_conv S_mkfn SE_mkfn SD_mkfn S_load SE_load SD_load S_nilck SE_nilck SD_nilck S_slS SE_slS SD_slS S_slP SE_slP SD_slP S_fldA SE_fldA SD_fldA S_fld SE_fld SD_fld S_ixS SE_ixS SD_ixS S_ixP SE_ixP SD_ixP S_ixV SE_ixV SD_ixV S_ixStr SE_ixStr SD_ixStr S_ext SE_ext SD_ext S_len SE_len SD_len S_lenStr SE_lenStr SD_lenStr S_lenc SE_lenc SD_lenc S_mn SE_mn SD_mn S_mx SE_mx SD_mx S_build SE_build SD_build S_alloc SD_alloc S_box SD_box S_bslice SD_bslice S_mksl SD_mksl S_store SD_store S_append SD_append S_copy SD_copy S_clr SD_clr aq_some aa_some al_some aqd_some aad_some ald_some ape_some D_done D_both D_early D_step SE_call SD_call IOpd.ev Fr.get Fr.put Fr.putd entryFr pickA binA binI isSh shI eqbA eqvA ints ints_mI Option.map_some eqnilA unA convA loadA nilckA intA slSA slPA fldAA fldVA ixSA ixPA ixVA ixStrA extA lenA lenStrA mnA mxA AVal.fits fillA fillOk buildA opa srcA appA stoA copA clrA rdFree zeros List.length_nil List.length_cons List.length_map List.map_cons List.map_nil Option.map_some Option.map_none if_true if_false ite_true ite_false true_and and_true and_self implies_true forall_const true_implies Bool.false_eq_true Bool.not_true Bool.not_false decide_eq_true_eq decide_eq_false_iff_not eq_self List.getElem?_cons_zero List.getElem?_cons_succ List.getElem?_nil List.set_cons_zero List.set_cons_succ List.nil_append List.cons_append List.append_nil List.replicate_zero List.replicate_succ Nat.zero_add false_implies rng_lt rng_end rng_get cells_I cells_B cells_sl cut_one Int.toNat_natCast Int.natCast_nonneg List.headD_cons Int.lt_irrefl not_false_eq_true decide_false decide_true mI_length mI_cells mI_sz mI_isCell mI_mid mI_append mI_take mI_drop cells_val cells_own cells_agg isCell_I isCell_B isCell_nil isCell_sl isCell_own isCell_ptr isCell_fn isCell_rp isCell_yld cellsOk_I cellsOk_B cellsOk_nil cellsOk_sl cellsOk_own cellsOk_ptr cellsOk_fn cellsOk_rp cellsOk_yld cellsOk_agg cells_nil cells_ptr cells_fn cells_rp List.all_cons List.all_nil Bool.and_true Nat.mul_one Nat.zero_mul Nat.one_mul List.take_zero List.take_nil List.drop_nil List.drop_zero List.not_mem_nil Nat.le_refl Nat.zero_le mS_length mS_cells mS_sz mS_isCell mS_mid mS_append mS_take mS_drop cells_sI isCell_sI cellsOk_sI sI_eq succ_le_self' List.take_succ_cons List.drop_succ_cons List.take_length beq_self_eq_true List.mem_cons or_false forall_eq mI_put mI_rep O_guard' D_earlyG' D_stepG' W_cond' G_tt G_tf G_ft G_ff GE_tt GE_tf GE_ft GE_ff GS_tt GS_tf GS_ft GS_ff G_u GE_u GS_u IC_t IC_f xft xff xtt xtf z00 z20 z22 z02 zz tn0

def readR (a : List (List Int)) (v : AVal) : Prop := (Sp.mat a = true ∧ v = .tup [matV (a.map Sp.pad) (a.getD 0 []).length, B true]) ∨ (Sp.mat a = false ∧ ∃ vs n, v = .tup [matV vs n, B false])

set_option maxHeartbeats 2000000 in
theorem s62 (nn t : Bool) (a : List (List Int)) (ha : ∀ l ∈ a, l.length < 9223372036854775808) (hl : a.length < 9223372036854775808) : Abs.Spec Try.prog 62 [.sl nn t (mS a)] [] fun v H' => H' = [] ∧ readR a v := by
  have no : ∀ {e : Ex} {fr : Fr} {H : AHeap} {vs : List (List Int)} {n : Int} {b : Bool} {k i : Nat}, (e = .norm ∨ e = .ret) → (∀ v ∈ vs, v.length = 4) → k = vs.length → readR a (.tup [matV vs n, B b]) → fr.get 2 = ptr 0 0 → fr.get 3 = B b → H[0]? = some (.cells [own i 0 k k 4, I n]) → H[i]? = some (.cells (mI vs.flatten)) → retA 0 r62 (fun v H' => H' = [] ∧ readR a v) e fr H [] := fun {e fr H vs n b k i} he h4 hk hR h2 h3 hH hi => by
    refine leafCT (.agg [own i 0 k k 4, I n]) (.tup [matV vs n, B b]) (p := 0 + 2 ≤ 2 ∧ (true = false → 2 = 1)) (by rw [h2]; simp only [loadA, hH]; rfl) ⟨by omega, fun h => by cases h⟩ ⟨.inr ⟨vle_mV h4 hi (by simp) hk, rfl, trivial⟩, by rw [h3]; rfl, trivial⟩ ⟨rfl, hR⟩ he
  have no0 : ∀ {e : Ex} {fr : Fr} {H : AHeap}, (e = .norm ∨ e = .ret) → Sp.mat a = false → fr.get 2 = ptr 0 0 → fr.get 3 = B false → H[0]? = some (.cells [nilSl, I 0]) → retA 0 r62 (fun v H' => H' = [] ∧ readR a v) e fr H [] := fun {e fr H} he hm h2 h3 hH => by
    refine leafCT (.agg [nilSl, I 0]) (.tup [matV [] 0, B false]) (p := 0 + 2 ≤ 2 ∧ (true = false → 2 = 1)) (by rw [h2]; simp only [loadA, hH]; rfl) ⟨by omega, fun h => by cases h⟩ ⟨.inr ⟨⟨rfl, rfl, rfl⟩, rfl, trivial⟩, by rw [h3]; rfl, trivial⟩ ⟨rfl, .inr ⟨hm, [], 0, rfl⟩⟩ he
  have bad : Sp.mat a = false → ∀ vs n, readR a (.tup [matV vs n, B false]) := fun h vs n => .inr ⟨h, vs, n, rfl⟩
  refine Abs.Spec.walk mixed fn62 nn62 t62 q62 nt62 (by simp) ?_
  simp only [w62, go_sem, Nat.reduceEqDiff, Nat.reduceAdd, Nat.reduceLT, Nat.reduceLeDiff, reduceIte, reduceCtorEq]
  refine G.splitP (fun h1 => ?_) fun h1 => ?_
  · simp only [cut_two, go_sem, Nat.reduceEqDiff, Nat.reduceAdd, Nat.reduceLT, Nat.reduceLeDiff, reduceIte, reduceCtorEq]
    exact no0 (.inr rfl) (by rw [Sp.mat, decide_eq_false (show ¬ 1 ≤ a.length by omega)]; rfl) rfl rfl rfl
  simp only [go_sem, Nat.reduceEqDiff, Nat.reduceAdd, Nat.reduceLT, Nat.reduceLeDiff, reduceIte, reduceCtorEq]
  refine IC.splitP (fun h2 => ?_) fun h2 => ?_
  · simp only [cut_two, go_sem, Nat.reduceEqDiff, Nat.reduceAdd, Nat.reduceLT, Nat.reduceLeDiff, reduceIte, reduceCtorEq]
    exact no0 (.inr rfl) (by rw [Sp.mat, decide_eq_false (show ¬ a.length ≤ 2 by omega), Bool.false_and, Bool.and_false]) rfl rfl rfl
  have h0 : 0 < a.length := by omega
  obtain ⟨n, hn⟩ : ∃ n, n = (a.getD 0 []).length := ⟨_, rfl⟩
  obtain ⟨q, hq⟩ : ∃ q : List Int → Bool, q = fun r => decide (r.length = n) && (decide (1 ≤ r.length) && (decide (r.length ≤ 4) && Sp.numbers r (-2) 2)) := ⟨_, rfl⟩
  have hmat : Sp.mat a = a.all q := by
    rw [Sp.mat, decide_eq_true (show 1 ≤ a.length by omega), decide_eq_true (show a.length ≤ 2 by omega), hq, hn]; rfl
  have hn' := hn.symm
  have hal2 : a.length ≤ 2 := by omega
  simp only [mS_get, h0, hn', go_sem, Nat.reduceEqDiff, Nat.reduceAdd, Nat.reduceLT, Nat.reduceLeDiff, reduceIte, reduceCtorEq]
  refine ⟨by omega, ?_⟩
  refine W_loop (fun p : { p : List (List Int) × List (List Int) // p.1 ++ p.2 = a ∧ a.all q = p.2.all q ∧ ∀ r ∈ p.1, r.length ≤ 4 } => ([(2, ptr 0 0), (4, ptr 1 0), (21, sl nn t (mS a)), (22, I a.length), (23, I p.1.1.length)], [.cells [nilSl, I 0], .cells [own 2 0 p.1.1.length p.1.1.length 4, I n], .cells (mI (p.1.1.map Sp.pad).flatten)])) (fun p => p.1.2.length) ⟨([], a), rfl, rfl, by simp⟩ [some 0, some 1, none]
    (Wk.mk0 rfl (by simp [imgs, Blk.alive]) ⟨.inl ⟨rfl, rfl⟩, .inr ⟨⟨by simp, by simp⟩, rfl, trivial⟩, rfl, trivial⟩ (by simp [fle, vle, Fr.get, mS_bnd])) ?_
  rintro ⟨⟨pre, suf⟩, hp, hinv, hpre⟩
  dsimp only at hp hinv hpre
  rw [← hmat] at hinv
  have hp4 : ∀ v ∈ pre.map Sp.pad, v.length = 4 := fun v hv => by
    obtain ⟨r, hr, rfl⟩ := List.mem_map.1 hv
    exact Sp.pad_len (hpre r hr)
  have hpl' : pre.length = (pre.map Sp.pad).length := by simp
  cases suf with
  | nil =>
    have hpl : pre.length = a.length := by rw [← hp]; simp
    have hz : decide ((pre.length : Int) < a.length) = false := decide_eq_false (by omega)
    have hpa : pre = a := by simpa using hp
    simp only [w62L0, hz, w62T1, cut_two, go_sem, Nat.reduceEqDiff, Nat.reduceAdd, Nat.reduceLT, Nat.reduceLeDiff, reduceIte, reduceCtorEq]
    exact no (.inr rfl) hp4 hpl' (.inl ⟨by rw [hinv]; rfl, by rw [hpa, hn]⟩) rfl rfl rfl rfl
  | cons r suf =>
    have hpl : pre.length < a.length := by rw [← hp]; simp
    have hz : decide ((pre.length : Int) < a.length) = true := decide_eq_true (by omega)
    have hget : a.getD pre.length [] = r := by rw [← hp]; simp [List.getD_eq_getElem?_getD]
    have hra : r ∈ a := by rw [← hp]; simp
    have hrl := ha r hra
    have hqr : (r :: suf).all q = (q r && suf.all q) := rfl
    rw [hqr] at hinv
    have badq : q r = false → Sp.mat a = false := fun h => by rw [hinv, h]; rfl
    have hwk : IntKind.i64.wrap ((pre.length : Int) + 1) = pre.length + 1 := wrap64 (by omega) (by omega)
    simp only [w62L0, hz, mS_get, hpl, hget, go_sem, Nat.reduceEqDiff, Nat.reduceAdd, Nat.reduceLT, Nat.reduceLeDiff, reduceIte, reduceCtorEq]
    refine ⟨by omega, ?_⟩
    refine G.split (fun g1 => ?_) fun g1 => ?_
    · simp only [cut_two, go_sem, Nat.reduceEqDiff, Nat.reduceAdd, Nat.reduceLT, Nat.reduceLeDiff, reduceIte, reduceCtorEq]
      exact no (.inr rfl) hp4 hpl' (bad (badq (by rw [hq]; simp; simp at g1; omega)) _ _) rfl rfl rfl rfl
    simp only [go_sem, Nat.reduceEqDiff, Nat.reduceAdd, Nat.reduceLT, Nat.reduceLeDiff, reduceIte, reduceCtorEq]
    refine G.splitP (fun g2 => ?_) fun g2 => ?_
    · simp only [cut_two, go_sem, Nat.reduceEqDiff, Nat.reduceAdd, Nat.reduceLT, Nat.reduceLeDiff, reduceIte, reduceCtorEq]
      exact no (.inr rfl) hp4 hpl' (bad (badq (by rw [hq]; simp; simp at g1; omega)) _ _) rfl rfl rfl rfl
    simp only [go_sem, Nat.reduceEqDiff, Nat.reduceAdd, Nat.reduceLT, Nat.reduceLeDiff, reduceIte, reduceCtorEq]
    refine G.splitP (fun g3 => ?_) fun g3 => ?_
    · simp only [cut_two, go_sem, Nat.reduceEqDiff, Nat.reduceAdd, Nat.reduceLT, Nat.reduceLeDiff, reduceIte, reduceCtorEq]
      exact no (.inr rfl) hp4 hpl' (bad (badq (by rw [hq]; simp; simp at g1; omega)) _ _) rfl rfl rfl rfl
    have hrn : r.length = n := by have := bne_eq_false_iff_eq.1 g1; omega
    have hn1 : 1 ≤ n := by omega
    have hn4 : n ≤ 4 := by omega
    obtain ⟨x0, xs', hrx⟩ : ∃ x0 xs', r = x0 :: xs' := by
      cases r with
      | nil => simp at hrn; omega
      | cons a b => exact ⟨a, b, rfl⟩
    have hnum := Sp.numbers_iff (l := r) (by rw [hrx]; simp) (lo := -2) (hi := 2)
    have m1 := s72 false false x0 xs' (by rw [← hrx]; exact hrl)
    have m2 := s101 false false x0 xs' (by rw [← hrx]; exact hrl)
    rw [← hrx] at m1 m2
    simp only [go_sem, Nat.reduceEqDiff, Nat.reduceAdd, Nat.reduceLT, Nat.reduceLeDiff, reduceIte, reduceCtorEq]
    refine CallK.pure (liftV m1 (by simp [bndL, AVal.bnd, mI_bnd]) rfl _) ?_
    simp only [go_sem, Nat.reduceEqDiff, Nat.reduceAdd, Nat.reduceLT, Nat.reduceLeDiff, reduceIte, reduceCtorEq]
    refine G.splitP (fun g4 => ?_) fun g4 => ?_
    · simp only [cut_two, go_sem, Nat.reduceEqDiff, Nat.reduceAdd, Nat.reduceLT, Nat.reduceLeDiff, reduceIte, reduceCtorEq]
      exact no (.inr rfl) hp4 hpl' (bad (badq (by
        cases hb : Sp.numbers r (-2) 2 with
        | true => have := hnum.1 hb; omega
        | false => rw [hq]; simp [hb])) _ _) rfl rfl rfl rfl
    simp only [go_sem, Nat.reduceEqDiff, Nat.reduceAdd, Nat.reduceLT, Nat.reduceLeDiff, reduceIte, reduceCtorEq]
    refine CallK.pure (liftV m2 (by simp [bndL, AVal.bnd, mI_bnd]) rfl _) ?_
    simp only [go_sem, Nat.reduceEqDiff, Nat.reduceAdd, Nat.reduceLT, Nat.reduceLeDiff, reduceIte, reduceCtorEq]
    refine IC.splitP (fun g5 => ?_) fun g5 => ?_
    · simp only [cut_two, go_sem, Nat.reduceEqDiff, Nat.reduceAdd, Nat.reduceLT, Nat.reduceLeDiff, reduceIte, reduceCtorEq]
      exact no (.inr rfl) hp4 hpl' (bad (badq (by
        cases hb : Sp.numbers r (-2) 2 with
        | true => have := hnum.1 hb; omega
        | false => rw [hq]; simp [hb])) _ _) rfl rfl rfl rfl
    have hqt : q r = true := by
      rw [hq]
      simp only [hnum.2 ⟨by omega, by omega⟩, Bool.and_true, Bool.and_eq_true, decide_eq_true_eq]
      omega
    simp only [go_sem, Nat.reduceEqDiff, Nat.reduceAdd, Nat.reduceLT, Nat.reduceLeDiff, reduceIte, reduceCtorEq]
    refine ⟨by simp, CallKD.pure (liftV (s74 false false r (by omega)) (by simp [bndL, AVal.bnd, mI_bnd]) (by simp [vec, AVal.bnd, mI_bnd])) ?_⟩
    have h4r := Sp.pad_len (show r.length ≤ 4 by omega)
    have hml : (mI (Sp.pad r)).length = 4 := by rw [mI_length, h4r]
    have eD : List.drop 4 [[I 0, I 0, I 0, I 0]].flatten = [] := rfl
    have eP : List.take 4 (Sp.pad r) = Sp.pad r := List.take_of_length_le (by omega)
    have hfl := flat_len hp4
    rw [List.length_map] at hfl
    have eF : List.take (pre.length * 4) (List.map Sp.pad pre).flatten = (List.map Sp.pad pre).flatten := List.take_of_length_le (by omega)
    have eG : (List.map Sp.pad pre).flatten ++ Sp.pad r = (List.map Sp.pad (pre ++ [r])).flatten := by simp
    have h44 : 4 ≤ (Sp.pad r).length := by omega
    simp only [cells_vec, hml, eD, eP, eF, eG, h44, go_sem, Nat.reduceEqDiff, Nat.reduceAdd, Nat.reduceLT, Nat.reduceLeDiff, reduceIte, reduceCtorEq]
    refine ⟨rfl, ⟨by omega, by omega⟩, ?_⟩
    refine round1 rfl ⟨(pre ++ [r], suf), by simp [hp], by rw [← hmat, hinv, hqt]; rfl, fun x hx => by rcases List.mem_append.1 hx with hx | hx; exact hpre x hx; simp at hx; subst hx; omega⟩ [some 0, some 1, some 4] (by simp)
      (Wk.mk0 rfl (by simp [imgs, Blk.alive]) ⟨.inl ⟨rfl, rfl⟩, .inr ⟨⟨by simp, by simp⟩, rfl, trivial⟩, .inl ⟨rfl, mI_bnd⟩, trivial⟩ (by simp [fle, vle, Fr.get, mS_bnd, hwk]))
end Go.Proofs.Ytipfjfmdjmaflaa
