/- Contracts of folds: counting. -/
import Derived.Test.YthdjloegibenoaaFC
namespace Go.Proofs.Ythdjloegibenoaa
open Go.Abs AVal
set_option linter.unusedSimpArgs false
attribute [local go_sem] W_skip W_keep KQ_canon canon Fr.norm W_seq W_block W_exit W_ret W_ops W_draw KQ_nil KQ_norm_seq KQ_exit_seq KQ_ret_seq KQ_norm_block KQ_ret_block KQ_exit_block KQ_exit_loop KQ_ret_loop O_nil O_cons S_call S_mv SE_mv SD_mv S_pick SE_pick SD_pick S_bin SE_bin SD_bin S_eqb SE_eqb SD_eqb S_eqv SE_eqv SD_eqv S_eqnil SE_eqnil SD_eqnil S_un SE_un SD_un S_conv SE_conv SD_conv S_mkfn SE_mkfn SD_mkfn S_load SE_load SD_load S_nilck SE_nilck SD_nilck S_slS SE_slS SD_slS S_slP SE_slP SD_slP S_fldA SE_fldA SD_fldA S_fld SE_fld SD_fld S_ixS SE_ixS SD_ixS S_ixP SE_ixP SD_ixP S_ixV SE_ixV SD_ixV S_ixStr SE_ixStr SD_ixStr S_ext SE_ext SD_ext S_len SE_len SD_len S_lenStr SE_lenStr SD_lenStr S_lenc SE_lenc SD_lenc S_mn SE_mn SD_mn S_mx SE_mx SD_mx S_build SE_build SD_build S_alloc SD_alloc S_box SD_box S_bslice SD_bslice S_mksl SD_mksl S_store SD_store S_append SD_append S_copy SD_copy S_clr SD_clr aq_some aa_some al_some aqd_some aad_some ald_some ape_some D_done D_both D_early D_step SE_call SD_call IOpd.ev Fr.get Fr.put Fr.putd entryFr pickA binA binI isSh shI eqbA eqvA ints ints_mI Option.map_some eqnilA unA convA loadA nilckA intA slSA slPA fldAA fldVA ixSA ixPA ixVA ixStrA extA lenA lenStrA mnA mxA AVal.fits fillA fillOk buildA opa srcA appA stoA copA clrA rdFree zeros List.length_nil List.length_cons List.length_map List.map_cons List.map_nil Option.map_some Option.map_none if_true if_false ite_true ite_false true_and and_true and_self implies_true forall_const true_implies Bool.false_eq_true Bool.not_true Bool.not_false decide_eq_true_eq decide_eq_false_iff_not eq_self List.getElem?_cons_zero List.getElem?_cons_succ List.getElem?_nil List.set_cons_zero List.set_cons_succ List.nil_append List.cons_append List.append_nil List.replicate_zero List.replicate_succ Nat.zero_add false_implies rng_lt rng_end rng_get cells_I cells_B cells_sl cut_one Int.toNat_natCast Int.natCast_nonneg List.headD_cons Int.lt_irrefl not_false_eq_true decide_false decide_true mI_length mI_cells mI_sz mI_isCell mI_mid mI_append mI_take mI_drop cells_val cells_own cells_agg isCell_I isCell_B isCell_nil isCell_sl isCell_own isCell_ptr isCell_fn isCell_rp isCell_yld cellsOk_I cellsOk_B cellsOk_nil cellsOk_sl cellsOk_own cellsOk_ptr cellsOk_fn cellsOk_rp cellsOk_yld cellsOk_agg cells_nil cells_ptr cells_fn cells_rp List.all_cons List.all_nil Bool.and_true Nat.mul_one Nat.zero_mul Nat.one_mul List.take_zero List.take_nil List.drop_nil List.drop_zero List.not_mem_nil Nat.le_refl Nat.zero_le mS_length mS_cells mS_sz mS_isCell mS_mid mS_append mS_take mS_drop cells_sI isCell_sI cellsOk_sI sI_eq succ_le_self' List.take_succ_cons List.drop_succ_cons List.take_length beq_self_eq_true List.mem_cons or_false forall_eq mI_put mI_rep O_guard' D_earlyG' D_stepG' W_cond' G_tt G_tf G_ft G_ff GE_tt GE_tf GE_ft GE_ff GS_tt GS_tf GS_ft GS_ff G_u GE_u GS_u IC_t IC_f xft xff xtt xtf z00 z20 z22 z02 zz tn0

theorem ext_len (n : Nat) : ∀ (m : Nat) (used : Int) (D : List Int), (ext n m used D).length ≤ n ^ m
  | 0, used, D => by simp [ext]
  | m + 1, used, D => by
    rw [ext, List.length_flatMap]
    have key : ∀ l : List Nat, (l.map fun x : Nat => (if (Sp.bitAt used x == 0) = true then ext n m (Sp.orI used (Sp.shl1 x)) (D ++ [(x : Int)]) else []).length).sum ≤ l.length * n ^ m := by
      intro l
      induction l with
      | nil => simp
      | cons x l ih =>
        have h1 : (if (Sp.bitAt used x == 0) = true then ext n m (Sp.orI used (Sp.shl1 x)) (D ++ [(x : Int)]) else []).length ≤ n ^ m := by
          split
          · exact ext_len n m _ _
          · simp
        simp only [List.map_cons, List.sum_cons, List.length_cons, Nat.add_mul, Nat.one_mul]
        omega
    have := key (List.range n)
    rw [List.length_range] at this
    rw [Nat.pow_succ, Nat.mul_comm]; exact this
theorem fold_len {n : Nat} (hn : n ≤ 8) : (foldL n).length ≤ 16777216 :=
  Nat.le_trans (List.length_filter_le _ _) (Nat.le_trans (ext_len n n 0 []) (Nat.le_trans (Nat.pow_le_pow_left hn n) (Nat.le_trans (Nat.pow_le_pow_right (by omega) hn) (by decide))))

section
variable {n : Nat} {g : FuncId} {cap : List AVal} {is : List Int → Bool} {fr : Fr}
/-- The rounds of counting: whose they are. -/
noncomputable def cl58 (g : FuncId) (cap : List AVal) (is : List Int → Bool) (fr : Fr) : Cl where
  Γ := Int
  σ := Int
  val k := k
  live _ := True
  ok k H := H[0]? = some (.cells [.fn (.func g) [] cap]) ∧ H[1]? = some (.cells [I k]) ∧ H[3]? = some (.loop .ready none fr 16 #[9] (asOf Try.f58 0) (bdOf Try.f58 0))
  mine _ j := j = 0 ∨ j = 1 ∨ j = 3
  go _ _ := true
  upd k D := if is D then IntKind.i64.wrap (k + 1) else k
  frame := fun q H H' h hk => by rw [hk 0 (by simp), hk 1 (by simp), hk 3 (by simp)]; exact h
  lt := fun q H j h hm => by
    rcases hm with rfl | rfl | rfl
    · exact (List.getElem?_eq_some_iff.1 h.1).1
    · exact (List.getElem?_eq_some_iff.1 h.2.1).1
    · exact (List.getElem?_eq_some_iff.1 h.2.2).1

set_option maxHeartbeats 1000000 in
theorem y58 (f3 : fr.get 3 = ptr 0 0) (f5 : fr.get 5 = ptr 1 0) (hcap : ∀ H, vle.vleL H [] [] 3 cap cap) (his : ∀ D, domN n D → Abs.Spec Try.prog g (.sl false false (mI D) :: cap) [] fun v H' => H' = [] ∧ v = B (is D)) :
    YOk Try.prog (cl58 g cap is fr) 3 n fun _ => domN n := by
  rintro (c : Int) H k lb cs D ⟨h0, h1, hL⟩ _ hok hmk hk htk hDn hle hdom
  have lt : ∀ {H : AHeap} {j b}, H[j]? = some b → j < H.length := fun hj => (List.getElem?_eq_some_iff.1 hj).1
  have hmk' : k ≠ 0 ∧ k ≠ 1 ∧ k ≠ 3 := ⟨fun h => hmk (.inl h), fun h => hmk (.inr (.inl h)), fun h => hmk (.inr (.inr h))⟩
  refine CallV.yldW mixed (L := 3) (fr := fr) (n := 16) (ps := [9]) hL t58R0a t58R0b rfl (by simp) ?_
  simp only [w58R0a, putArgs, go_sem, Nat.reduceEqDiff, Nat.reduceAdd, Nat.reduceLT, Nat.reduceLeDiff, reduceIte, reduceCtorEq]
  refine ⟨hL, ?_⟩
  have hLl := lt hL
  have h1l := lt h1
  have hlp : ∀ LP, HOk LP H → LP 3 fr := fun LP h0 => h0 3 _ hL
  have fin : ∀ c' : Int, c' = (if is D then IntKind.i64.wrap (c + 1) else c) → ∀ H1, H1 = (H.set 3 (.loop .busy none fr 16 #[9] (asOf Try.f58 0) (bdOf Try.f58 0))).set 1 (.cells [I c']) →
      H1[3]? = some (.loop .busy none fr 16 #[9] (asOf Try.f58 0) (bdOf Try.f58 0)) ∧ ∃ ρ H3, Wk H.length [] ρ [] (H1.set 3 (.loop .ready none fr 16 #[9] (asOf Try.f58 0) (bdOf Try.f58 0))) [] H3 ∧
        B true = B ((cl58 g cap is fr).go c D) ∧ ∃ γ', (cl58 g cap is fr).val γ' = (cl58 g cap is fr).upd c D ∧ ((cl58 g cap is fr).go c D = true → (cl58 g cap is fr).live γ') ∧ (cl58 g cap is fr).To H.length c H γ' H3 := by
    intro c' hc' H1 hH1
    subst hH1
    have e : (((H.set 3 (.loop .busy none fr 16 #[9] (asOf Try.f58 0) (bdOf Try.f58 0))).set 1 (.cells [I c'])).set 3 (.loop .ready none fr 16 #[9] (asOf Try.f58 0) (bdOf Try.f58 0))).length = H.length := by simp
    have hto : (cl58 g cap is fr).To H.length c H c' (((H.set 3 (.loop .busy none fr 16 #[9] (asOf Try.f58 0) (bdOf Try.f58 0))).set 1 (.cells [I c'])).set 3 (.loop .ready none fr 16 #[9] (asOf Try.f58 0) (bdOf Try.f58 0))) := by
      refine ⟨⟨?_, ?_, ?_⟩, fun LP h9 => ?_, by rw [e]; exact Nat.le_refl _, fun j hj hm => ?_, fun j hj => .inl hj⟩
      · rw [List.getElem?_set_ne (by omega), List.getElem?_set_ne (by omega), List.getElem?_set_ne (by omega)]; exact h0
      · rw [List.getElem?_set_ne (by omega), List.getElem?_set_self (by simp; omega)]
      · rw [List.getElem?_set_self (by simp; omega)]
      · exact ((h9.set (b := .loop .busy none fr 16 #[9] _ _) (hlp LP h9)).set (b := .cells [I c']) rfl).set (b := .loop .ready none fr 16 #[9] _ _) (hlp LP h9)
      · have : j ≠ 0 ∧ j ≠ 1 ∧ j ≠ 3 := ⟨fun h => hm (.inl h), fun h => hm (.inr (.inl h)), fun h => hm (.inr (.inr h))⟩
        rw [List.getElem?_set_ne (by omega), List.getElem?_set_ne (by omega), List.getElem?_set_ne (by omega)]
    refine ⟨by rw [List.getElem?_set_ne (by omega), List.getElem?_set_self hLl], idρ _, _, Wk.ok (fr' := []) (ms := []) (hto.hok _ hok) (fun _ _ h => h) hto.len (fun _ h => by cases h) (fun _ h => by cases h), rfl, c', hc', fun _ => trivial, hto⟩
  have hb0 : (H.set 3 (.loop .busy none fr 16 #[9] (asOf Try.f58 0) (bdOf Try.f58 0)))[0]? = some (.cells [.fn (.func g) [] cap]) := by rw [List.getElem?_set_ne (by omega)]; exact h0
  have hb1 : (H.set 3 (.loop .busy none fr 16 #[9] (asOf Try.f58 0) (bdOf Try.f58 0)))[1]? = some (.cells [I c]) := by rw [List.getElem?_set_ne (by omega)]; exact h1
  have hbk : (H.set 3 (.loop .busy none fr 16 #[9] (asOf Try.f58 0) (bdOf Try.f58 0)))[k]? = some (.cells cs) := by rw [List.getElem?_set_ne (by omega)]; exact hk
  have hsame : (H.set 3 (.loop .busy none fr 16 #[9] (asOf Try.f58 0) (bdOf Try.f58 0))) = (H.set 3 (.loop .busy none fr 16 #[9] (asOf Try.f58 0) (bdOf Try.f58 0))).set 1 (.cells [I c]) := by
    refine List.ext_getElem? fun j => ?_
    by_cases hj : j = 1
    · subst hj; rw [hb1, List.getElem?_set_self (by simp; omega)]
    · rw [List.getElem?_set_ne (i := 1) (Ne.symm hj)]
  generalize H.set 3 (.loop .busy none fr 16 #[9] (asOf Try.f58 0) (bdOf Try.f58 0)) = Hb at fin hb0 hb1 hbk hsame ⊢
  simp only [w58R0b, f3, hb0, go_sem, Nat.reduceEqDiff, Nat.reduceAdd, Nat.reduceLT, Nat.reduceLeDiff, reduceIte, reduceCtorEq]
  refine CallK.pure (CallV.of_spec (first := []) (Spec.lend (args' := .sl false false (mI D) :: cap) (his D hdom) rfl ⟨vle_mI hbk (by simp) hDn.symm (by rw [htk]), hcap _⟩)) ?_
  simp only [go_sem, Nat.reduceEqDiff, Nat.reduceAdd, Nat.reduceLT, Nat.reduceLeDiff, reduceIte, reduceCtorEq]
  refine IC.split (fun h => ?_) fun h => ?_
  · simp only [f5, hb1, go_sem, Nat.reduceEqDiff, Nat.reduceAdd, Nat.reduceLT, Nat.reduceLeDiff, reduceIte, reduceCtorEq]
    exact fin _ (by rw [if_pos h]) _ rfl
  · simp only [go_sem, Nat.reduceEqDiff, Nat.reduceAdd, Nat.reduceLT, Nat.reduceLeDiff, reduceIte, reduceCtorEq]
    exact fin c (by rw [h]; rfl) Hb hsame

theorem run_count {is : List Int → Bool} : ∀ (l : List (List Int)) (k : Nat), k + l.length < 9223372036854775808 →
    run (fun (_ : Int) (_ : List Int) => true) (fun (k : Int) D => if is D then IntKind.i64.wrap (k + 1) else k) (k : Int) l = (((k + (l.filter is).length : Nat) : Int), true)
  | [], k, _ => rfl
  | x :: l, k, h => by
    simp only [List.length_cons] at h
    rw [run, if_pos rfl]
    by_cases hx : is x = true
    · rw [if_pos hx, wrap64 (by omega) (by omega), List.filter_cons_of_pos hx, show (k : Int) + 1 = ((k + 1 : Nat) : Int) from rfl, run_count l (k + 1) (by omega), List.length_cons]
      congr 2; omega
    · rw [if_neg hx, List.filter_cons_of_neg hx]
      exact run_count l k (by omega)

/-- How many of the possible piles are so. -/
theorem s58 (hn : n ≤ 8) (h1 : 1 ≤ n) (hcb : bndL 0 cap = true) (hcap : ∀ H, vle.vleL H [] [] 3 cap cap) (his : ∀ D, domN n D → Abs.Spec Try.prog g (.sl false false (mI D) :: cap) [] fun v H' => H' = [] ∧ v = B (is D)) :
    Abs.Spec Try.prog 58 [I n, .fn (.func g) [] cap] [] fun v H' => H' = [] ∧ v = I (((foldL n).filter is).length : Nat) := by
  refine Abs.Spec.walk mixed fn58 nn58 t58 q58 nt58 (by simp) ?_
  simp only [w58, go_sem, Nat.reduceEqDiff, Nat.reduceAdd, Nat.reduceLT, Nat.reduceLeDiff, reduceIte, reduceCtorEq]
  refine CallK.pure (liftV (s65 n) (by simp [bndL, AVal.bnd]) (by simp [AVal.bnd, bndL]) _) ?_
  simp only [go_sem, Nat.reduceEqDiff, Nat.reduceAdd, Nat.reduceLT, Nat.reduceLeDiff, reduceIte, reduceCtorEq]
  generalize hfr : ([_, _, _, _, _, _, _] : Fr) = fr
  have f3 : Fr.get fr 3 = ptr 0 0 := by rw [← hfr]; rfl
  have f5 : Fr.get fr 5 = ptr 1 0 := by rw [← hfr]; rfl
  have f8 : Fr.get fr 8 = .fn (.func 76) [] [.rp [I n]] := by rw [← hfr]; rfl
  have hbnd : (fr.all fun q => q.2.bnd 4) = true := by rw [← hfr]; simp [AVal.bnd, bndL, (bnd_mono' (Nat.zero_le 4)).2 cap hcb]
  clear hfr
  refine W_range rfl f8 ?_
  have hcl : (cl58 g cap is fr).ok (0 : Int) ([.cells [.fn (.func g) [] cap], .cells [I 0]] ++ [.defs, .loop .ready none fr 16 #[9] (asOf Try.f58 0) (bdOf Try.f58 0)]) := ⟨rfl, rfl, rfl⟩
  have hok : HOk (LPb 4) ([.cells [.fn (.func g) [] cap], .cells [I 0]] ++ [.defs, .loop .ready none fr 16 #[9] (asOf Try.f58 0) (bdOf Try.f58 0)]) := by
    have k1 := (HOk.nil (LP := LPb 4)).push (b := .cells [.fn (.func g) [] cap]) (by simp [blkN, AVal.bnd, bndL, hcb])
    have k2 := k1.push (b := .cells [I 0]) rfl
    have k3 := k2.push (b := .defs) trivial
    exact k3.push (b := .loop .ready none fr 16 #[9] (asOf Try.f58 0) (bdOf Try.f58 0)) ⟨by simp, hbnd⟩
  refine (s76 (c := cl58 g cap is fr) hn h1 (y58 f3 f5 hcap his) (γ := (0 : Int)) (.mem fold_ok) trivial hok hcl (by simp)).mono ?_
  rintro v H' ⟨_, (c : Int), hval, hto⟩
  obtain ⟨k0, k1, kL⟩ := hto.ok
  have hlen := fold_len hn
  have hc : c = (((foldL n).filter is).length : Nat) := by
    have hr := run_count (is := is) (foldL n) 0 (by omega)
    have h0 : c = (run (fun (_ : Int) (_ : List Int) => true) (fun (k : Int) D => if is D then IntKind.i64.wrap (k + 1) else k) ((0 : Nat) : Int) (foldL n)).1 := hval
    rw [hr] at h0
    simpa using h0
  have hm2 : H'[2]? = some .defs := by
    rw [hto.kept 2 (by simp) (fun h => by rcases h with h | h | h <;> omega)]; rfl
  refine ⟨.ready, none, kL, (fun h => by cases h), ?_⟩
  show KQ _ _ .norm _ _ _ _
  have e1 : (H'.set 3 .dead)[1]? = some (.cells [I c]) := by rw [List.getElem?_set_ne (by omega)]; exact k1
  simp only [w58T0, f5, e1, go_sem, Nat.reduceEqDiff, Nat.reduceAdd, Nat.reduceLT, Nat.reduceLeDiff, reduceIte, reduceCtorEq]
  refine leafM (H' := (H'.set 3 .dead).set 2 .dead) (I c) (by simp [killM, hm2]) rfl ⟨rfl, by rw [hc]⟩
end

theorem s59 (D : List Int) : Abs.Spec Try.prog 59 [.sl false false (mI D)] [] fun v H' => H' = [] ∧ v = B true := by
  refine Abs.Spec.walk mixed fn59 nn59 t59 q59 nt59 (by simp) ?_
  simp only [w59, go_sem, Nat.reduceEqDiff, Nat.reduceAdd, Nat.reduceLT, Nat.reduceLeDiff, reduceIte, reduceCtorEq]
  exact leaf (B true) rfl ⟨rfl, rfl⟩
theorem s57 (n : Int) : Abs.Spec Try.prog 57 [I n] [] fun v H' => H' = [] ∧ v = B (decide (1 ≤ n) && decide (n ≤ 7)) := by
  refine Abs.Spec.walk mixed fn57 nn57 t57 q57 nt57 (by simp) ?_
  have e1 : decide (n ≥ 1) = decide (1 ≤ n) := rfl
  simp only [w57, e1, go_sem, Nat.reduceEqDiff, Nat.reduceAdd, Nat.reduceLT, Nat.reduceLeDiff, reduceIte, reduceCtorEq]
  refine G.split (fun h => ?_) fun h => ?_
  · simp only [go_sem, Nat.reduceEqDiff, Nat.reduceAdd, Nat.reduceLT, Nat.reduceLeDiff, reduceIte, reduceCtorEq]
    exact leaf (B _) rfl ⟨rfl, by rw [h]; rfl⟩
  · simp only [go_sem, Nat.reduceEqDiff, Nat.reduceAdd, Nat.reduceLT, Nat.reduceLeDiff, reduceIte, reduceCtorEq]
    exact leaf (B _) rfl ⟨rfl, by rw [h]; rfl⟩
theorem filter_true' {l : List (List Int)} : l.filter (fun _ => true) = l := List.filter_eq_self.2 fun _ _ => rfl
/-- Count. -/
def lenOk (n : Int) : Bool := decide (1 ≤ n) && decide (n ≤ 7)
theorem len_nat {n : Int} (h : lenOk n = true) : ∃ m : Nat, n = m ∧ 1 ≤ m ∧ m ≤ 7 := by
  simp only [lenOk, Bool.and_eq_true, decide_eq_true_eq] at h
  exact ⟨n.toNat, by omega, by omega, by omega⟩
theorem s24 (n : Int) : Abs.Spec Try.prog 24 [I n] [] fun v H' => H' = [] ∧ v = if lenOk n then .tup [I ((foldL n.toNat).length : Nat), I 0] else .tup [I 0, I 2] := by
  refine Abs.Spec.walk mixed fn24 nn24 t24 q24 nt24 (by simp) ?_
  simp only [w24, go_sem, Nat.reduceEqDiff, Nat.reduceAdd, Nat.reduceLT, Nat.reduceLeDiff, reduceIte, reduceCtorEq]
  refine CallK.by (CallV.of_spec (s57 n)) fun v H' ⟨h1, h2⟩ => ?_
  subst h1 h2
  simp only [go_sem, Nat.reduceEqDiff, Nat.reduceAdd, Nat.reduceLT, Nat.reduceLeDiff, reduceIte, reduceCtorEq]
  refine IC.split (fun h => ?_) fun h => ?_
  · have h : lenOk n = false := by
      cases hh : lenOk n with
      | false => rfl
      | true => rw [lenOk] at hh; rw [hh] at h; cases h
    simp only [go_sem, Nat.reduceEqDiff, Nat.reduceAdd, Nat.reduceLT, Nat.reduceLeDiff, reduceIte, reduceCtorEq]
    exact leaf2 (.tup [I 0, I 2]) ⟨rfl, rfl, trivial⟩ ⟨rfl, by rw [h]; rfl⟩
  · have h : lenOk n = true := by simpa [lenOk] using h
    obtain ⟨m, rfl, hm1, hm7⟩ := len_nat h
    simp only [go_sem, Nat.reduceEqDiff, Nat.reduceAdd, Nat.reduceLT, Nat.reduceLeDiff, reduceIte, reduceCtorEq]
    refine CallK.by (CallV.of_spec (first := []) (cap := []) (s58 (is := fun _ => true) (cap := []) (by omega) hm1 rfl (fun _ => trivial) fun D _ => s59 D)) fun v H' ⟨h1, h2⟩ => ?_
    subst h1 h2
    rw [filter_true']
    simp only [go_sem, Nat.reduceEqDiff, Nat.reduceAdd, Nat.reduceLT, Nat.reduceLeDiff, reduceIte, reduceCtorEq]
    exact leaf2 (.tup [I ((foldL m).length : Nat), I 0]) ⟨rfl, rfl, trivial⟩ ⟨rfl, by rw [if_pos h]⟩
theorem fold3 : (foldL 3).length = 6 := by decide +kernel
theorem s18 : Abs.Spec Try.prog 18 [] [] fun v H' => H' = [] ∧ v = B true := by
  refine Abs.Spec.walk mixed fn18 nn18 t18 q18 nt18 (by simp) ?_
  simp only [w18, go_sem, Nat.reduceEqDiff, Nat.reduceAdd, Nat.reduceLT, Nat.reduceLeDiff, reduceIte, reduceCtorEq]
  refine CallK.by (CallV.of_spec (s24 3)) fun v H' ⟨h1, h2⟩ => ?_
  subst h1 h2
  rw [if_pos (by decide), show (3 : Int).toNat = 3 from rfl, fold3]
  have e : (((6 : Nat) : Int) == 6) = true := rfl
  simp only [List.getD_cons_zero, List.getD_cons_succ, e, z00, go_sem, Nat.reduceEqDiff, Nat.reduceAdd, Nat.reduceLT, Nat.reduceLeDiff, reduceIte, reduceCtorEq]
  exact leaf (B true) rfl ⟨rfl, rfl⟩
end Go.Proofs.Ythdjloegibenoaa
