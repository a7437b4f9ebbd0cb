/- The statement SwapsRenamed. -/
import Derived.Test.YtkmmngphcodjjaaPU
namespace Go.Proofs.Ytkmmngphcodjjaa
open Go.Abs AVal
set_option linter.unusedSimpArgs false
attribute [local go_sem] W_skip W_keep KQ_canon canon Fr.norm W_seq W_block W_exit W_ret W_ops W_draw KQ_nil KQ_norm_seq KQ_exit_seq KQ_ret_seq KQ_norm_block KQ_ret_block KQ_exit_block KQ_exit_loop KQ_ret_loop O_nil O_cons S_call S_mv SE_mv SD_mv S_pick SE_pick SD_pick S_bin SE_bin SD_bin S_eqb SE_eqb SD_eqb S_eqv SE_eqv SD_eqv S_eqnil SE_eqnil SD_eqnil S_un SE_un SD_un S_conv SE_conv SD_conv S_mkfn SE_mkfn SD_mkfn S_load SE_load SD_load S_nilck SE_nilck SD_nilck S_slS SE_slS SD_slS S_slP SE_slP SD_slP S_fldA SE_fldA SD_fldA S_fld SE_fld SD_fld S_ixS SE_ixS SD_ixS S_ixP SE_ixP SD_ixP S_ixV SE_ixV SD_ixV S_ixStr SE_ixStr SD_ixStr S_ext SE_ext SD_ext S_len SE_len SD_len S_lenStr SE_lenStr SD_lenStr S_lenc SE_lenc SD_lenc S_mn SE_mn SD_mn S_mx SE_mx SD_mx S_build SE_build SD_build S_alloc SD_alloc S_box SD_box S_bslice SD_bslice S_mksl SD_mksl S_store SD_store S_append SD_append S_copy SD_copy S_clr SD_clr aq_some aa_some al_some aqd_some aad_some ald_some ape_some D_done D_both D_early D_step SE_call SD_call IOpd.ev Fr.get Fr.put Fr.putd entryFr pickA binA binI isSh shI eqbA eqvA ints ints_mI Option.map_some eqnilA unA convA loadA nilckA intA slSA slPA fldAA fldVA ixSA ixPA ixVA ixStrA extA lenA lenStrA mnA mxA AVal.fits fillA fillOk buildA opa srcA appA stoA copA clrA rdFree zeros List.length_nil List.length_cons List.length_map List.map_cons List.map_nil Option.map_some Option.map_none if_true if_false ite_true ite_false true_and and_true and_self implies_true forall_const true_implies Bool.false_eq_true Bool.not_true Bool.not_false decide_eq_true_eq decide_eq_false_iff_not eq_self List.getElem?_cons_zero List.getElem?_cons_succ List.getElem?_nil List.set_cons_zero List.set_cons_succ List.nil_append List.cons_append List.append_nil List.replicate_zero List.replicate_succ Nat.zero_add false_implies rng_lt rng_end rng_get cells_I cells_B cells_sl cut_one Int.toNat_natCast Int.natCast_nonneg List.headD_cons Int.lt_irrefl not_false_eq_true decide_false decide_true mI_length mI_cells mI_sz mI_isCell mI_mid mI_append mI_take mI_drop cells_val cells_own cells_agg isCell_I isCell_B isCell_nil isCell_sl isCell_own isCell_ptr isCell_fn isCell_rp isCell_yld cellsOk_I cellsOk_B cellsOk_nil cellsOk_sl cellsOk_own cellsOk_ptr cellsOk_fn cellsOk_rp cellsOk_yld cellsOk_agg cells_nil cells_ptr cells_fn cells_rp List.all_cons List.all_nil Bool.and_true Nat.mul_one Nat.zero_mul Nat.one_mul List.take_zero List.take_nil List.drop_nil List.drop_zero List.not_mem_nil Nat.le_refl Nat.zero_le mS_length mS_cells mS_sz mS_isCell mS_mid mS_append mS_take mS_drop cells_sI isCell_sI cellsOk_sI sI_eq succ_le_self' List.take_succ_cons List.drop_succ_cons List.take_length beq_self_eq_true List.mem_cons or_false forall_eq mI_put mI_rep O_guard' D_earlyG' D_stepG' W_cond' G_tt G_tf G_ft G_ff GE_tt GE_tf GE_ft GE_ff GS_tt GS_tf GS_ft GS_ff G_u GE_u GS_u IC_t IC_f xft xff xtt xtf z00 z20 z22 z02 zz tn0

theorem s36 (x T : List Int) (hT : T.length < 9223372036854775808) : Abs.Spec Try.prog 36 [sI x, .rp [.sl false false (mI T)]] [] fun v H' => v = B (T == x) ∧ H' = [] := by
  refine Abs.Spec.walk mixed fn36 nn36 t36 q36 nt36 (by simp) ?_
  simp only [w36, go_sem, Nat.reduceEqDiff, Nat.reduceAdd, Nat.reduceLT, Nat.reduceLeDiff, reduceIte, reduceCtorEq]
  refine CallK.by (CallV.of_spec (s20 false false false false T x hT)) fun v H' ⟨h1, h2⟩ => ?_
  subst h1 h2
  simp only [go_sem, Nat.reduceEqDiff, Nat.reduceAdd, Nat.reduceLT, Nat.reduceLeDiff, reduceIte, reduceCtorEq]
  exact leaf (B _) rfl ⟨rfl, rfl⟩
/-- Who bears the names, as numbers. -/
def nam (d : List Int) (i : Nat) : Nat := (d.getD i 0).toNat
def rowsA (w : List (List Int)) (σ τ : Nat → Nat) (i : Nat) : List AVal := (List.range w.length).map fun j => if τ j < i then sI ((w.getD (τ j) []).map fun c => (σ c.toNat : Int)) else nilSl
theorem cell_hd {l : List AVal} {j : Nat} {v : AVal} (h : j < l.length) : ((l.set j v).drop j).headD .any = v := by
  rw [List.drop_eq_getElem_cons (by simpa using h)]; simp
theorem cell_put {l : List AVal} {j : Nat} {u v : AVal} (h : j < l.length) : (l.set j u).take j ++ [v] ++ (l.set j u).drop (j + 1) = l.set j v := by
  rw [set_put (by simpa using h), List.set_set]

theorem vleL_upd {H : AHeap} {ρ : List (Option Nat)} {img : List Nat} {k : Nat} {u v : AVal} (hu : vle H ρ img k u v) : ∀ (R : List AVal) (j : Nat), (∀ x ∈ R, vle H ρ img k x x) → vle.vleL H ρ img k (R.set j u) (R.set j v)
  | [], _, _ => trivial
  | x :: R, 0, h => ⟨hu, by
      have := vleL_self R fun y hy => h y (by simp [hy])
      exact this⟩
  | x :: R, j + 1, h => ⟨h x (by simp), vleL_upd hu R j fun y hy => h y (by simp [hy])⟩
where
  vleL_self : ∀ R : List AVal, (∀ x ∈ R, vle H ρ img k x x) → vle.vleL H ρ img k R R
    | [], _ => trivial
    | x :: R, h => ⟨h x (by simp), vleL_self R fun y hy => h y (by simp [hy])⟩
theorem rowsA_len {w : List (List Int)} {σ τ : Nat → Nat} {i : Nat} : (rowsA w σ τ i).length = w.length := by simp [rowsA]
theorem rowsA_self {w : List (List Int)} {σ τ : Nat → Nat} {i : Nat} {H : AHeap} {ρ : List (Option Nat)} {img : List Nat} {k : Nat} : ∀ x ∈ rowsA w σ τ i, vle H ρ img (k + 1) x x := fun x hx => by
  obtain ⟨j, _, rfl⟩ := List.mem_map.1 hx
  split
  · exact ⟨mI_bnd, fun h => h, fun h => h, rfl⟩
  · rfl
theorem rowsA_bnd {w : List (List Int)} {σ τ : Nat → Nat} {i : Nat} : bndL 0 (rowsA w σ τ i) = true := bndL_of fun x hx => by
  obtain ⟨j, _, rfl⟩ := List.mem_map.1 hx
  split
  · exact mI_bnd
  · rfl
theorem rowsA_zero {w : List (List Int)} {σ τ : Nat → Nat} : rowsA w σ τ 0 = List.replicate w.length nilSl := by
  refine List.ext_getElem (by simp [rowsA]) fun j h1 h2 => ?_
  simp [rowsA]
theorem rowsA_succ {w : List (List Int)} {σ τ : Nat → Nat} (hb : Bij w.length σ τ) {i : Nat} (hi : i < w.length) : rowsA w σ τ (i + 1) = (rowsA w σ τ i).set (σ i) (sI ((w.getD i []).map fun c => (σ c.toNat : Int))) := by
  refine List.ext_getElem (by simp [rowsA]) fun j h1 h2 => ?_
  have hj : j < w.length := by simpa [rowsA] using h1
  rw [List.getElem_set]
  simp only [rowsA, List.getElem_map, List.getElem_range]
  by_cases e : σ i = j
  · subst e
    rw [if_pos rfl, (hb.a i hi).2, if_pos (by omega)]
  · have hne : τ j ≠ i := fun e2 => e (by rw [← e2]; exact (hb.b j hj).2)
    rw [if_neg e]
    by_cases h : τ j < i
    · rw [if_pos h, if_pos (by omega)]
    · rw [if_neg h, if_neg (by omega)]
theorem rowsA_nil {w : List (List Int)} {σ τ : Nat → Nat} (hb : Bij w.length σ τ) {i : Nat} (hi : i < w.length) : (rowsA w σ τ i).set (σ i) nilSl = rowsA w σ τ i := by
  refine List.ext_getElem (by simp [rowsA]) fun j h1 h2 => ?_
  rw [List.getElem_set]
  simp only [rowsA, List.getElem_map, List.getElem_range]
  by_cases e : σ i = j
  · subst e
    rw [if_pos rfl, (hb.a i hi).2, if_neg (by omega)]
  · rw [if_neg e]

set_option maxRecDepth 20000 in
set_option maxHeartbeats 4000000 in
theorem s8 (w : List (List Int)) (d : List Int) (hw : ∀ l ∈ w, l.length < 9223372036854775808) (hl : w.length < 9223372036854775808) (hd : d.length < 9223372036854775808) :
    Abs.Spec Try.prog 8 [.sl false false (mS w), .sl false false (mI d)] [] fun v H' => H' = [] ∧ v = B true := by
  obtain ⟨hw', hl'⟩ := tab_len hw hl
  have e19 : ∀ H, CallV Try.prog (.fn (.func 19) [] []) [] H fun v H' => v = B true ∧ H' = H := fun H => liftV s19 rfl rfl H
  have z00 : ((0 : Int) == 0) = true := rfl
  have z23 : ((2 : Int) == 2) = true := rfl
  have z20 : ((2 : Int) == 0) = false := rfl
  refine Abs.Spec.walk mixed fn8 nn8 t8 q8 nt8 (by simp) ?_
  simp only [w8, go_sem, Nat.reduceEqDiff, Nat.reduceAdd, Nat.reduceLT, Nat.reduceLeDiff, reduceIte, reduceCtorEq]
  refine CallK.by (CallV.of_spec (s28 false false false false w d hw hl hd)) fun v H' ⟨h1, h2⟩ => ?_
  subst h1 h2
  cases hk : (Sp.valid w && Sp.all d w.length) with
  | false =>
    simp only [go_sem, Nat.reduceEqDiff, Nat.reduceAdd, Nat.reduceLT, Nat.reduceLeDiff, reduceIte, reduceCtorEq]
    refine CallK.by (CallV.of_spec (s16 false false w hw hl)) fun v H' ⟨h1, h2⟩ => ?_
    subst h1 h2
    simp only [go_sem, Nat.reduceEqDiff, Nat.reduceAdd, Nat.reduceLT, Nat.reduceLeDiff, reduceIte, reduceCtorEq]
    refine CallK.by (CallV.of_spec (s15 false false (Sp.table w) hw' hl')) fun v H' ⟨h1, h2⟩ => ?_
    subst h1 h2
    rw [tradeA]
    cases hv : Sp.valid (Sp.table w) with
    | false =>
      rw [if_neg (by simp)]
      simp only [List.getD_cons_zero, List.getD_cons_succ, z23, z20, go_sem, Nat.reduceEqDiff, Nat.reduceAdd, Nat.reduceLT, Nat.reduceLeDiff, reduceIte, reduceCtorEq]
      refine CallK.pure (e19 _) ?_
      simp only [go_sem, Nat.reduceEqDiff, Nat.reduceAdd, Nat.reduceLT, Nat.reduceLeDiff, reduceIte, reduceCtorEq]
      exact leaf (B true) rfl ⟨rfl, rfl⟩
    | true =>
      rw [if_pos rfl]
      simp only [List.getD_cons_zero, List.getD_cons_succ, z00, go_sem, Nat.reduceEqDiff, Nat.reduceAdd, Nat.reduceLT, Nat.reduceLeDiff, reduceIte, reduceCtorEq]
      refine CallK.pure (e19 _) ?_
      simp only [go_sem, Nat.reduceEqDiff, Nat.reduceAdd, Nat.reduceLT, Nat.reduceLeDiff, reduceIte, reduceCtorEq]
      exact leaf (B true) rfl ⟨rfl, rfl⟩
  | true =>
    rw [Bool.and_eq_true] at hk
    obtain ⟨hv, ha⟩ := hk
    have g := Sp.valid_good hv
    have n6 := g.n6
    have n1 := g.n1
    rw [Sp.all_eq n6] at ha
    obtain ⟨hdl, hdv, hdi⟩ := order_inj n6 ha
    obtain ⟨σ, hσ⟩ : ∃ σ, nam d = σ := ⟨_, rfl⟩
    have hσd : ∀ i, i < w.length → d.getD i 0 = (σ i : Nat) ∧ σ i < w.length := fun i hi => by
      obtain ⟨c, hc, ec⟩ := hdv i hi
      rw [← hσ, nam, ec, Int.toNat_natCast]; exact ⟨rfl, hc⟩
    have hσi : ∀ i j, i < w.length → j < w.length → σ i = σ j → i = j := fun i j hi hj e => hdi i j hi hj (by rw [(hσd i hi).1, (hσd j hj).1, e])
    obtain ⟨τ, hb⟩ : ∃ τ, Bij w.length σ τ := by
      have hon : ∀ j, j < w.length → ∃ i, i < w.length ∧ σ i = j := fun j hj => by
        obtain ⟨i, hi, _, e⟩ := Sp.onto_of (n := w.length) (f := σ) (P := fun _ => True) (fun i hi _ => ⟨(hσd i hi).2, trivial⟩) (fun a b ha hb _ _ e => hσi a b ha hb e) hj trivial
        exact ⟨i, hi, e⟩
      refine ⟨fun j => if hj : j < w.length then (hon j hj).choose else 0, fun i hi => ?_, fun j hj => by simp only [hj, dif_pos]; exact (hon j hj).choose_spec⟩
      have hs := (hσd i hi).2
      refine ⟨hs, ?_⟩
      simp only [hs, dif_pos]
      exact hσi _ _ (hon _ hs).choose_spec.1 hi (hon _ hs).choose_spec.2
    obtain ⟨w', hw2⟩ : ∃ w', (List.range w.length).map (fun j => (w.getD (τ j) []).map fun c => ((σ c.toNat : Nat) : Int)) = w' := ⟨_, rfl⟩
    have hrows : rowsA w σ τ w.length = mS w' := by
      rw [← hw2, rowsA, mS, List.map_map]
      refine List.map_congr_left fun j hj => ?_
      rw [if_pos (hb.b j (List.mem_range.1 hj)).1]; rfl
    have hwl : w'.length = w.length := by rw [← hw2]; simp
    simp only [mS_length, go_sem, Nat.reduceEqDiff, Nat.reduceAdd, Nat.reduceLT, Nat.reduceLeDiff, reduceIte, reduceCtorEq]
    refine ⟨⟨by omega, by omega, by omega⟩, ?_⟩
    refine W_loop (fun q : { i : Nat // i ≤ w.length } => ([(0, .sl false false (mS w)), (1, .sl false false (mI d)), (7, if q.1 < w.length then own 0 0 w.length w.length 1 else .sl false false (mS w')), (49, .sl false false (mS w)), (50, I w.length), (51, I q.1)], if q.1 < w.length then [.cells (rowsA w σ τ q.1)] else [])) (fun q => w.length - q.1)
      ⟨0, by omega⟩ [some 0] (by
        dsimp only
        rw [if_pos (by omega), if_pos (by omega)]
        exact Wk.mk0 rfl (by simp [imgs, Blk.alive]) ⟨.inl ⟨by rw [rowsA_zero], rowsA_bnd⟩, trivial⟩ (by simp [fle, vle, Fr.get, mI_bnd, mS_bnd])) ?_
    rintro ⟨i, hi⟩
    dsimp only
    by_cases hil : i < w.length
    · rw [if_pos hil, if_pos hil]
      have hz : decide ((i : Int) < w.length) = true := decide_eq_true (by omega)
      have hil' : (i : Int) < w.length := by omega
      have hwk : IntKind.i64.wrap ((i : Int) + 1) = ((i + 1 : Nat) : Int) := by rw [wrap64 (by omega) (by omega)]; rfl
      have hm : w.getD i [] ∈ w := Sp.getD_mem hil
      obtain ⟨row, hrow⟩ : ∃ row, w.getD i [] = row := ⟨_, rfl⟩
      have hrl : row.length = w.length := by rw [← hrow]; exact g.len _ hm
      have hrr : ∀ x ∈ row, 0 ≤ x ∧ x < w.length := by rw [← hrow]; exact g.rng _ hm
      obtain ⟨hdi1, hdi2⟩ := hσd i hil
      simp only [w8L0, hz, hil', mS_get, hil, hrow, mI_length, go_sem, Nat.reduceEqDiff, Nat.reduceAdd, Nat.reduceLT, Nat.reduceLeDiff, reduceIte, reduceCtorEq]
      obtain ⟨R, hR⟩ : ∃ R, rowsA w σ τ i = R := ⟨_, rfl⟩
      have hRl : R.length = w.length := by rw [← hR, rowsA_len]
      have hRs : ∀ {H : AHeap} {ρ : List (Option Nat)} {img : List Nat} {k : Nat}, ∀ x ∈ R, vle H ρ img (k + 1) x x := fun {H ρ img k} => by rw [← hR]; exact rowsA_self
      have hRn : R.set (σ i) nilSl = R := by rw [← hR]; exact rowsA_nil hb hil
      have hR1 : rowsA w σ τ (i + 1) = R.set (σ i) (sI (row.map fun c => (σ c.toNat : Int))) := by rw [rowsA_succ hb hil, hR, hrow]
      rw [hR]
      have hsl : σ i < R.length := by omega
      have hsl' : ((σ i : Nat) : Int) < w.length := by omega
      obtain ⟨rw', hrw⟩ : ∃ rw', (row.map fun c => ((σ c.toNat : Nat) : Int)) = rw' := ⟨_, rfl⟩
      have hrwl : rw'.length = row.length := by rw [← hrw]; simp
      rw [hrw] at hR1
      refine W_loop (fun q : { m : Nat // m ≤ row.length } => ([(0, .sl false false (mS w)), (1, .sl false false (mI d)), (7, own 0 0 w.length w.length 1), (8, I i), (49, .sl false false (mS w)), (50, I w.length), (51, I i), (56, .sl false false (mI row)), (57, I row.length), (58, I q.1)], if q.1 < row.length then [.cells (R.set (σ i) (own 1 0 q.1 q.1 1)), .cells (mI (rw'.take q.1))] else [.cells (R.set (σ i) (sI rw'))])) (fun q => row.length - q.1)
        ⟨0, by omega⟩ [some 0, none] (by
          dsimp only
          rw [if_pos (by omega)]
          exact Wk.mk0 rfl (by simp [imgs, Blk.alive]) ⟨.inr (by
            have := vleL_upd (H := [Blk.cells R]) (ρ := [some 0, none]) (img := imgs [some 0, none] 0 [Blk.cells (R.set (σ i) (own 1 0 0 0 1)), .cells (mI (rw'.take 0))]) (k := 2) (u := nilSl) (v := own 1 0 0 0 1) ⟨by simp, rfl, rfl, rfl, rfl⟩ R (σ i) hRs
            rw [hRn] at this; exact this), by simp [mI], trivial⟩ (by simp [fle, vle, Fr.get, mI_bnd, mS_bnd])) ?_
      rintro ⟨m, hm2⟩
      dsimp only
      have htl : (rw'.take m).length = m := by rw [List.length_take]; omega
      by_cases hml : m < row.length
      · rw [if_pos hml]
        have hzm : decide ((m : Int) < row.length) = true := decide_eq_true (by omega)
        have hml' : (m : Int) < row.length := by omega
        have hwm : IntKind.i64.wrap ((m : Int) + 1) = ((m + 1 : Nat) : Int) := by rw [wrap64 (by omega) (by omega)]; rfl
        obtain ⟨y, hy⟩ : ∃ y, row.getD m 0 = y := ⟨_, rfl⟩
        have hym : y ∈ row := by rw [← hy]; exact Sp.getD_mem hml
        have hyr := hrr y hym
        obtain ⟨c, rfl⟩ : ∃ c : Nat, y = c := ⟨y.toNat, by omega⟩
        have hcl : c < w.length := by omega
        obtain ⟨hc1, hc2⟩ := hσd c hcl
        have hcd : c < d.length := by omega
        have hcd' : (c : Int) < d.length := by omega
        have hid : i < d.length := by omega
        have hid' : (i : Int) < d.length := by omega
        have htk : rw'.take (m + 1) = rw'.take m ++ [((σ c : Nat) : Int)] := by
          have hm3 : m < rw'.length := by omega
          rw [List.take_add_one, List.getElem?_eq_getElem hm3]
          have : rw'[m] = ((σ c : Nat) : Int) := by
            simp only [← hrw, List.getElem_map]
            rw [List.getD_eq_getElem?_getD, List.getElem?_eq_getElem hml] at hy
            simp at hy
            rw [hy, Int.toNat_natCast]
          rw [this]; rfl
        have ttl : (mI (rw'.take m)).take m = mI (rw'.take m) := List.take_of_length_le (by rw [mI_length, htl]; exact Nat.le_refl _)
        have nl : ¬ m + 1 ≤ m := by omega
        have hhd : ((R.set (σ i) (own 1 0 m m 1)).drop (σ i)).headD .any = own 1 0 m m 1 := cell_hd hsl
        have hput : ∀ v : AVal, (R.set (σ i) (own 1 0 m m 1)).take (σ i) ++ [v] ++ (R.set (σ i) (own 1 0 m m 1)).drop (σ i + 1) = R.set (σ i) v := fun v => cell_put hsl
        simp only [w8L1, hzm, hml', hml, mI_get, hy, mI_hd, hid, hid', hdi1, hcd, hcd', hc1, hsl', hhd, hput, ttl, htl, nl, hwm, hRl, List.length_set, go_sem, Nat.reduceEqDiff, Nat.reduceAdd, Nat.reduceLT, Nat.reduceLeDiff, reduceIte, reduceCtorEq]
        refine ⟨by omega, by omega, by omega, ?_⟩
        by_cases hm1 : m + 1 < row.length
        case neg =>
          refine round1 rfl ⟨m + 1, by omega⟩ [some 0] (by dsimp only; omega) ?_
          dsimp only
          rw [if_neg hm1]
          have hfull : rw'.take m ++ [((σ c : Nat) : Int)] = rw' := by rw [← htk]; exact List.take_of_length_le (by omega)
          refine Wk.mk0 rfl (by simp [imgs, Blk.alive]) ⟨.inr ?_, trivial⟩ (by simp [fle, vle, Fr.get, mI_bnd, mS_bnd])
          exact vleL_upd (k := 2) (u := own 3 0 (m + 1) (m + 1) 1) (v := sI rw') (vle_mI rfl (by simp [imgs, Blk.alive]) (by omega) (by rw [mI_snoc, hfull]; exact List.take_of_length_le (by rw [mI_length]; omega))) R (σ i) hRs
        refine round1 rfl ⟨m + 1, by omega⟩ [some 0, some 3] (by dsimp only; omega) ?_
        dsimp only
        rw [htk, if_pos hm1]
        refine Wk.mk0 rfl (by simp [imgs, Blk.alive]) ⟨.inr ?_, .inl ⟨by rw [mI_snoc], mI_bnd⟩, trivial⟩ (by simp [fle, vle, Fr.get, mI_bnd, mS_bnd])
        exact vleL_upd (k := 2) (u := own 3 0 (m + 1) (m + 1) 1) (v := own 1 0 (m + 1) (m + 1) 1) ⟨by simp, rfl, rfl, rfl, Nat.le_refl _, rfl⟩ R (σ i) hRs
      · have hzm : decide ((m : Int) < row.length) = false := decide_eq_false (by omega)
        rw [if_neg hml]
        obtain rfl : m = row.length := by omega
        simp only [w8L1, hzm, w8T2, hwk, go_sem, Nat.reduceEqDiff, Nat.reduceAdd, Nat.reduceLT, Nat.reduceLeDiff, reduceIte, reduceCtorEq]
        by_cases hi1 : i + 1 < w.length
        · refine round1 rfl ⟨i + 1, by omega⟩ [some 0] (by dsimp only; omega) ?_
          dsimp only
          rw [if_pos hi1, if_pos hi1, hR1]
          refine Wk.mk0 rfl (by simp [imgs, Blk.alive]) ⟨.inl ⟨rfl, by rw [← hR1]; exact rowsA_bnd⟩, trivial⟩ (by simp [fle, vle, Fr.get, mI_bnd, mS_bnd])
        · refine round0 rfl ⟨i + 1, by omega⟩ (by dsimp only; omega) (by dsimp only; rw [if_neg hi1]) ?_
          dsimp only
          rw [if_neg hi1]
          have hin : i + 1 = w.length := by omega
          rw [hin] at hR1
          refine ⟨⟨mS_bnd, fun h => h, fun h => h, rfl⟩, ⟨mI_bnd, fun h => h, fun h => h, rfl⟩, vle_mS (cs := mS w') (by rw [← hrows, hR1]; rfl) (by simp) hwl.symm (List.take_of_length_le (by rw [mS_length]; omega)), ⟨mS_bnd, fun h => h, fun h => h, rfl⟩, rfl, ?_, trivial⟩
          show I ((i + 1 : Nat) : Int) = _
          rfl
    · have hz : decide ((i : Int) < w.length) = false := decide_eq_false (by omega)
      obtain rfl : i = w.length := by omega
      rw [if_neg (by omega), if_neg (by omega)]
      simp only [w8L0, hz, w8T3, go_sem, Nat.reduceEqDiff, Nat.reduceAdd, Nat.reduceLT, Nat.reduceLeDiff, reduceIte, reduceCtorEq]
      have hwg : ∀ j, j < w.length → w'.getD j [] = (w.getD (τ j) []).map fun c => ((σ c.toNat : Nat) : Int) := fun j hj => by
        rw [← hw2, List.getD_eq_getElem?_getD, List.getElem?_map, List.getElem?_range hj]; rfl
      have hren : Sp.Ren w w' σ := ⟨hwl, fun i hi => (hσd i hi).2, hσi, fun i hi => by rw [hwg _ (hσd i hi).2, (hb.a i hi).2]⟩
      have hv' : Sp.valid w' = true := by
        rw [Sp.valid_iff, hwl]
        refine ⟨n1, n6, fun l hl => ?_⟩
        rw [← hw2] at hl
        obtain ⟨j, hj, rfl⟩ := List.mem_map.1 hl
        have hj := List.mem_range.1 hj
        have hro := (Sp.valid_iff.1 hv).2.2 _ (Sp.getD_mem (d := []) (hb.b j hj).1)
        obtain ⟨r1, r2, r3⟩ := order_inj n6 hro
        generalize w.getD (τ j) [] = row at *
        refine order_of n6 (by simp [r1]) (fun x hx => ?_) ?_
        · obtain ⟨y, hy, rfl⟩ := List.mem_map.1 hx
          obtain ⟨k, hk, rfl⟩ := Sp.getD_of_mem hy
          obtain ⟨c, hc, ec⟩ := r2 k (by omega)
          rw [ec, Int.toNat_natCast]
          have := (hσd c hc).2
          omega
        · rw [List.nodup_iff_pairwise_ne, List.pairwise_map, List.pairwise_iff_getElem]
          intro a b ha hb' hab e
          obtain ⟨c, hc, ec⟩ := r2 a (by omega)
          obtain ⟨c', hc', ec'⟩ := r2 b (by omega)
          rw [List.getD_eq_getElem?_getD, List.getElem?_eq_getElem ha] at ec
          rw [List.getD_eq_getElem?_getD, List.getElem?_eq_getElem hb'] at ec'
          simp only [Option.getD_some] at ec ec'
          rw [ec, ec', Int.toNat_natCast, Int.toNat_natCast] at e
          have e2 := hσi c c' hc hc' (by omega)
          have := r3 a b (by omega) (by omega) (by rw [List.getD_eq_getElem?_getD, List.getD_eq_getElem?_getD, List.getElem?_eq_getElem ha, List.getElem?_eq_getElem hb', Option.getD_some, Option.getD_some, ec, ec', e2])
          omega
      have g' := Sp.valid_good hv'
      have hT : Sp.table w = w := Sp.take_valid w hv
      have hT' : Sp.table w' = w' := Sp.take_valid w' hv'
      have hww : ∀ l ∈ w', l.length < 9223372036854775808 := fun l hl => by have := g'.len l hl; omega
      have hwl64 : w'.length < 9223372036854775808 := by omega
      have s16w := s16 false false w hw hl
      have s16w' := s16 false false w' hww hwl64
      rw [hT] at s16w
      rw [hT'] at s16w'
      have s15w := s15 false false w hw hl
      have s15w' := s15 false false w' hww hwl64
      rw [tradeA, hv, if_pos rfl] at s15w
      rw [tradeA, hv', if_pos rfl] at s15w'
      obtain ⟨hcl, hcm⟩ := core_ren hren hb hv hv'
      have s34w := s34 w hw hl
      have s34w' := s34 w' hww hwl64
      rw [coreA, hv, Bool.true_and] at s34w
      rw [coreA, hv', Bool.true_and, hwl] at s34w'
      have hfl := (Sp.fin_len w).1
      have hfl' := (Sp.fin_len w').1
      refine CallK.by (CallV.of_spec s16w) fun v H' ⟨h1, h2⟩ => ?_
      subst h1 h2
      simp only [go_sem, Nat.reduceEqDiff, Nat.reduceAdd, Nat.reduceLT, Nat.reduceLeDiff, reduceIte, reduceCtorEq]
      refine CallK.by (CallV.of_spec s15w) fun v H' ⟨h1, h2⟩ => ?_
      subst h1 h2
      simp only [List.getD_cons_zero, List.getD_cons_succ, go_sem, Nat.reduceEqDiff, Nat.reduceAdd, Nat.reduceLT, Nat.reduceLeDiff, reduceIte, reduceCtorEq]
      refine CallK.by (CallV.of_spec s16w') fun v H' ⟨h1, h2⟩ => ?_
      subst h1 h2
      simp only [go_sem, Nat.reduceEqDiff, Nat.reduceAdd, Nat.reduceLT, Nat.reduceLeDiff, reduceIte, reduceCtorEq]
      refine CallK.by (CallV.of_spec s15w') fun v H' ⟨h1, h2⟩ => ?_
      subst h1 h2
      simp only [List.getD_cons_zero, List.getD_cons_succ, go_sem, Nat.reduceEqDiff, Nat.reduceAdd, Nat.reduceLT, Nat.reduceLeDiff, reduceIte, reduceCtorEq]
      refine CallK.by (CallV.of_spec s16w) fun v H' ⟨h1, h2⟩ => ?_
      subst h1 h2
      simp only [go_sem, Nat.reduceEqDiff, Nat.reduceAdd, Nat.reduceLT, Nat.reduceLeDiff, reduceIte, reduceCtorEq]
      obtain ⟨A, A', e, eA, eA', hAl, hAm, hAo, hA6⟩ : ∃ (A A' : List (List Int)) (e : Int), (if decide (w.length ≤ 5) = true then AVal.tup [sl false false (mS (coreL w)), I 0] else .tup [sl false false (mS []), I 2]) = .tup [sl false false (mS A), I e] ∧
          (if decide (w.length ≤ 5) = true then AVal.tup [sl false false (mS (coreL w')), I 0] else .tup [sl false false (mS []), I 2]) = .tup [sl false false (mS A'), I e] ∧ A'.length = A.length ∧ (∀ x ∈ A, renD w.length σ τ x ∈ A') ∧ (∀ x ∈ A, Sp.isOrder x w.length = true) ∧ A.length ≤ 46656 := by
        by_cases h5 : w.length ≤ 5
        · rw [decide_eq_true h5, if_pos rfl, if_pos rfl]
          exact ⟨_, _, _, rfl, rfl, hcl, hcm, fun x hx => ((mem_coreL n6).1 hx).1, coreL_len n6⟩
        · rw [decide_eq_false h5, if_neg (by simp), if_neg (by simp)]
          exact ⟨_, _, _, rfl, rfl, rfl, by simp, by simp, by simp⟩
      rw [eA] at s34w
      rw [eA'] at s34w'
      refine CallK.by (CallV.of_spec s34w) fun v H' ⟨h1, h2⟩ => ?_
      subst h1 h2
      simp only [List.getD_cons_zero, List.getD_cons_succ, go_sem, Nat.reduceEqDiff, Nat.reduceAdd, Nat.reduceLT, Nat.reduceLeDiff, reduceIte, reduceCtorEq]
      refine CallK.by (CallV.of_spec s34w') fun v H' ⟨h1, h2⟩ => ?_
      subst h1 h2
      have z02 : ((0 : Int) != 0) = false := rfl
      have zee : (e != e) = false := bne_self_eq_false _
      have zll : ((A.length : Int) != A'.length) = false := by rw [hAl]; exact bne_self_eq_false _
      have s23w := s23 false false (Sp.fin w).1 w.length (by omega)
      have s23w' := s23 false false (Sp.fin w').1 w.length (by omega)
      rw [Sp.fin_all g] at s23w
      rw [← hwl, Sp.fin_all g', hwl] at s23w'
      simp only [List.getD_cons_zero, List.getD_cons_succ, z02, zee, mS_length, zll, go_sem, Nat.reduceEqDiff, Nat.reduceAdd, Nat.reduceLT, Nat.reduceLeDiff, reduceIte, reduceCtorEq]
      refine CallK.by (CallV.of_spec s23w) fun v H' ⟨h1, h2⟩ => ?_
      subst h1 h2
      simp only [mS_length, go_sem, Nat.reduceEqDiff, Nat.reduceAdd, Nat.reduceLT, Nat.reduceLeDiff, reduceIte, reduceCtorEq]
      refine CallK.by (CallV.of_spec s23w') fun v H' ⟨h1, h2⟩ => ?_
      subst h1 h2
      simp only [mI_length, go_sem, Nat.reduceEqDiff, Nat.reduceAdd, Nat.reduceLT, Nat.reduceLeDiff, reduceIte, reduceCtorEq]
      obtain ⟨T, hTd⟩ : ∃ T, (Sp.fin w).1 = T := ⟨_, rfl⟩
      obtain ⟨U, hUd⟩ : ∃ U, (Sp.fin w').1 = U := ⟨_, rfl⟩
      have hgo : ∀ i, i < w.length → ∃ t : Nat, t < w.length ∧ T.getD i 0 = t ∧ U.getD (σ i) 0 = (σ t : Nat) := fun i hi => by
        obtain ⟨t, ht, et, _⟩ := Sp.fin_round g hi
        refine ⟨t, ht, by rw [← hTd]; exact et, ?_⟩
        rw [← hUd, hren.goes g g' hi, et, Int.toNat_natCast]
      rw [hTd] at hfl ⊢
      rw [hUd] at hfl' ⊢
      refine W_loop (fun q : { i : Nat // i ≤ w.length } => ([(0, .sl false false (mS w)), (1, .sl false false (mI d)), (14, .sl false false (mI U)), (16, .sl false false (mS A)), (18, .sl false false (mS A')), (138, .sl false false (mI T)), (139, I w.length), (140, I q.1)], [])) (fun q => w.length - q.1)
        ⟨0, by omega⟩ [] (Wk.nil (by simp [fle, vle, Fr.get, mI_bnd, mS_bnd, hfl])) ?_
      rintro ⟨i, hi2⟩
      dsimp only
      by_cases hil2 : i < w.length
      · have hz2 : decide ((i : Int) < w.length) = true := decide_eq_true (by omega)
        have hwk2 : IntKind.i64.wrap ((i : Int) + 1) = ((i + 1 : Nat) : Int) := by rw [wrap64 (by omega) (by omega)]; rfl
        obtain ⟨t, ht, et, eu⟩ := hgo i hil2
        obtain ⟨di1, di2⟩ := hσd i hil2
        obtain ⟨dt1, dt2⟩ := hσd t ht
        have a1 : i < T.length := by omega
        have a2 : (i : Int) < T.length := by omega
        have a3 : i < d.length := by omega
        have a4 : (i : Int) < d.length := by omega
        have a5 : σ i < U.length := by omega
        have a6 : ((σ i : Nat) : Int) < U.length := by omega
        have a7 : t < d.length := by omega
        have a8 : (t : Int) < d.length := by omega
        have zne : (((σ t : Nat) : Int) != (σ t : Nat)) = false := bne_self_eq_false _
        simp only [w8L4, hz2, mI_get, mI_hd, a1, a2, a3, a4, a5, a6, a7, a8, et, eu, di1, dt1, zne, hwk2, go_sem, Nat.reduceEqDiff, Nat.reduceAdd, Nat.reduceLT, Nat.reduceLeDiff, reduceIte, reduceCtorEq]
        repeat (refine ⟨by omega, ?_⟩)
        refine round0 rfl ⟨i + 1, by omega⟩ (by dsimp only; omega) rfl ?_
        simp [fle, vle, Fr.get, mI_bnd, mS_bnd]
      · have hz2 : decide ((i : Int) < w.length) = false := decide_eq_false (by omega)
        simp only [w8L4, hz2, w8T5, mS_length, go_sem, Nat.reduceEqDiff, Nat.reduceAdd, Nat.reduceLT, Nat.reduceLeDiff, reduceIte, reduceCtorEq]
        refine W_loop (fun q : { q : Nat // q ≤ A.length } => ([(0, .sl false false (mS w)), (1, .sl false false (mI d)), (18, .sl false false (mS A')), (158, .sl false false (mS A)), (159, I A.length), (160, I q.1)], [])) (fun q => A.length - q.1)
          ⟨0, by omega⟩ [] (Wk.nil (by simp [fle, vle, Fr.get, mI_bnd, mS_bnd])) ?_
        rintro ⟨q, hq⟩
        dsimp only
        by_cases hql : q < A.length
        · have hz3 : decide ((q : Int) < A.length) = true := decide_eq_true (by omega)
          have hql' : (q : Int) < A.length := by omega
          have hwq : IntKind.i64.wrap ((q : Int) + 1) = ((q + 1 : Nat) : Int) := by rw [wrap64 (by omega) (by omega)]; rfl
          obtain ⟨x, hx⟩ : ∃ x, A.getD q [] = x := ⟨_, rfl⟩
          have hxm : x ∈ A := by rw [← hx, List.getD_eq_getElem?_getD, List.getElem?_eq_getElem hql]; exact List.getElem_mem _
          have hxo := hAo x hxm
          obtain ⟨hxl, hxv, hxi⟩ := order_inj n6 hxo
          have e23x : ∀ H, CallV Try.prog (.fn (.func 23) [] []) [.sl false false (mI x), I w.length] H fun v H' => v = B true ∧ H' = H := fun H => by
            have := s23 false false x w.length (by omega)
            rw [Sp.all_eq n6, hxo] at this
            exact liftV this (by simp [bndL, AVal.bnd, mI_bnd]) rfl H
          simp only [w8L6, hz3, hql', mS_get, hql, hx, mS_length, go_sem, Nat.reduceEqDiff, Nat.reduceAdd, Nat.reduceLT, Nat.reduceLeDiff, reduceIte, reduceCtorEq]
          refine ⟨⟨by omega, by omega, by omega⟩, ?_⟩
          refine CallK.pure (e23x _) ?_
          simp only [mI_length, go_sem, Nat.reduceEqDiff, Nat.reduceAdd, Nat.reduceLT, Nat.reduceLeDiff, reduceIte, reduceCtorEq]
          refine W_loop (fun r : { r : Nat × List Int // r.1 ≤ w.length ∧ r.2.length = w.length ∧ ∀ j, j < r.1 → r.2.getD (σ j) 0 = (σ (x.getD j 0).toNat : Nat) } => ([(0, .sl false false (mS w)), (1, .sl false false (mI d)), (18, .sl false false (mS A')), (24, if r.1.1 < w.length then ptr 1 0 else ptr 0 0), (158, .sl false false (mS A)), (159, I A.length), (160, I q), (172, .sl false false (mI x)), (173, I w.length), (174, I r.1.1)], if r.1.1 < w.length then [.cells (mI r.1.2), .cells [own 0 0 w.length w.length 1]] else [.cells [.sl false false (mI r.1.2)]])) (fun r => w.length - r.1.1)
            ⟨(0, List.replicate w.length 0), by omega, by simp, fun j hj => by omega⟩ [some 0, some 1] (by
              dsimp only
              rw [if_pos (by omega), if_pos (by omega)]
              exact Wk.mk0 rfl (by simp [imgs, Blk.alive]) ⟨.inl ⟨rfl, mI_bnd⟩, .inr ⟨⟨by simp, rfl, rfl, rfl, Nat.le_refl _, rfl⟩, trivial⟩, trivial⟩ (by simp [fle, vle, Fr.get, mI_bnd, mS_bnd, hxl])) ?_
          rintro ⟨⟨i2, ys⟩, hi3, hyl, hys⟩
          dsimp only at hi3 hyl hys ⊢
          by_cases hil3 : i2 < w.length
          · rw [if_pos hil3, if_pos hil3]
            have hz4 : decide ((i2 : Int) < w.length) = true := decide_eq_true (by omega)
            have hwk3 : IntKind.i64.wrap ((i2 : Int) + 1) = ((i2 + 1 : Nat) : Int) := by rw [wrap64 (by omega) (by omega)]; rfl
            obtain ⟨c, hc, ec⟩ := hxv i2 hil3
            obtain ⟨di1, di2⟩ := hσd i2 hil3
            obtain ⟨dc1, dc2⟩ := hσd c hc
            have a1 : i2 < x.length := by omega
            have a2 : (i2 : Int) < x.length := by omega
            have a3 : i2 < d.length := by omega
            have a4 : (i2 : Int) < d.length := by omega
            have a5 : σ i2 < ys.length := by omega
            have a6 : ((σ i2 : Nat) : Int) < w.length := by omega
            have a7 : c < d.length := by omega
            have a8 : (c : Int) < d.length := by omega
            have hys2 : ∀ j, j < i2 + 1 → (ys.set (σ i2) ((σ c : Nat) : Int)).getD (σ j) 0 = (σ (x.getD j 0).toNat : Nat) := fun j hj => by
              rw [List.getD_eq_getElem?_getD, List.getElem?_set]
              by_cases hji : j = i2
              · subst hji; rw [if_pos rfl, if_pos a5, ec, Int.toNat_natCast]; rfl
              · rw [if_neg (fun e => hji (hσi _ _ (by omega) hil3 e.symm)), ← List.getD_eq_getElem?_getD]
                exact hys j (by omega)
            simp only [w8L7, hz4, mI_get, mI_hd, a1, a2, a3, a4, a5, a6, a7, a8, ec, di1, dc1, hwk3, mI_put, set_put, go_sem, Nat.reduceEqDiff, Nat.reduceAdd, Nat.reduceLT, Nat.reduceLeDiff, reduceIte, reduceCtorEq]
            repeat (refine ⟨by omega, ?_⟩)
            by_cases hi4 : i2 + 1 < w.length
            · refine round1 rfl ⟨(i2 + 1, ys.set (σ i2) ((σ c : Nat) : Int)), by omega, by simp [hyl], hys2⟩ [some 0, some 1] (by dsimp only; omega) ?_
              dsimp only
              rw [if_pos hi4, if_pos hi4]
              exact Wk.mk0 rfl (by simp [imgs, Blk.alive]) ⟨.inl ⟨rfl, mI_bnd⟩, .inr ⟨⟨by simp, rfl, rfl, rfl, Nat.le_refl _, rfl⟩, trivial⟩, trivial⟩ (by simp [fle, vle, Fr.get, mI_bnd, mS_bnd])
            · refine round1 rfl ⟨(i2 + 1, ys.set (σ i2) ((σ c : Nat) : Int)), by omega, by simp [hyl], hys2⟩ [some 1] (by dsimp only; omega) ?_
              dsimp only
              rw [if_neg hi4, if_neg hi4]
              exact Wk.mk0 rfl (by simp [imgs, Blk.alive]) ⟨.inr ⟨vle_mI rfl (by simp [imgs, Blk.alive]) (by simp [hyl]) (List.take_of_length_le (by rw [mI_length]; simp [hyl])), trivial⟩, trivial⟩ (by simp [fle, vle, Fr.get, mI_bnd, mS_bnd])
          · rw [if_neg hil3, if_neg hil3]
            have hz4 : decide ((i2 : Int) < w.length) = false := decide_eq_false (by omega)
            obtain rfl : i2 = w.length := by omega
            have hyr : ys = renD w.length σ τ x := by
              refine List.ext_getElem (by simp [renD, hyl]) fun j h1 h2 => ?_
              have hj : j < w.length := by omega
              have e1 := hys (τ j) (hb.b j hj).1
              rw [(hb.b j hj).2] at e1
              have e2 := renD_get (σ := σ) (τ := τ) (d := x) hj
              rw [← e1, List.getD_eq_getElem?_getD, List.getD_eq_getElem?_getD, List.getElem?_eq_getElem h1, List.getElem?_eq_getElem h2, Option.getD_some, Option.getD_some] at e2
              exact e2.symm
            have hyA : ys ∈ A' := by rw [hyr]; exact hAm x hxm
            have hidx : decide (Sp.idx (fun y => ys == y) A' ≥ 0) = true := decide_eq_true (Sp.idx_pos ⟨_, hyA, by simp⟩)
            have h35 := s35 false false A' (.fn (.func 36) [] [.rp [.sl false false (mI ys)]]) (fun y => ys == y) (fun y hy => CallV.of_spec (first := []) (s36 y ys (by omega))) (fun H => by simp [vle, vle.vleL, bndL, AVal.bnd, mI_bnd]) (by omega)
            rw [hidx] at h35
            simp only [w8L7, hz4, w8T8, go_sem, Nat.reduceEqDiff, Nat.reduceAdd, Nat.reduceLT, Nat.reduceLeDiff, reduceIte, reduceCtorEq]
            refine CallK.pure (CallV.of_spec (first := []) (cap := []) (Spec.lend h35 rfl (by simp [vle, vle.vleL, bndL, AVal.bnd, mI_bnd, mS_bnd]))) ?_
            simp only [w8T9, hwq, go_sem, Nat.reduceEqDiff, Nat.reduceAdd, Nat.reduceLT, Nat.reduceLeDiff, reduceIte, reduceCtorEq]
            refine round0 rfl ⟨q + 1, by omega⟩ (by dsimp only; omega) rfl ?_
            simp [fle, vle, Fr.get, mI_bnd, mS_bnd]
        · have hz3 : decide ((q : Int) < A.length) = false := decide_eq_false (by omega)
          simp only [w8L6, hz3, w8T10, go_sem, Nat.reduceEqDiff, Nat.reduceAdd, Nat.reduceLT, Nat.reduceLeDiff, reduceIte, reduceCtorEq]
          refine CallK.pure (e19 _) ?_
          simp only [go_sem, Nat.reduceEqDiff, Nat.reduceAdd, Nat.reduceLT, Nat.reduceLeDiff, reduceIte, reduceCtorEq]
          exact leaf (B true) rfl ⟨rfl, rfl⟩
end Go.Proofs.Ytkmmngphcodjjaa
