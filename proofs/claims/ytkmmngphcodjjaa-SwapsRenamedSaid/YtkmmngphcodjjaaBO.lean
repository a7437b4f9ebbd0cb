/- Contracts: all deals, one after the other. -/
import Derived.Test.YtkmmngphcodjjaaBN
import Derived.Test.YtkmmngphcodjjaaAS
import Derived.Test.YtkmmngphcodjjaaPO
namespace Go.Proofs.Ytkmmngphcodjjaa
open Go.Abs AVal
set_option linter.unusedSimpArgs false
attribute [local go_sem] W_skip W_keep KQ_canon canon Fr.norm W_seq W_block W_exit W_ret W_ops W_draw KQ_nil KQ_norm_seq KQ_exit_seq KQ_ret_seq KQ_norm_block KQ_ret_block KQ_exit_block KQ_exit_loop KQ_ret_loop O_nil O_cons S_call S_mv SE_mv SD_mv S_pick SE_pick SD_pick S_bin SE_bin SD_bin S_eqb SE_eqb SD_eqb S_eqv SE_eqv SD_eqv S_eqnil SE_eqnil SD_eqnil S_un SE_un SD_un S_conv SE_conv SD_conv S_mkfn SE_mkfn SD_mkfn S_load SE_load SD_load S_nilck SE_nilck SD_nilck S_slS SE_slS SD_slS S_slP SE_slP SD_slP S_fldA SE_fldA SD_fldA S_fld SE_fld SD_fld S_ixS SE_ixS SD_ixS S_ixP SE_ixP SD_ixP S_ixV SE_ixV SD_ixV S_ixStr SE_ixStr SD_ixStr S_ext SE_ext SD_ext S_len SE_len SD_len S_lenStr SE_lenStr SD_lenStr S_lenc SE_lenc SD_lenc S_mn SE_mn SD_mn S_mx SE_mx SD_mx S_build SE_build SD_build S_alloc SD_alloc S_box SD_box S_bslice SD_bslice S_mksl SD_mksl S_store SD_store S_append SD_append S_copy SD_copy S_clr SD_clr aq_some aa_some al_some aqd_some aad_some ald_some ape_some D_done D_both D_early D_step SE_call SD_call IOpd.ev Fr.get Fr.put Fr.putd entryFr pickA binA binI isSh shI eqbA eqvA ints ints_mI Option.map_some eqnilA unA convA loadA nilckA intA slSA slPA fldAA fldVA ixSA ixPA ixVA ixStrA extA lenA lenStrA mnA mxA AVal.fits fillA fillOk buildA opa srcA appA stoA copA clrA rdFree zeros List.length_nil List.length_cons List.length_map List.map_cons List.map_nil Option.map_some Option.map_none if_true if_false ite_true ite_false true_and and_true and_self implies_true forall_const true_implies Bool.false_eq_true Bool.not_true Bool.not_false decide_eq_true_eq decide_eq_false_iff_not eq_self List.getElem?_cons_zero List.getElem?_cons_succ List.getElem?_nil List.set_cons_zero List.set_cons_succ List.nil_append List.cons_append List.append_nil List.replicate_zero List.replicate_succ Nat.zero_add false_implies rng_lt rng_end rng_get cells_I cells_B cells_sl cut_one Int.toNat_natCast Int.natCast_nonneg List.headD_cons Int.lt_irrefl not_false_eq_true decide_false decide_true mI_length mI_cells mI_sz mI_isCell mI_mid mI_append mI_take mI_drop cells_val cells_own cells_agg isCell_I isCell_B isCell_nil isCell_sl isCell_own isCell_ptr isCell_fn isCell_rp isCell_yld cellsOk_I cellsOk_B cellsOk_nil cellsOk_sl cellsOk_own cellsOk_ptr cellsOk_fn cellsOk_rp cellsOk_yld cellsOk_agg cells_nil cells_ptr cells_fn cells_rp List.all_cons List.all_nil Bool.and_true Nat.mul_one Nat.zero_mul Nat.one_mul List.take_zero List.take_nil List.drop_nil List.drop_zero List.not_mem_nil Nat.le_refl Nat.zero_le mS_length mS_cells mS_sz mS_isCell mS_mid mS_append mS_take mS_drop cells_sI isCell_sI cellsOk_sI sI_eq succ_le_self' List.take_succ_cons List.drop_succ_cons List.take_length beq_self_eq_true List.mem_cons or_false forall_eq mI_put mI_rep O_guard' D_earlyG' D_stepG' W_cond' G_tt G_tf G_ft G_ff GE_tt GE_tf GE_ft GE_ff GS_tt GS_tf GS_ft GS_ff G_u GE_u GS_u IC_t IC_f xft xff xtt xtf z00 z20 z22 z02 zz tn0

/-- The function that grows deals, and the blocks beside it. -/
def growV (b n : Nat) (set : Int) : AVal := .fn (.func 83) [] [.rp [I n], .ptr b 0, .ptr (b + 2) 0, .rp [I set], .ptr (b + 3) 0]
def HS (Hp : AHeap) (b L n : Nat) (set : Int) (D : List Int) : AHeap := Hp ++ [.cells [.yld L], .cells (mI D), .cells [.own (b + 1) 0 n n 1], .cells [growV b n set]]
theorem HS_len (Hp : AHeap) (b L n : Nat) (set : Int) (D : List Int) : (HS Hp b L n set D).length = Hp.length + 4 := by simp [HS]
theorem HS_ok {Hp : AHeap} {b L n : Nat} {set : Int} (D : List Int) (hL : L < b) (h : ∀ x ∈ Hp, blkOk (b + 4) x = true) : ∀ x ∈ HS Hp b L n set D, blkOk (b + 4) x = true := fun x hx => by
  rcases List.mem_append.1 hx with hx | hx
  · exact h x hx
  · simp only [List.mem_cons, List.not_mem_nil, or_false] at hx
    rcases hx with rfl | rfl | rfl | rfl
    · simp [blkOk, vid]; omega
    · simp [blkOk, mI_bnd]
    · simp [blkOk, vid]
    · simp [blkOk, vid, growV, bndL, AVal.bnd]

/-- Deals as they are while they are grown. -/
structure DOk (n : Nat) (set : Int) (D : List Int) : Prop where
  len : D.length = n
  rng : ∀ x ∈ D, 0 ≤ x ∧ x < n
  zero : ∀ j : Nat, j < n → (Sp.bitAt set j == 0) = true → D.getD j 0 = 0

theorem DOk.set {n : Nat} {set : Int} {D : List Int} (h : DOk n set D) {i c : Nat} (hc : c < n) (hb : (Sp.bitAt set i == 0) = false) : DOk n set (D.set i c) := by
  refine ⟨by rw [List.length_set]; exact h.len, fun x hx => ?_, fun j hj hz => ?_⟩
  · rcases List.mem_or_eq_of_mem_set hx with hx | rfl
    · exact h.rng x hx
    · omega
  · rw [List.getD_eq_getElem?_getD, List.getElem?_set]
    split
    · rename_i hij; subst hij; rw [hb] at hz; cases hz
    · have := h.zero j hj hz
      rwa [List.getD_eq_getElem?_getD] at this

def growR (Hp : AHeap) (Hs : List Int → AHeap) (b L n : Nat) (set : Int) (p : List Int → Bool) (i : Nat) (D : List Int) (l : List (List Int)) (v : AVal) (H' : AHeap) : Prop :=
  match l.find? p with
  | none => v = B true ∧ ∃ D', DOk n set D' ∧ D'.take i = D.take i ∧ H' = HS Hp b L n set D'
  | some o => v = B false ∧ H' = HS (Hs o) b L n set o

set_option maxHeartbeats 2000000 in
theorem s83 {Hp : AHeap} {Hs : List Int → AHeap} {b L n : Nat} {set : Int} {p : List Int → Bool} (hb : Hp.length = b) (hL : L < b) (hn : n ≤ 6) (hok : ∀ x ∈ Hp, blkOk (b + 4) x = true) (hs : ∀ D, (Hs D).length = b) (hsok : ∀ D, ∀ x ∈ Hs D, blkOk (b + 4) x = true)
    (Y : ∀ D, DOk n set D → CallV Try.prog (.yld L) [.own (b + 1) 0 n n 1] (HS Hp b L n set D) fun v H' => (p D = false ∧ v = B true ∧ H' = HS Hp b L n set D) ∨ (p D = true ∧ v = B false ∧ H' = HS (Hs D) b L n set D)) :
    ∀ (m i : Nat) (left : Int) (D : List Int), i + m = n → DOk n set D →
      Abs.Spec Try.prog 83 [I i, I left, .rp [I n], .ptr b 0, .ptr (b + 2) 0, .rp [I set], .ptr (b + 3) 0] (HS Hp b L n set D) (growR Hp Hs b L n set p i D (Sp.comps n set m i left (D.take i)))
  | 0, i, left, D, him, hD => by
    subst hb
    have hin : i = n := by omega
    subst hin
    refine Abs.Spec.walk mixed fn83 nn83 t83 q83 nt83 (by simp) ?_
    rw [HS_len]
    simp only [w83, HS, app_get, app_get0, go_sem, Nat.reduceEqDiff, Nat.reduceAdd, Nat.reduceLT, Nat.reduceLeDiff, reduceIte, reduceCtorEq]
    have hpre : D.take i = D := List.take_of_length_le (by have := hD.len; omega)
    refine CallK.by (Y D hD) fun v H' hv => ?_
    rcases hv with ⟨hp, rfl, rfl⟩ | ⟨hp, rfl, rfl⟩
    · simp only [go_sem, Nat.reduceEqDiff, Nat.reduceAdd, Nat.reduceLT, Nat.reduceLeDiff, reduceIte, reduceCtorEq]
      refine leafB' (B true) rfl (HS_len _ _ _ _ _ _) (HS_ok D hL hok) rfl ?_
      simp only [growR, Sp.comps, hpre, List.find?_cons, hp, List.find?_nil]
      exact ⟨trivial, D, hD, hpre, rfl⟩
    · simp only [go_sem, Nat.reduceEqDiff, Nat.reduceAdd, Nat.reduceLT, Nat.reduceLeDiff, reduceIte, reduceCtorEq]
      refine leafB' (B false) rfl (by rw [HS_len, hs]) (HS_ok D hL (hsok D)) rfl ?_
      simp only [growR, Sp.comps, hpre, List.find?_cons, hp]
      exact ⟨trivial, trivial⟩
  | m + 1, i, left, D, him, hD => by
    subst hb
    refine Abs.Spec.walk mixed fn83 nn83 t83 q83 nt83 (by simp) ?_
    rw [HS_len]
    have hin : ((i : Int) == n) = false := by rw [beq_eq_false_iff_ne]; omega
    have hw : IntKind.i64.wrap ((i : Int) + 1) = ((i + 1 : Nat) : Int) := by rw [wrap64 (by omega) (by omega)]; rfl
    have hiD : i < D.length := by have := hD.len; omega
    simp only [w83, HS, app_get, app_get0, hin, go_sem, Nat.reduceEqDiff, Nat.reduceAdd, Nat.reduceLT, Nat.reduceLeDiff, reduceIte, reduceCtorEq]
    refine IC.split (fun h => ?_) fun h => ?_
    · have h : (Sp.bitAt set i == 0) = true := h
      have ht : D.take (i + 1) = D.take i ++ [0] := by
        rw [List.take_add_one, List.getElem?_eq_getElem hiD]
        have := hD.zero i (by omega) h
        rw [List.getD_eq_getElem?_getD, List.getElem?_eq_getElem hiD] at this
        simp at this
        rw [this]; rfl
      have hc : Sp.comps n set (m + 1) i left (D.take i) = Sp.comps n set m (i + 1) left (D.take (i + 1)) := by
        rw [ht]
        conv => lhs; unfold Sp.comps
        rw [if_pos h]
      simp only [app_get, app_get0, hw, go_sem, Nat.reduceEqDiff, Nat.reduceAdd, Nat.reduceLT, Nat.reduceLeDiff, reduceIte, reduceCtorEq]
      refine CallK.by (CallV.of_spec (s83 rfl hL hn hok hs hsok Y m (i + 1) left D (by omega) hD)) fun v H' hv => ?_
      unfold growR at hv
      cases hf : (Sp.comps n set m (i + 1) left (D.take (i + 1))).find? p with
      | none =>
        rw [hf] at hv
        obtain ⟨rfl, D', hD', hpre, rfl⟩ := hv
        simp only [go_sem, Nat.reduceEqDiff, Nat.reduceAdd, Nat.reduceLT, Nat.reduceLeDiff, reduceIte, reduceCtorEq]
        refine leafB' (B true) rfl (HS_len _ _ _ _ _ _) (HS_ok D' hL hok) rfl ?_
        simp only [growR, hc, hf]
        refine ⟨trivial, D', hD', ?_, rfl⟩
        have := congrArg (List.take i) hpre
        rwa [List.take_take, List.take_take, show min i (i + 1) = i by omega] at this
      | some o =>
        rw [hf] at hv
        obtain ⟨rfl, rfl⟩ := hv
        simp only [go_sem, Nat.reduceEqDiff, Nat.reduceAdd, Nat.reduceLT, Nat.reduceLeDiff, reduceIte, reduceCtorEq]
        refine leafB' (B false) rfl (by rw [HS_len, hs]) (HS_ok o hL (hsok o)) rfl ?_
        simp only [growR, hc, hf]
        exact ⟨trivial, trivial⟩
    · have h : (Sp.bitAt set i == 0) = false := h
      obtain ⟨F, hF⟩ : ∃ F : Nat → List (List Int), F = fun (c : Nat) => if (Sp.bitAt left (c : Int) == 1) = true then Sp.comps n set m (i + 1) (Sp.butI left (Sp.shl1 c)) (D.take i ++ [(c : Int)]) else [] := ⟨_, rfl⟩
      have hc : Sp.comps n set (m + 1) i left (D.take i) = (List.range n).flatMap F := by
        conv => lhs; unfold Sp.comps
        rw [h, hF]; rfl
      simp only [app_get, app_get0, go_sem, Nat.reduceEqDiff, Nat.reduceAdd, Nat.reduceLT, Nat.reduceLeDiff, reduceIte, reduceCtorEq]
      refine W_loop (fun q : { q : Nat × List Int // q.1 ≤ n ∧ DOk n set q.2 ∧ q.2.take i = D.take i ∧ ((List.range q.1).flatMap F).find? p = none } =>
        ([(0, I i), (1, I left), (4, ptr (Hp.length + 2) 0), (6, ptr (Hp.length + 3) 0), (27, I n), (28, I q.1.1)], HS Hp Hp.length L n set q.1.2)) (fun q => n - q.1.1)
        ⟨(0, D), by omega, hD, rfl, rfl⟩ (idρ (Hp.length + 4)) (WkB (HS_len Hp Hp.length L n set D) (HS_ok D hL hok) ?_) ?_
      · intro q hq
        simp only [List.mem_cons, List.not_mem_nil, or_false] at hq
        rcases hq with rfl | rfl | rfl | rfl | rfl | rfl <;> exact ⟨rfl, by simp [vid]⟩
      rintro ⟨⟨c, D1⟩, hcn, hD1, hpre1, hnone⟩
      dsimp only at hcn hD1 hpre1 hnone ⊢
      by_cases hcl : c < n
      · have hz : decide ((c : Int) < n) = true := decide_eq_true (by omega)
        have hwc : IntKind.i64.wrap ((c : Int) + 1) = ((c + 1 : Nat) : Int) := by rw [wrap64 (by omega) (by omega)]; rfl
        simp only [w83L0, hz, go_sem, Nat.reduceEqDiff, Nat.reduceAdd, Nat.reduceLT, Nat.reduceLeDiff, reduceIte, reduceCtorEq]
        refine IC.split (fun hb => ?_) fun hb => ?_
        · have hb : (Sp.bitAt left (c : Int) == 1) = true := hb
          have hiD1 : i < D1.length := by have := hD1.len; omega
          have hi' : (i : Int) < n := by omega
          have hD2 := hD1.set hcl h
          have hsame : D1.length = n := hD1.len
          simp only [HS, app_get, app_get0, app_set, app_set0, hi', mI_put, Sp.put_set, hiD1, hw, go_sem, Nat.reduceEqDiff, Nat.reduceAdd, Nat.reduceLT, Nat.reduceLeDiff, reduceIte, reduceCtorEq]
          have hli : (D.take i).length = i := by rw [List.length_take]; omega
          have ht1 : (D1.set i (c : Int)).take (i + 1) = D.take i ++ [(c : Int)] := by
            rw [List.take_add_one, List.take_set_of_le (Nat.le_refl i), hpre1, List.getElem?_set, if_pos rfl, if_pos hiD1]; rfl
          have hFc : F c = Sp.comps n set m (i + 1) (Sp.butI left (Sp.shl1 c)) ((D1.set i (c : Int)).take (i + 1)) := by
            rw [ht1, hF]; simp only [hb, if_true]
          refine ⟨by omega, ?_⟩
          refine CallKD.by (CallV.of_spec (s83 rfl hL hn hok hs hsok Y m (i + 1) (Sp.butI left (Sp.shl1 c)) (D1.set i (c : Int)) (by omega) hD2)) fun v H' hv => ?_
          unfold growR at hv
          rw [← hFc] at hv
          cases hf : (F c).find? p with
          | none =>
            rw [hf] at hv
            obtain ⟨rfl, D', hD', hpre, rfl⟩ := hv
            have hpre' : D'.take i = D.take i := by
              have := congrArg (List.take i) (hpre.trans ht1)
              rwa [List.take_take, show min i (i + 1) = i by omega, List.take_append_of_le_length (by omega), List.take_take, Nat.min_self] at this
            simp only [hwc, go_sem, Nat.reduceEqDiff, Nat.reduceAdd, Nat.reduceLT, Nat.reduceLeDiff, reduceIte, reduceCtorEq]
            refine roundB ⟨(c + 1, D'), by omega, hD', hpre', find_flat_succ hnone hf⟩ (by dsimp only; omega) rfl (HS_len _ _ _ _ _ _) (HS_ok D' hL hok) ?_
            intro q hq
            simp only [List.mem_cons, List.not_mem_nil, or_false] at hq
            rcases hq with rfl | rfl | rfl | rfl | rfl | rfl <;> exact ⟨rfl, by simp [vid]⟩
          | some o =>
            rw [hf] at hv
            obtain ⟨rfl, rfl⟩ := hv
            simp only [go_sem, Nat.reduceEqDiff, Nat.reduceAdd, Nat.reduceLT, Nat.reduceLeDiff, reduceIte, reduceCtorEq]
            refine leafB' (B false) rfl (by rw [HS_len, hs]) (HS_ok o hL (hsok o)) rfl ?_
            simp only [growR, hc, find_flat hcl hnone hf]
            exact ⟨trivial, trivial⟩
        · have hb : (Sp.bitAt left (c : Int) == 1) = false := hb
          have hFc : F c = [] := by rw [hF]; simp only [hb]; rfl
          simp only [hwc, go_sem, Nat.reduceEqDiff, Nat.reduceAdd, Nat.reduceLT, Nat.reduceLeDiff, reduceIte, reduceCtorEq]
          refine roundB ⟨(c + 1, D1), by omega, hD1, hpre1, find_flat_succ hnone (by rw [hFc]; rfl)⟩ (by dsimp only; omega) rfl (HS_len _ _ _ _ _ _) (HS_ok D1 hL hok) ?_
          intro q hq
          simp only [List.mem_cons, List.not_mem_nil, or_false] at hq
          rcases hq with rfl | rfl | rfl | rfl | rfl | rfl <;> exact ⟨rfl, by simp [vid]⟩
      · have hz : decide ((c : Int) < n) = false := decide_eq_false (by omega)
        obtain rfl : c = n := by omega
        simp only [w83L0, hz, w83T1, go_sem, Nat.reduceEqDiff, Nat.reduceAdd, Nat.reduceLT, Nat.reduceLeDiff, reduceIte, reduceCtorEq]
        refine leafB' (B true) rfl (HS_len _ _ _ _ _ _) (HS_ok D1 hL hok) rfl ?_
        simp only [growR, hc, hnone]
        exact ⟨trivial, D1, hD1, hpre1, rfl⟩
end Go.Proofs.Ytkmmngphcodjjaa
