/- Contracts: all deals, one after the other, for any client. -/
import Derived.Test.YtkmmngphcodjjaaBX
import Derived.Test.YtkmmngphcodjjaaAN
namespace Go.Proofs.Ytkmmngphcodjjaa
open Go.Abs AVal
set_option linter.unusedSimpArgs false
attribute [local go_sem] W_skip W_keep KQ_canon canon Fr.norm W_seq W_block W_exit W_ret W_ops W_draw KQ_nil KQ_norm_seq KQ_exit_seq KQ_ret_seq KQ_norm_block KQ_ret_block KQ_exit_block KQ_exit_loop KQ_ret_loop O_nil O_cons S_call S_mv SE_mv SD_mv S_pick SE_pick SD_pick S_bin SE_bin SD_bin S_eqb SE_eqb SD_eqb S_eqv SE_eqv SD_eqv S_eqnil SE_eqnil SD_eqnil S_un SE_un SD_un S_conv SE_conv SD_conv S_mkfn SE_mkfn SD_mkfn S_load SE_load SD_load S_nilck SE_nilck SD_nilck S_slS SE_slS SD_slS S_slP SE_slP SD_slP S_fldA SE_fldA SD_fldA S_fld SE_fld SD_fld S_ixS SE_ixS SD_ixS S_ixP SE_ixP SD_ixP S_ixV SE_ixV SD_ixV S_ixStr SE_ixStr SD_ixStr S_ext SE_ext SD_ext S_len SE_len SD_len S_lenStr SE_lenStr SD_lenStr S_lenc SE_lenc SD_lenc S_mn SE_mn SD_mn S_mx SE_mx SD_mx S_build SE_build SD_build S_alloc SD_alloc S_box SD_box S_bslice SD_bslice S_mksl SD_mksl S_store SD_store S_append SD_append S_copy SD_copy S_clr SD_clr aq_some aa_some al_some aqd_some aad_some ald_some ape_some D_done D_both D_early D_step SE_call SD_call IOpd.ev Fr.get Fr.put Fr.putd entryFr pickA binA binI isSh shI eqbA eqvA ints ints_mI Option.map_some eqnilA unA convA loadA nilckA intA slSA slPA fldAA fldVA ixSA ixPA ixVA ixStrA extA lenA lenStrA mnA mxA AVal.fits fillA fillOk buildA opa srcA appA stoA copA clrA rdFree zeros List.length_nil List.length_cons List.length_map List.map_cons List.map_nil Option.map_some Option.map_none if_true if_false ite_true ite_false true_and and_true and_self implies_true forall_const true_implies Bool.false_eq_true Bool.not_true Bool.not_false decide_eq_true_eq decide_eq_false_iff_not eq_self List.getElem?_cons_zero List.getElem?_cons_succ List.getElem?_nil List.set_cons_zero List.set_cons_succ List.nil_append List.cons_append List.append_nil List.replicate_zero List.replicate_succ Nat.zero_add false_implies rng_lt rng_end rng_get cells_I cells_B cells_sl cut_one Int.toNat_natCast Int.natCast_nonneg List.headD_cons Int.lt_irrefl not_false_eq_true decide_false decide_true mI_length mI_cells mI_sz mI_isCell mI_mid mI_append mI_take mI_drop cells_val cells_own cells_agg isCell_I isCell_B isCell_nil isCell_sl isCell_own isCell_ptr isCell_fn isCell_rp isCell_yld cellsOk_I cellsOk_B cellsOk_nil cellsOk_sl cellsOk_own cellsOk_ptr cellsOk_fn cellsOk_rp cellsOk_yld cellsOk_agg cells_nil cells_ptr cells_fn cells_rp List.all_cons List.all_nil Bool.and_true Nat.mul_one Nat.zero_mul Nat.one_mul List.take_zero List.take_nil List.drop_nil List.drop_zero List.not_mem_nil Nat.le_refl Nat.zero_le mS_length mS_cells mS_sz mS_isCell mS_mid mS_append mS_take mS_drop cells_sI isCell_sI cellsOk_sI sI_eq succ_le_self' List.take_succ_cons List.drop_succ_cons List.take_length beq_self_eq_true List.mem_cons or_false forall_eq mI_put mI_rep O_guard' D_earlyG' D_stepG' W_cond' G_tt G_tf G_ft G_ff GE_tt GE_tf GE_ft GE_ff GS_tt GS_tf GS_ft GS_ff G_u GE_u GS_u IC_t IC_f xft xff xtt xtf z00 z20 z22 z02 zz tn0

def growC (y q g n : Nat) (set : Int) : AVal := .fn (.func 83) [] [.rp [I n], .ptr y 0, .ptr q 0, .rp [I set], .ptr g 0]
theorem range_split {n x : Nat} (h : x < n) : ∃ r, List.range n = List.range (x + 1) ++ r := ⟨(List.range n).drop (x + 1), by
  have : (List.range n).take (x + 1) = List.range (x + 1) := by rw [List.take_range]; congr 1; omega
  rw [← this, List.take_append_drop]⟩
theorem Cl.To.write {c : Cl} {b0 : Nat} {γ : c.Γ} {H H' : AHeap} (h : c.ok γ H) (hl : H.length ≤ H'.length) (hk : ∀ j, c.mine γ j → H'[j]? = H[j]?) (hb : ∀ j, j < b0 → H'[j]? = H[j]?) (hok : ∀ LP, HOk LP H → HOk LP H') : c.To b0 γ H γ H' :=
  ⟨c.frame γ H H' h hk, hok, hl, fun j hj _ => hb j hj, fun j hj => .inl hj⟩

section
variable {c : Cl} {b0 L n y q g k : Nat} {set : Int}
/-- The deal that is being made. -/
structure DSt (c : Cl) (b0 L n y q g k : Nat) (set : Int) (D : List Int) (γ : c.Γ) (H : AHeap) : Prop where
  ok : c.ok γ H
  hy : H[y]? = some (.cells [.yld L])
  hq : H[q]? = some (.cells [.own k 0 n n 1])
  hg : H[g]? = some (.cells [growC y q g n set])
  hk : H[k]? = some (.cells (mI D))
  my : ¬ c.mine γ y
  mq : ¬ c.mine γ q
  mg : ¬ c.mine γ g
  mkk : ¬ c.mine γ k
theorem DSt.keep {D : List Int} {γ γ1 : c.Γ} {H H1 : AHeap} (h : DSt c b0 L n y q g k set D γ H) (ht : c.To H.length γ H γ1 H1) : DSt c b0 L n y q g k set D γ1 H1 := by
  have lt : ∀ {j b}, H[j]? = some b → j < H.length := fun hj => (List.getElem?_eq_some_iff.1 hj).1
  have nm : ∀ {j}, j < H.length → ¬ c.mine γ j → ¬ c.mine γ1 j := fun hj hm hm' => (ht.own _ hm').elim hm fun h => by omega
  refine ⟨ht.ok, ?_, ?_, ?_, ?_, nm (lt h.hy) h.my, nm (lt h.hq) h.mq, nm (lt h.hg) h.mg, nm (lt h.hk) h.mkk⟩
  · rw [ht.kept _ (lt h.hy) h.my]; exact h.hy
  · rw [ht.kept _ (lt h.hq) h.mq]; exact h.hq
  · rw [ht.kept _ (lt h.hg) h.mg]; exact h.hg
  · rw [ht.kept _ (lt h.hk) h.mkk]; exact h.hk
/-- A card is given. -/
theorem DSt.give {D : List Int} {γ : c.Γ} {H : AHeap} (h : DSt c b0 L n y q g k set D γ H) (hbk : b0 ≤ k) (kd : k ≠ y ∧ k ≠ q ∧ k ≠ g) (D' : List Int) : DSt c b0 L n y q g k set D' γ (H.set k (.cells (mI D'))) ∧ c.To b0 γ H γ (H.set k (.cells (mI D'))) := by
  have hkl := (List.getElem?_eq_some_iff.1 h.hk).1
  have kp : ∀ j, j ≠ k → (H.set k (.cells (mI D')))[j]? = H[j]? := fun j hj => List.getElem?_set_ne (Ne.symm hj)
  have hto : c.To b0 γ H γ (H.set k (.cells (mI D'))) := Cl.To.write h.ok (by simp) (fun j hj => kp j fun e => h.mkk (e ▸ hj)) (fun j hj => kp j (by omega)) fun LP h0 => h0.set (by simp [blkN, mI_bnd])
  exact ⟨⟨hto.ok, by rw [kp y kd.1.symm]; exact h.hy, by rw [kp q kd.2.1.symm]; exact h.hq, by rw [kp g kd.2.2.symm]; exact h.hg, by rw [List.getElem?_set_self hkl], h.my, h.mq, h.mg, h.mkk⟩, hto⟩

set_option maxHeartbeats 2000000 in
theorem s83c (hn : n ≤ 6) (hbk : b0 ≤ k) (hby : b0 ≤ y) (kd : k ≠ y ∧ k ≠ q ∧ k ≠ g) {dom : c.σ → List Int → Prop} (Y : YOk Try.prog c L n dom) :
    ∀ (m i : Nat) (left : Int) (D : List Int) (γ : c.Γ) (H : AHeap), i + m = n → DOk n set D → AheadOk c.go c.upd dom (c.val γ) (Sp.comps n set m i left (D.take i)) → c.live γ → HOk (LPb H.length) H → DSt c b0 L n y q g k set D γ H →
      Abs.Spec Try.prog 83 [I i, I left, .rp [I n], .ptr y 0, .ptr q 0, .rp [I set], .ptr g 0] H fun v H' => v = B (run c.go c.upd (c.val γ) (Sp.comps n set m i left (D.take i))).2 ∧ ∃ γ' D', c.val γ' = (run c.go c.upd (c.val γ) (Sp.comps n set m i left (D.take i))).1 ∧
        ((run c.go c.upd (c.val γ) (Sp.comps n set m i left (D.take i))).2 = true → c.live γ') ∧ DOk n set D' ∧ D'.take i = D.take i ∧ DSt c b0 L n y q g k set D' γ' H' ∧ c.To b0 γ H γ' H'
  | 0, i, left, D, γ, H, him, hD, hdom, hlive, hok, hg => by
    have hin : i = n := by omega
    subst hin
    refine Abs.Spec.walk mixed fn83 nn83 t83 q83 nt83 (by simp) ?_
    have hpre : D.take i = D := List.take_of_length_le (by have := hD.len; omega)
    rw [Sp.comps, hpre] at hdom ⊢
    simp only [w83, hg.hy, hg.hq, go_sem, Nat.reduceEqDiff, Nat.reduceAdd, Nat.reduceLT, Nat.reduceLeDiff, reduceIte, reduceCtorEq]
    refine CallK.by (Y γ H k i (mI D) D hg.ok hlive hok hg.mkk hg.hk (List.take_of_length_le (by rw [mI_length, hD.len]; exact Nat.le_refl _)) hD.len (Nat.le_refl _) (hdom [] D [] rfl rfl)) fun v H' ⟨hv, γ', hval, hlv, hto⟩ => ?_
    subst hv
    simp only [go_sem, Nat.reduceEqDiff, Nat.reduceAdd, Nat.reduceLT, Nat.reduceLeDiff, reduceIte, reduceCtorEq]
    have hto' : c.To b0 γ H γ' H' := hto.le (by have := (List.getElem?_eq_some_iff.1 hg.hy).1; omega)
    refine leafN (LP := LPb H.length) (B _) rfl (hto.hok _ hok) (fun _ _ h => h) hto.len rfl ⟨?_, γ', D, ?_, ?_, hD, hpre, hg.keep hto, hto'⟩
    · rw [run]; cases c.go (c.val γ) D <;> rfl
    · rw [run]; cases c.go (c.val γ) D <;> exact hval
    · rw [run]; intro h; cases hgo : c.go (c.val γ) D with
      | true => exact hlv hgo
      | false => rw [hgo] at h; cases h
  | m + 1, i, left, D, γ, H, him, hD, hdom, hlive, hok, hg => by
    have lt : ∀ {H : AHeap} {j b}, H[j]? = some b → j < H.length := fun hj => (List.getElem?_eq_some_iff.1 hj).1
    have hyl := lt hg.hy
    have hql := lt hg.hq
    have hgl := lt hg.hg
    have hkl := lt hg.hk
    refine Abs.Spec.walk mixed fn83 nn83 t83 q83 nt83 (by simp) ?_
    have hin : ((i : Int) == n) = false := by rw [beq_eq_false_iff_ne]; omega
    have hw : IntKind.i64.wrap ((i : Int) + 1) = ((i + 1 : Nat) : Int) := by rw [wrap64 (by omega) (by omega)]; rfl
    have hiD : i < D.length := by have := hD.len; omega
    simp only [w83, hin, go_sem, Nat.reduceEqDiff, Nat.reduceAdd, Nat.reduceLT, Nat.reduceLeDiff, reduceIte, reduceCtorEq]
    refine IC.split (fun h => ?_) fun h => ?_
    · have h : (Sp.bitAt set i == 0) = true := h
      have ht : D.take (i + 1) = D.take i ++ [0] := by
        rw [List.take_add_one, List.getElem?_eq_getElem hiD]
        have := hD.zero i (by omega) h
        rw [List.getD_eq_getElem?_getD, List.getElem?_eq_getElem hiD] at this
        simp at this
        rw [this]; rfl
      have hc : Sp.comps n set (m + 1) i left (D.take i) = Sp.comps n set m (i + 1) left (D.take (i + 1)) := by
        rw [ht]
        conv => lhs; unfold Sp.comps
        rw [if_pos h]
      rw [hc] at hdom ⊢
      simp only [hg.hg, growC, hw, go_sem, Nat.reduceEqDiff, Nat.reduceAdd, Nat.reduceLT, Nat.reduceLeDiff, reduceIte, reduceCtorEq]
      refine CallK.by (CallV.of_spec (s83c hn hbk hby kd Y m (i + 1) left D γ H (by omega) hD hdom hlive hok hg)) fun v H' ⟨hv, γ', D', hval, hlv, hD', hpre, hg', hto⟩ => ?_
      subst hv
      simp only [go_sem, Nat.reduceEqDiff, Nat.reduceAdd, Nat.reduceLT, Nat.reduceLeDiff, reduceIte, reduceCtorEq]
      refine leafN (LP := LPb H.length) (B _) rfl (hto.hok _ hok) (fun _ _ h => h) hto.len rfl ⟨rfl, γ', D', hval, hlv, hD', ?_, hg', hto⟩
      have := congrArg (List.take i) hpre
      rwa [List.take_take, List.take_take, show min i (i + 1) = i by omega] at this
    · have h : (Sp.bitAt set i == 0) = false := h
      obtain ⟨F, hF⟩ : ∃ F : Nat → List (List Int), F = fun (c : Nat) => if (Sp.bitAt left (c : Int) == 1) = true then Sp.comps n set m (i + 1) (Sp.butI left (Sp.shl1 c)) (D.take i ++ [(c : Int)]) else [] := ⟨_, rfl⟩
      have hE : Sp.comps n set (m + 1) i left (D.take i) = (List.range n).flatMap F := by
        conv => lhs; unfold Sp.comps
        rw [h, hF]; rfl
      rw [hE] at hdom ⊢
      simp only [go_sem, Nat.reduceEqDiff, Nat.reduceAdd, Nat.reduceLT, Nat.reduceLeDiff, reduceIte, reduceCtorEq]
      refine W_loop (fun q' : { q' : Nat × c.Γ × AHeap × List Int // q'.1 ≤ n ∧ DSt c b0 L n y q g k set q'.2.2.2 q'.2.1 q'.2.2.1 ∧ c.To b0 γ H q'.2.1 q'.2.2.1 ∧ run c.go c.upd (c.val γ) ((List.range q'.1).flatMap F) = (c.val q'.2.1, true) ∧ c.live q'.2.1 ∧ DOk n set q'.2.2.2 ∧ q'.2.2.2.take i = D.take i } =>
        ([(0, I i), (1, I left), (4, ptr q 0), (6, ptr g 0), (27, I n), (28, I q'.1.1)], q'.1.2.2.1)) (fun q' => n - q'.1.1)
        ⟨(0, γ, H, D), by omega, hg, .refl hg.ok, rfl, hlive, hD, rfl⟩ (idρ H.length) (Wk.ok hok (fun _ _ h => h) (Nat.le_refl _) (by
          intro q hq
          simp only [List.mem_cons, List.not_mem_nil, or_false] at hq
          rcases hq with rfl | rfl | rfl | rfl | rfl | rfl <;> exact ⟨rfl, by simp [vid, hql, hgl]⟩) (fun _ h => by cases h)) ?_
      rintro ⟨⟨x, γ1, H1, D1⟩, hxn, hg1, hto1, hrun, hlive1, hD1, hpre1⟩
      dsimp only at hxn hg1 hto1 hrun hlive1 hD1 hpre1 ⊢
      have hok1 := hto1.hok _ hok
      have hql1 := lt hg1.hq
      have hgl1 := lt hg1.hg
      have hkl1 := lt hg1.hk
      by_cases hxl : x < n
      · have hzx : decide ((x : Int) < n) = true := decide_eq_true (by omega)
        have hwx : IntKind.i64.wrap ((x : Int) + 1) = ((x + 1 : Nat) : Int) := by rw [wrap64 (by omega) (by omega)]; rfl
        simp only [w83L0, hzx, go_sem, Nat.reduceEqDiff, Nat.reduceAdd, Nat.reduceLT, Nat.reduceLeDiff, reduceIte, reduceCtorEq]
        refine IC.split (fun hb => ?_) fun hb => ?_
        · have hb : (Sp.bitAt left (x : Int) == 1) = true := hb
          have hiD1 : i < D1.length := by have := hD1.len; omega
          have hi' : (i : Int) < n := by omega
          have hD2 := hD1.set hxl h
          obtain ⟨hg2, hto2⟩ := hg1.give hbk kd (D1.set i (x : Int))
          have hli : (D.take i).length = i := by rw [List.length_take]; omega
          have ht1 : (D1.set i (x : Int)).take (i + 1) = D.take i ++ [(x : Int)] := by
            rw [List.take_add_one, List.take_set_of_le (Nat.le_refl i), hpre1, List.getElem?_set, if_pos rfl, if_pos hiD1]; rfl
          have hFx : F x = Sp.comps n set m (i + 1) (Sp.butI left (Sp.shl1 x)) ((D1.set i (x : Int)).take (i + 1)) := by
            rw [ht1, hF]; simp only [hb, if_true]
          simp only [hg1.hq, hg1.hk, hi', mI_put, Sp.put_set, hiD1, go_sem, Nat.reduceEqDiff, Nat.reduceAdd, Nat.reduceLT, Nat.reduceLeDiff, reduceIte, reduceCtorEq]
          refine ⟨by omega, ?_⟩
          simp only [hg2.hg, growC, hw, go_sem, Nat.reduceEqDiff, Nat.reduceAdd, Nat.reduceLT, Nat.reduceLeDiff, reduceIte, reduceCtorEq]
          generalize H1.set k (.cells (mI (D1.set i (x : Int)))) = H3 at hg2 hto2 ⊢
          have hl3 := hto2.len
          have hl1 := hto1.len
          have hok3 : HOk (LPb H3.length) H3 := (hto2.hok _ hok1).mono fun _ _ h => h.mono (by omega)
          refine CallKD.by (CallV.of_spec (s83c hn hbk hby kd Y m (i + 1) (Sp.butI left (Sp.shl1 x)) (D1.set i (x : Int)) γ1 H3 (by omega) hD2 (by
            obtain ⟨r, hr⟩ := range_split hxl
            rw [hr, List.range_succ, List.flatMap_append, List.flatMap_append, List.append_assoc] at hdom
            have := hdom.part hrun
            rwa [show [x].flatMap F = F x by simp, hFx] at this) hlive1 hok3 hg2)) fun v H4 ⟨hv, γ4, D4, hval4, hlv4, hD4, hpre4, hg4, hto4⟩ => ?_
          subst hv
          rw [← hFx] at hval4 hlv4 ⊢
          have hto6 := (hto1.trans hto2).trans hto4
          have hok5 := hto6.hok _ hok
          have hpre' : D4.take i = D.take i := by
            have := congrArg (List.take i) (hpre4.trans ht1)
            rwa [List.take_take, show min i (i + 1) = i by omega, List.take_append_of_le_length (by omega), List.take_take, Nat.min_self] at this
          have hstep : run c.go c.upd (c.val γ) ((List.range (x + 1)).flatMap F) = (c.val γ4, (run c.go c.upd (c.val γ1) (F x)).2) := by
            rw [List.range_succ, List.flatMap_append, run_append, hrun]
            simp only [if_true, List.flatMap_cons, List.flatMap_nil, List.append_nil]
            rw [hval4]
          have hql4 := lt hg4.hq
          have hgl4 := lt hg4.hg
          simp only [go_sem, Nat.reduceEqDiff, Nat.reduceAdd, Nat.reduceLT, Nat.reduceLeDiff, reduceIte, reduceCtorEq]
          refine IC.split (fun hc => ?_) fun hc => ?_
          · have hc : (run c.go c.upd (c.val γ1) (F x)).2 = false := by simpa using hc
            rw [hc] at hstep
            have hall : run c.go c.upd (c.val γ) ((List.range n).flatMap F) = (c.val γ4, false) := by
              obtain ⟨r, hr⟩ := range_split hxl
              rw [hr, List.flatMap_append, run_append, hstep]; rfl
            simp only [go_sem, Nat.reduceEqDiff, Nat.reduceAdd, Nat.reduceLT, Nat.reduceLeDiff, reduceIte, reduceCtorEq]
            exact leafN (LP := LPb H.length) (B false) rfl hok5 (fun _ _ h => h) hto6.len rfl ⟨by rw [hall], γ4, D4, by rw [hall], (by rw [hall]; intro h; cases h), hD4, hpre', hg4, hto6⟩
          · have hc : (run c.go c.upd (c.val γ1) (F x)).2 = true := by simpa using hc
            rw [hc] at hstep
            simp only [hwx, go_sem, Nat.reduceEqDiff, Nat.reduceAdd, Nat.reduceLT, Nat.reduceLeDiff, reduceIte, reduceCtorEq]
            refine roundN (LP := LPb H.length) hok5 (fun _ _ h => h) hto6.len ⟨(x + 1, γ4, H4, D4), by omega, hg4, hto6, hstep, hlv4 hc, hD4, hpre'⟩ (by dsimp only; omega) rfl ?_
            intro q hq
            simp only [List.mem_cons, List.not_mem_nil, or_false] at hq
            rcases hq with rfl | rfl | rfl | rfl | rfl | rfl <;> exact ⟨rfl, by simp [vid, hql4, hgl4]⟩
        · have hb : (Sp.bitAt left (x : Int) == 1) = false := hb
          have hFx : F x = [] := by rw [hF]; simp only [hb]; rfl
          simp only [hwx, go_sem, Nat.reduceEqDiff, Nat.reduceAdd, Nat.reduceLT, Nat.reduceLeDiff, reduceIte, reduceCtorEq]
          refine roundN (LP := LPb H.length) hok1 (fun _ _ h => h) hto1.len ⟨(x + 1, γ1, H1, D1), by omega, hg1, hto1, (by rw [List.range_succ, List.flatMap_append, run_append, hrun]; simp [hFx, run]), hlive1, hD1, hpre1⟩ (by dsimp only; omega) rfl ?_
          intro q hq
          simp only [List.mem_cons, List.not_mem_nil, or_false] at hq
          rcases hq with rfl | rfl | rfl | rfl | rfl | rfl <;> exact ⟨rfl, by simp [vid, hql1, hgl1]⟩
      · have hz' : decide ((x : Int) < n) = false := decide_eq_false (by omega)
        obtain rfl : x = n := by omega
        simp only [w83L0, hz', w83T1, go_sem, Nat.reduceEqDiff, Nat.reduceAdd, Nat.reduceLT, Nat.reduceLeDiff, reduceIte, reduceCtorEq]
        refine leafN (LP := LPb H.length) (B true) rfl hok1 (fun _ _ h => h) hto1.len rfl ⟨by rw [hrun], γ1, D1, by rw [hrun], fun _ => hlive1, hD1, hpre1, hg1, hto1⟩
end
end Go.Proofs.Ytkmmngphcodjjaa
