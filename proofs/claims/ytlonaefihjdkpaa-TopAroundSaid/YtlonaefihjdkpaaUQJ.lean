/- Contracts: Circles,and who is in a circle; Contracts: Swaps; Nets: what is accepted is small; a wish more; the reference's nets. -/
import Derived.Test.YtlonaefihjdkpaaUQI
import Derived.Test.YtlonaefihjdkpaaUBV
import Derived.Test.YtlonaefihjdkpaaQK
namespace Go.Proofs.Ytlonaefihjdkpaa
open Go.Abs AVal
set_option linter.unusedSimpArgs false
attribute [local go_sem] W_skip W_keep KQ_canon canon Fr.norm W_seq W_block W_scope W_exit W_ret W_ops W_draw KQ_nil KQ_norm_seq KQ_exit_seq KQ_ret_seq KQ_norm_block KQ_ret_block KQ_exit_block KQ_exit_loop KQ_ret_loop O_nil O_cons S_call S_mv SE_mv SD_mv S_pick SE_pick SD_pick S_bin SE_bin SD_bin S_eqb SE_eqb SD_eqb S_eqv SE_eqv SD_eqv S_eqnil SE_eqnil SD_eqnil S_un SE_un SD_un S_conv SE_conv SD_conv S_mkfn SE_mkfn SD_mkfn S_load SE_load SD_load S_nilck SE_nilck SD_nilck S_slS SE_slS SD_slS S_slP SE_slP SD_slP S_fldA SE_fldA SD_fldA S_fld SE_fld SD_fld S_ixS SE_ixS SD_ixS S_ixP SE_ixP SD_ixP S_ixV SE_ixV SD_ixV S_ixStr SE_ixStr SD_ixStr S_ext SE_ext SD_ext S_len SE_len SD_len S_lenStr SE_lenStr SD_lenStr S_lenc SE_lenc SD_lenc S_mn SE_mn SD_mn S_mx SE_mx SD_mx S_build SE_build SD_build S_alloc SD_alloc S_box SD_box S_bslice SD_bslice S_mksl SD_mksl S_store SD_store S_append SD_append S_copy SD_copy S_clr SD_clr S_mlen SE_mlen SD_mlen S_mget SE_mget SD_mget S_mval SE_mval SD_mval S_mentry SE_mentry SD_mentry S_mkmap SD_mkmap S_mset SD_mset S_mrange SD_mrange S_mnext mlenA mgetA mvalA mentryA msetA mrangeA cells_mp isCell_mp cellsOk_mp aq_some aa_some al_some alA_some aqd_some aad_some ald_some ape_some D_done D_both D_early D_step SE_call SD_call IOpd.ev Fr.get Fr.put Fr.putd entryFr pickA binA binI isSh shI eqbA eqvA ints ints_mI Option.map_some eqnilA unA convA loadA nilckA intA slSA slPA fldAA fldVA ixSA ixPA ixVA ixStrA extA lenA lenStrA mnA mxA AVal.fits fillA fillOk buildA opa srcA appA stoA copA clrA rdFree zeros List.length_nil List.length_cons List.length_map List.map_cons List.map_nil Option.map_some Option.map_none if_true if_false ite_true ite_false true_and and_true and_self implies_true forall_const true_implies Bool.false_eq_true Bool.not_true Bool.not_false decide_eq_true_eq decide_eq_false_iff_not eq_self List.getElem?_cons_zero List.getElem?_cons_succ List.getElem?_nil List.set_cons_zero List.set_cons_succ List.nil_append List.cons_append List.append_nil List.replicate_zero List.replicate_succ Nat.zero_add false_implies rng_lt rng_end rng_get cells_I cells_B cells_sl cut_one Int.toNat_natCast Int.natCast_nonneg List.headD_cons Int.lt_irrefl not_false_eq_true decide_false decide_true mI_length mI_cells mI_sz mI_isCell mI_mid mI_append mI_take mI_drop cells_val cells_own cells_agg isCell_I isCell_B isCell_nil isCell_sl isCell_own isCell_ptr isCell_fn isCell_rp isCell_yld cellsOk_I cellsOk_B cellsOk_nil cellsOk_sl cellsOk_own cellsOk_ptr cellsOk_fn cellsOk_rp cellsOk_yld cellsOk_agg cells_nil cells_ptr cells_fn cells_rp List.all_cons List.all_nil Bool.and_true Nat.mul_one Nat.zero_mul Nat.one_mul List.take_zero List.take_nil List.drop_nil List.drop_zero List.not_mem_nil Nat.le_refl Nat.zero_le mS_length mS_cells mS_sz mS_isCell mS_mid mS_append mS_take mS_drop cells_sI isCell_sI cellsOk_sI sI_eq succ_le_self' List.take_succ_cons List.drop_succ_cons List.take_length beq_self_eq_true List.mem_cons or_false forall_eq mI_put mI_rep O_guard' D_earlyG' D_stepG' W_cond' G_tt G_tf G_ft G_ff GE_tt GE_tf GE_ft GE_ff GS_tt GS_tf GS_ft GS_ff G_u GE_u GS_u IC_t IC_f xft xff xtt xtf z00 z20 z22 z02 zz tn0
theorem netV_len {g : List Int} (h : netV g = true) : 1 ≤ g.length ∧ g.length ≤ 6 := by
  unfold netV at h; simp at h; exact ⟨h.1,h.2.1⟩
theorem s12 (g : List Int) (hl : g.length < 9223372036854775808) : Abs.Spec Try.prog 12 [.sl false false (mI g)] [] fun v H' => H' = [] ∧ v = if netV g then .tup [.sl false false (mS (circs g)),I 0] else .tup [.sl false false (mS []),I 2] := by
  refine Abs.Spec.walk mixed fn12 nn12 t12 q12 nt12 (by simp) ?_
  simp only [w12,go_sem,Nat.reduceEqDiff,Nat.reduceAdd,Nat.reduceLT,Nat.reduceLeDiff,reduceIte,reduceCtorEq]
  refine CallK.by (CallV.of_spec (s25 false false g hl)) fun v H' ⟨h1,h2⟩ => ?_
  subst h1 h2
  cases hv : netV g with
  | false =>
    simp only [go_sem,Nat.reduceEqDiff,Nat.reduceAdd,Nat.reduceLT,Nat.reduceLeDiff,reduceIte,reduceCtorEq]
    exact leaf2 (.tup [.sl false false (mS []),I 2]) ⟨⟨mS_bnd,rfl,rfl⟩,rfl,trivial⟩ ⟨rfl,rfl⟩
  | true =>
    have h6 := (netV_len hv).2
    simp only [go_sem,Nat.reduceEqDiff,Nat.reduceAdd,Nat.reduceLT,Nat.reduceLeDiff,reduceIte,reduceCtorEq]
    refine CallK.by (CallV.of_spec (s26 g h6)) fun v H' ⟨h1,h2⟩ => ?_
    subst h1 h2
    simp only [go_sem,Nat.reduceEqDiff,Nat.reduceAdd,Nat.reduceLT,Nat.reduceLeDiff,reduceIte,reduceCtorEq]
    exact leaf2 (.tup [.sl false false (mS (circs g)),I 0]) ⟨⟨mS_bnd,fun h => (by cases h),fun h => (by cases h),rfl⟩,rfl,trivial⟩ ⟨rfl,rfl⟩
theorem s30 (nn t : Bool) (c : List Int) (hl : c.length < 9223372036854775808) (h0 : ∀ x ∈ c,0 ≤ x) : Abs.Spec Try.prog 30 [.sl nn t (mI c)] [] fun v H' => H' = [] ∧ v = I (setL c) := by
  refine Abs.Spec.walk mixed fn30 nn30 t30 q30 nt30 (by simp) ?_
  simp only [w30,go_sem,Nat.reduceEqDiff,Nat.reduceAdd,Nat.reduceLT,Nat.reduceLeDiff,reduceIte,reduceCtorEq]
  refine W_loop (fun q : { q : Nat × Int // q.1 ≤ c.length ∧ setG q.2 (c.drop q.1) = setL c } => ([(3,I q.1.2),(6,.sl nn t (mI c)),(7,I c.length),(8,I q.1.1)],[])) (fun q => c.length - q.1.1) ⟨(0,0),by simp,rfl⟩ [] (Wk.nil (by simp [fle,vle,Fr.get,mI_bnd])) ?_
  rintro ⟨⟨i,m⟩,hi,hm⟩
  dsimp only at hi hm ⊢
  by_cases hil : i < c.length
  · have hz : (i : Int) < c.length := by omega
    have hwk : IntKind.i64.wrap ((i : Int) + 1) = ((i + 1 : Nat) : Int) := by rw [wrap64 (by omega) (by omega)]; rfl
    obtain ⟨x,hx⟩ : ∃ x,c.getD i 0 = x := ⟨_,rfl⟩
    have hx' : c[i] = x := by rw [← hx,List.getD_eq_getElem?_getD,List.getElem?_eq_getElem hil]; rfl
    have hx0 : 0 ≤ x := by rw [← hx']; exact h0 _ (List.getElem_mem _)
    rw [List.drop_eq_getElem_cons hil,hx'] at hm
    simp only [w30L0,hz,decide_true,mI_get,hil,hx,mI_hd,hwk,go_sem,Nat.reduceEqDiff,Nat.reduceAdd,Nat.reduceLT,Nat.reduceLeDiff,reduceIte,reduceCtorEq]
    refine ⟨hx0,?_⟩
    refine round0 rfl ⟨(i + 1,Sp.orI m (Sp.shl1 x)),hil,hm⟩ (by dsimp only; omega) rfl ?_
    simp [fle,vle,Fr.get,mI_bnd,Sp.orI,Sp.shl1,IntKind.bits]
  · have hz : ¬ (i : Int) < c.length := by omega
    obtain rfl : i = c.length := by omega
    rw [List.drop_length] at hm
    simp only [w30L0,hz,decide_false,w30T1,go_sem,Nat.reduceEqDiff,Nat.reduceAdd,Nat.reduceLT,Nat.reduceLeDiff,reduceIte,reduceCtorEq]
    exact leaf (I _) rfl ⟨rfl,by rw [← hm]; rfl⟩
theorem Cir.nat {g x : List Int} (h : Cir g x) : ∀ y ∈ x,0 ≤ y ∧ y < g.length := by
  rcases h with ⟨a,b,h1,h2,-,-,rfl⟩ | ⟨a,b,c,h1,h2,h3,h4,-,-,-,-,rfl⟩ <;> intro y hy <;> simp at hy <;> omega
open Go.Abs AVal
def fn72v : AVal := .fn (.func 28) [] [.ptr 3 0,.ptr 2 0,.ptr 1 0,.ptr 0 0,.ptr 4 0]
theorem base6 {r : List (Option Nat)} : ∀ i,i < 6 → ((some 0 :: some 1 :: some 2 :: some 3 :: some 4 :: some 5 :: r : List (Option Nat))[i]?).join = some i := fun i hi => by
  rcases i with _ | _ | _ | _ | _ | _ | i
  all_goals first | rfl | omega
theorem leafB6 {t : Nat} {e : Ex} {fr : Fr} {H : AHeap} {R : AVal → AHeap → Prop} (v : AVal) (H2 : AHeap) (ρ : List (Option Nat)) (hw : Wk 6 [] ρ [(0,fr.get t)] H [(0,v)] H2) (hR : R v H2) (he : e = .norm ∨ e = .ret := by simp) : retA 6 [.tmp t] R e fr H [] :=
  ⟨he,by simp only [killM,resL,resA]; exact ⟨⟨trivial,trivial⟩,ρ,v,H2,hw,hR⟩⟩
theorem leafB60 {e : Ex} {fr : Fr} {H : AHeap} {R : AVal → AHeap → Prop} (H2 : AHeap) (ρ : List (Option Nat)) (hw : Wk 6 [] ρ [(0,.tup [])] H [(0,.tup [])] H2) (hR : R (.tup []) H2) (he : e = .norm ∨ e = .ret := by simp) : retA 6 [] R e fr H [] := by
  refine ⟨he,?_⟩
  simp only [killM,resL]
  exact ⟨trivial,ρ,.tup [],H2,hw,hR⟩
def Hn (C b : List (List Int)) (j n t : Nat) (r : AHeap) : AHeap := .cells [.sl false false (mS C)] :: .cells [.sl false false (mS b)] :: .cells [.own j 0 n n 1] :: .cells [I t] :: .cells [fn72v] :: r
theorem s29g (C b now E : List (List Int)) (t : Nat) (h1 : 1 ≤ now.length) (hE : E.take now.length = now) (hl : now.length ≤ 1000) :
    Abs.Spec Try.prog 29 [.own 5 0 now.length now.length 1] (Hn C b 5 now.length t [.cells (mS E)]) fun v H' => v = .own 6 0 now.length now.length 1 ∧ H' = Hn C b 5 now.length t [.cells (mS E),.cells (mS now)] := by
  refine Abs.Spec.walk mixed fn29 nn29 t29 q29 nt29 (by simp) ?_
  have hEl : now.length ≤ E.length := by rw [← hE,List.length_take]; omega
  have h0 : ¬ now.length ≤ 0 := by omega
  simp only [w29,h0,hE,Hn,go_sem,Nat.reduceEqDiff,Nat.reduceAdd,Nat.reduceLT,Nat.reduceLeDiff,reduceIte,reduceCtorEq]
  refine ⟨h1,⟨hEl,by omega⟩,?_⟩
  refine leafB6 (.own 6 0 now.length now.length 1) _ [some 0,some 1,some 2,some 3,some 4,some 5,some 7] ⟨rfl,base6,by simp [imgs,Blk.alive],by simp [hle,csle,vle,vle.vleL,fn72v,mS_bnd,bndL,AVal.bnd],by simp [fle,vle,Fr.get],fun m hm => by cases hm⟩ ⟨rfl,rfl⟩
theorem s28 (C : List (List Int)) (hCl : C.length ≤ 252) (hC3 : ∀ c ∈ C,2 ≤ c.length ∧ c.length ≤ 3) (hC0 : ∀ c ∈ C,∀ x ∈ c,0 ≤ x) : ∀ (m p : Nat) (u : Int) (h t : Nat) (now E b : List (List Int)),p + m = C.length → h ≤ 3 * p → (now = [] → h = 0) → now.length ≤ p → E.take now.length = now → 
    Abs.Spec Try.prog 28 [I p,I u,I h,.ptr 3 0,.ptr 2 0,.ptr 1 0,.ptr 0 0,.ptr 4 0] (Hn C b 5 now.length t [.cells (mS E)]) fun v H' => v = .tup [] ∧ ∃ E' : List (List Int),E'.take now.length = now ∧ H' = Hn C (loopR (C.drop p) u now h (bump now h (b,t))).1 6 now.length (loopR (C.drop p) u now h (bump now h (b,t))).2 [.dead,.cells (mS E')]
  | m,p,u,h,t,now,E,b,hp,hh,hn0,hnl,hE => by
    refine Abs.Spec.walk mixed fn28 nn28 t28 q28 nt28 (by simp) ?_
    have hEl : now.length ≤ E.length := by rw [← hE,List.length_take]; omega
    have tail : ∀ (fr : Fr) (H : AHeap) (st : List (List Int) × Nat),(∃ ρ,Wk 6 [] ρ fr H [(1,I u),(2,I h),(4,.ptr 2 0),(6,.ptr 0 0),(7,.ptr 4 0),(11,I p)] (Hn C st.1 6 now.length st.2 [.dead,.cells (mS E)])) → bump now h (b,t) = st → 
        W ⟨Try.prog,6,61,true⟩ (retA 6 r28 fun v H' => v = .tup [] ∧ ∃ E' : List (List Int),E'.take now.length = now ∧ H' = Hn C (loopR (C.drop p) u now h (bump now h (b,t))).1 6 now.length (loopR (C.drop p) u now h (bump now h (b,t))).2 [.dead,.cells (mS E')]) (.block 0 (.loop c28L1)) [] fr H [] := by
      rintro fr H st ⟨ρ,hw⟩ hst
      rw [hst]
      rw [W_block]
      refine W_loop (fun q : { q : Nat × (List (List Int) × Nat) × List (List Int) // p ≤ q.1 ∧ q.1 ≤ C.length ∧ q.2.2.take now.length = now ∧ loopR (C.drop q.1) u now h q.2.1 = loopR (C.drop p) u now h st } => ([(1,I u),(2,I h),(4,.ptr 2 0),(6,.ptr 0 0),(7,.ptr 4 0),(11,I q.1.1)],Hn C q.1.2.1.1 6 now.length q.1.2.1.2 [.dead,.cells (mS q.1.2.2)])) (fun q => C.length - q.1.1) ⟨(p,st,E),Nat.le_refl _,by dsimp only; omega,hE,rfl⟩ ρ hw ?_
      rintro ⟨⟨i,⟨b,t⟩,E⟩,hpi,hiC,hE,hinv⟩
      dsimp only at hpi hiC hE hinv ⊢
      have hEl : now.length ≤ E.length := by rw [← hE,List.length_take]; omega
      by_cases hil : i < C.length
      rotate_left
      · have d1 : ¬ (i : Int) < C.length := by omega
        obtain rfl : i = C.length := by omega
        rw [List.drop_length,loopR] at hinv
        simp only [w28L1,Hn,d1,decide_false,go_sem,Nat.reduceEqDiff,Nat.reduceAdd,Nat.reduceLT,Nat.reduceLeDiff,reduceIte,reduceCtorEq]
        refine leafB60 (Hn C b 6 now.length t [.dead,.cells (mS E)]) [some 0,some 1,some 2,some 3,some 4,some 5,some 6] ⟨rfl,base6,by simp [imgs,Blk.alive,Hn],by simp [hle,csle,vle,vle.vleL,fn72v,mS_bnd,bndL,AVal.bnd,imgs,Blk.alive,Hn],by simp [fle,vle,vle.vleL,Fr.get],fun m hm => by cases hm⟩ ⟨rfl,E,hE,by rw [← hinv]; rfl⟩
      have d1 : (i : Int) < C.length := by omega
      have hwk : IntKind.i64.wrap ((i : Int) + 1) = ((i + 1 : Nat) : Int) := by rw [wrap64 (by omega) (by omega)]; rfl
      obtain ⟨c,hc⟩ : ∃ c,C.getD i [] = c := ⟨_,rfl⟩
      have hc' : C[i] = c := by rw [← hc,List.getD_eq_getElem?_getD,List.getElem?_eq_getElem hil]; rfl
      have hcC : c ∈ C := by rw [← hc']; exact List.getElem_mem _
      have hc3 := hC3 c hcC
      have hd : C.drop i = c :: C.drop (i + 1) := by rw [List.drop_eq_getElem_cons hil,hc']
      have e74 := fun H => liftV (s30 false false c (by omega) (hC0 c hcC)) (by simp [bndL,AVal.bnd,mI_bnd]) rfl H
      rw [hd,loopR] at hinv
      simp only [w28L1,Hn,d1,decide_true,w28T2,mS_get,hil,hc,go_sem,Nat.reduceEqDiff,Nat.reduceAdd,Nat.reduceLT,Nat.reduceLeDiff,reduceIte,reduceCtorEq]
      refine CallK.pure (e74 _) ?_
      by_cases hz : and2 (setL c) u = 0
      rotate_left
      · have dz : (bitsI .and .i64 (setL c) u == 0) = false := by rw [beq_eq_false_iff_ne]; exact hz
        rw [if_neg hz] at hinv
        simp only [dz,w28T3,hwk,go_sem,Nat.reduceEqDiff,Nat.reduceAdd,Nat.reduceLT,Nat.reduceLeDiff,reduceIte,reduceCtorEq]
        exact KQ_round rfl ⟨(i + 1,(b,t),E),by dsimp only; omega,hil,hE,hinv⟩ [some 0,some 1,some 2,some 3,some 4,some 5,some 6] (by dsimp only; omega) ⟨rfl,base6,by simp [imgs,Blk.alive],by simp [hle,csle,vle,vle.vleL,fn72v,mS_bnd,bndL,AVal.bnd,imgs,Blk.alive],by simp [fle,vle,Fr.get,imgs,Blk.alive],fun m hm => by cases hm⟩
      have dz : (bitsI .and .i64 (setL c) u == 0) = true := by rw [show bitsI .and .i64 (setL c) u = 0 from hz]; rfl
      rw [if_pos hz] at hinv
      have hw2 : IntKind.i64.wrap ((h : Int) + c.length) = ((h + c.length : Nat) : Int) := by rw [wrap64 (by omega) (by omega)]; omega
      simp only [dz,mS_get,hil,hc,hwk,hw2,go_sem,Nat.reduceEqDiff,Nat.reduceAdd,Nat.reduceLT,Nat.reduceLeDiff,reduceIte,reduceCtorEq]
      refine ⟨d1,⟨hEl,by omega⟩,d1,?_⟩
      have hnc : (now ++ [c]).length = now.length + 1 := by rw [List.length_append]; rfl
      have hms : mS (E.take now.length) ++ [.sl false false (mI c)] = mS (now ++ [c]) := by rw [hE,← mS_append]; rfl
      rw [hms]
      have ih := s28 C hCl hC3 hC0 (C.length - (i + 1)) (i + 1) (Sp.orI u (setL c)) (h + c.length) t (now ++ [c]) (now ++ [c]) b (by omega) (by omega) (fun e => by simp at e) (by omega) (List.take_length)
      generalize hst' : loopR (C.drop (i + 1)) (Sp.orI u (setL c)) (now ++ [c]) (h + c.length) (bump (now ++ [c]) (h + c.length) (b,t)) = st' at ih hinv
      refine CallKD.by (R := fun v H' => v = .tup [] ∧ ∃ E' : List (List Int),E'.take (now ++ [c]).length = now ++ [c] ∧ H' = Hn C st'.1 9 (now.length + 1) st'.2 [.dead,.dead,.dead,.dead,.cells (mS E')]) (CallV.of_spec (Spec.renum (ρ := [some 0,some 1,some 2,some 3,some 4,some 8]) ih rfl (Wk.mk0 rfl (by simp [imgs,Blk.alive,Hn]) (by simp [hle,csle,vle,vle.vleL,fn72v,mS_bnd,bndL,AVal.bnd,imgs,Blk.alive,Hn]) (by simp [fle,vle,Fr.get,imgs,Blk.alive,Hn,entryFr,Sp.orI])) ?_)) ?_
      · rintro v H2 ⟨rfl,E',hE',rfl⟩
        refine ⟨[some 0,some 1,some 2,some 3,some 4,some 12,some 13,some 14,some 15,some 6],.tup [],_,Wk.mk0 rfl ?_ ?_ ?_,⟨rfl,E',hE',rfl⟩,?_,?_⟩
        · simp [imgs,Blk.alive,Hn]
        · simp [hle,csle,vle,vle.vleL,fn72v,mS_bnd,bndL,AVal.bnd,imgs,Blk.alive,Hn]
        · simp [fle,vle,vle.vleL,Fr.get]
        · simp [Hn]
        · intro k hk
          rw [show (List.length _) = 9 from rfl] at hk
          rcases k with _ | _ | _ | _ | _ | _ | _ | _ | _ | k
          all_goals first | exact .inl rfl | exact .inr ⟨_,rfl,by simp [Hn],rfl⟩ | omega
      · rintro v H' ⟨rfl,E',hE',rfl⟩
        have hE2 : E'.take now.length = now := by
          have := congrArg (List.take now.length) hE'
          rwa [List.take_take,List.take_left,hnc,Nat.min_eq_left (by omega)] at this
        have hw3 : IntKind.i64.wrap (((now.length + 1 : Nat) : Int) - 1) = (now.length : Int) := by rw [wrap64 (by omega) (by omega)]; omega
        simp only [Hn,hw3,w28T3,hwk,go_sem,Nat.reduceEqDiff,Nat.reduceAdd,Nat.reduceLT,Nat.reduceLeDiff,reduceIte,reduceCtorEq]
        exact ⟨⟨by omega,by omega,.inl trivial⟩,KQ_round rfl ⟨(i + 1,st',E'),by dsimp only; omega,hil,hE2,hinv⟩ [some 0,some 1,some 2,some 3,some 4,some 5,some 9] (by dsimp only; omega) ⟨rfl,base6,by simp [imgs,Blk.alive],by simp [hle,csle,vle,vle.vleL,fn72v,mS_bnd,bndL,AVal.bnd,imgs,Blk.alive],by simp [fle,vle,Fr.get,imgs,Blk.alive],fun m hm => by cases hm⟩⟩
    simp only [w28,Hn,go_sem,Nat.reduceEqDiff,Nat.reduceAdd,Nat.reduceLT,Nat.reduceLeDiff,reduceIte,reduceCtorEq]
    refine IC.splitP (fun hb => ?_) fun hb => ?_
    · have hnow : 1 ≤ now.length := by
        rcases now with _ | ⟨x,now⟩
        · have := hn0 rfl; omega
        · simp
      simp only [go_sem,Nat.reduceEqDiff,Nat.reduceAdd,Nat.reduceLT,Nat.reduceLeDiff,reduceIte,reduceCtorEq]
      refine CallK.by (CallV.of_spec (first := []) (s29g C b now E t hnow hE (by omega))) fun v H' ⟨e1,e2⟩ => ?_
      subst e1 e2
      simp only [Hn,w28T0,go_sem,Nat.reduceEqDiff,Nat.reduceAdd,Nat.reduceLT,Nat.reduceLeDiff,reduceIte,reduceCtorEq]
      refine tail _ _ (now,h) ⟨[some 0,some 1,some 2,some 3,some 4,some 5,some 5],rfl,base6,by simp [imgs,Blk.alive,Hn],?_,?_,fun m hm => by cases hm⟩ (by unfold bump; rw [if_pos (by dsimp only; omega)])
      · simp [hle,csle,vle,vle.vleL,fn72v,mS_bnd,bndL,AVal.bnd,Hn,imgs,Blk.alive,mS_length,mS_sz,mS_cells,List.take_of_length_le]
      · simp [fle,vle,Fr.get,imgs,Blk.alive,Hn]
    · simp only [w28T0,go_sem,Nat.reduceEqDiff,Nat.reduceAdd,Nat.reduceLT,Nat.reduceLeDiff,reduceIte,reduceCtorEq]
      refine tail _ _ (b,t) ⟨[some 0,some 1,some 2,some 3,some 4,some 5,some 5],rfl,base6,by simp [imgs,Blk.alive,Hn],?_,?_,fun m hm => by cases hm⟩ (by unfold bump; rw [if_neg (by dsimp only; omega)])
      · simp [hle,csle,vle,vle.vleL,fn72v,mS_bnd,bndL,AVal.bnd,Hn,imgs,Blk.alive]
      · simp [fle,vle,Fr.get,imgs,Blk.alive,Hn]
theorem s14 (g : List Int) (hl : g.length < 9223372036854775808) : Abs.Spec Try.prog 14 [.sl false false (mI g)] [] fun v H' => H' = [] ∧ v = if netV g then .tup [.sl false false (mS (swapsA (circs g)).1),I 0] else .tup [.sl false false (mS []),I 2] := by
  refine Abs.Spec.walk mixed fn14 nn14 t14 q14 nt14 (by simp) ?_
  simp only [w14,go_sem,Nat.reduceEqDiff,Nat.reduceAdd,Nat.reduceLT,Nat.reduceLeDiff,reduceIte,reduceCtorEq]
  refine CallK.by (CallV.of_spec (s25 false false g hl)) fun v H' ⟨h1,h2⟩ => ?_
  subst h1 h2
  cases hv : netV g with
  | false =>
    simp only [go_sem,Nat.reduceEqDiff,Nat.reduceAdd,Nat.reduceLT,Nat.reduceLeDiff,reduceIte,reduceCtorEq]
    exact leaf2 (.tup [.sl false false (mS []),I 2]) ⟨⟨mS_bnd,rfl,rfl⟩,rfl,trivial⟩ ⟨rfl,rfl⟩
  | true =>
    have h6 := (netV_len hv).2
    simp only [w14T0,go_sem,Nat.reduceEqDiff,Nat.reduceAdd,Nat.reduceLT,Nat.reduceLeDiff,reduceIte,reduceCtorEq]
    refine CallK.by (CallV.of_spec (s26 g h6)) fun v H' ⟨h1,h2⟩ => ?_
    subst h1 h2
    have hCl := circs_len h6
    have hCir : ∀ x ∈ circs g,Cir g x := fun x hx => circs_mem.1 hx
    generalize circs g = C at hCl hCir ⊢
    have ih := s28 C hCl (fun c hc => (hCir c hc).len) (fun c hc x hx => ((hCir c hc).nat x hx).1) C.length 0 0 0 0 [] [] [] (by omega) (by omega) (fun _ => rfl) (by simp) rfl
    have hb : bump [] 0 (([],0) : List (List Int) × Nat) = ([],0) := rfl
    rw [hb,List.drop_zero] at ih
    have hA : loopR C 0 [] 0 ([],0) = swapsA C := rfl
    rw [hA] at ih
    simp only [go_sem,Nat.reduceEqDiff,Nat.reduceAdd,Nat.reduceLT,Nat.reduceLeDiff,reduceIte,reduceCtorEq]
    refine CallK.by (R := fun v H' => v = .tup [] ∧ ∃ E' : List (List Int),H' = Hn C (swapsA C).1 5 0 (swapsA C).2 [.cells (mS E')]) (CallV.of_spec (Spec.renum (ρ := [some 0,some 1,some 2,some 3,some 4,none]) ih rfl (Wk.mk0 rfl (by simp [imgs,Blk.alive,Hn]) (by simp [hle,csle,vle,vle.vleL,fn72v,mS_bnd,mS_nil,bndL,AVal.bnd,imgs,Blk.alive,Hn]) (by simp [fle,vle,Fr.get,imgs,Blk.alive,Hn,entryFr])) ?_)) ?_
    · rintro v H2 ⟨rfl,E',hE',rfl⟩
      refine ⟨[some 0,some 1,some 2,some 3,some 4,some 6],.tup [],_,Wk.mk0 rfl ?_ ?_ ?_,⟨rfl,E',rfl⟩,?_,?_⟩
      · simp [imgs,Blk.alive,Hn]
      · simp [hle,csle,vle,vle.vleL,fn72v,mS_bnd,bndL,AVal.bnd,imgs,Blk.alive,Hn]
      · simp [fle,vle,vle.vleL,Fr.get]
      · simp [Hn]
      · intro k hk
        rw [show (List.length _) = 5 from rfl] at hk
        rcases k with _ | _ | _ | _ | _ | k
        all_goals first | exact .inr ⟨_,rfl,by simp [Hn],rfl⟩ | omega
    · rintro v H' ⟨rfl,E',rfl⟩
      simp only [Hn,go_sem,Nat.reduceEqDiff,Nat.reduceAdd,Nat.reduceLT,Nat.reduceLeDiff,reduceIte,reduceCtorEq]
      exact leaf2 (.tup [.sl false false (mS (swapsA C).1),I 0]) ⟨⟨mS_bnd,fun h => (by cases h),fun h => (by cases h),rfl⟩,rfl,trivial⟩ ⟨rfl,rfl⟩
open Go.Abs AVal
set_option maxRecDepth 100000 in
theorem two_dec : ∀ a : Nat,a < 6 → ∀ b : Nat,b < 6 → a ≠ b → Sp.pc (setL [(a : Int),b]) = 2 ∧ 0 ≤ setL [(a : Int),b] ∧ setL [(a : Int),b] < 64 := by decide +kernel
set_option synthInstance.maxSize 2000 in
set_option synthInstance.maxHeartbeats 400000 in
set_option maxRecDepth 100000 in
theorem three_dec : ∀ a : Nat,a < 6 → ∀ b : Nat,b < 6 → ∀ c : Nat,c < 6 → (a ≠ b ∧ a ≠ c ∧ b ≠ c) → Sp.pc (setL [(a : Int),b,c]) = 3 ∧ 0 ≤ setL [(a : Int),b,c] ∧ setL [(a : Int),b,c] < 64 := by decide +kernel
theorem Cir.set {g x : List Int} (h6 : g.length ≤ 6) (h : Cir g x) : Sp.pc (setL x) = x.length ∧ Sp.isSet (setL x) := by
  rcases h with ⟨a,b,h1,h2,-,-,rfl⟩ | ⟨a,b,c,h1,h2,h3,h4,h5,-,-,-,rfl⟩
  · exact two_dec a (by omega) b (by omega) (by omega)
  · exact three_dec a (by omega) b (by omega) c (by omega) ⟨by omega,by omega,by omega⟩
theorem netV_at {g : List Int} (h : netV g = true) {k : Nat} (hk : k < g.length) : 0 ≤ g.getD k 0 ∧ g.getD k 0 < (2 ^ g.length : Nat) ∧ hp g k k = false ∧ Sp.isSet (g.getD k 0) := by
  have h6 := (netV_len h).2
  unfold netV at h
  simp only [Bool.and_eq_true,List.all_eq_true,List.mem_range] at h
  have := h.2.2 k hk
  unfold netAt at this
  simp only [Bool.and_eq_true,decide_eq_true_eq,Bool.not_eq_true'] at this
  have h64 := (two_pow6 h6).2.1
  exact ⟨this.1,this.2.1,this.2.2,this.1,by omega⟩
set_option maxHeartbeats 1000000 in
theorem s11 (nn t : Bool) (g : List Int) (hl : g.length < 9223372036854775808) : Abs.Spec Try.prog 11 [.sl nn t (mI g)] [] fun v H' => H' = [] ∧ v = B (netV g) := by
  refine Abs.Spec.walk mixed fn11 nn11 t11 q11 nt11 (by simp) ?_
  have hV : g.length ≤ 6 → 1 ≤ g.length → netV g = (List.range g.length).all (netAt g) := fun h h1 => by unfold netV; rw [decide_eq_true h,decide_eq_true h1]; rfl
  have hF : ¬ g.length ≤ 6 → netV g = false := fun h => by unfold netV; rw [decide_eq_false h]; simp
  simp only [w11,go_sem,Nat.reduceEqDiff,Nat.reduceAdd,Nat.reduceLT,Nat.reduceLeDiff,reduceIte,reduceCtorEq]
  refine W_loop (fun q : { i : Nat // i ≤ g.length ∧ (g.length ≤ 6 → (List.range i).all (netAt g) = true) } => ([(0,.sl nn t (mI g)),(5,.sl nn t (mI g)),(6,I g.length),(7,I q.1)],[])) (fun q => g.length - q.1) ⟨0,by omega,fun _ => rfl⟩ [] (Wk.nil (by simp [fle,vle,Fr.get,mI_bnd])) ?_
  rintro ⟨i,hi,hinv⟩
  dsimp only
  by_cases hil : i < g.length
  · have d3 : (i : Int) < g.length := by omega
    have hwk : IntKind.i64.wrap ((i : Int) + 1) = ((i + 1 : Nat) : Int) := by rw [wrap64 (by omega) (by omega)]; rfl
    obtain ⟨x,hx⟩ : ∃ x,g.getD i 0 = x := ⟨_,rfl⟩
    have hat : netAt g i = (decide (0 ≤ x) && (decide (x < (2 ^ g.length : Nat)) && !Sp.has x i)) := by unfold netAt hp; rw [hx]
    have bad : (g.length ≤ 6 → netAt g i = false) → netV g = false := fun h => by
      by_cases h6 : g.length ≤ 6
      · rw [hV h6 (by omega)]; exact all_bad hil (h h6)
      · exact hF h6
    obtain ⟨M,hM⟩ : ∃ M,IntKind.i64.wrap (1 * 2 ^ min g.length 64) = M := ⟨_,rfl⟩
    have hM6 : g.length ≤ 6 → M = ((2 ^ g.length : Nat) : Int) := fun h => by rw [← hM]; exact (two_pow6 h).2.2
    by_cases x0 : x < 0
    · have e1 : decide (x < 0) = true := decide_eq_true x0
      simp only [w11L0,d3,decide_true,mI_get,hil,hx,mI_hd,e1,go_sem,Nat.reduceEqDiff,Nat.reduceAdd,Nat.reduceLT,Nat.reduceLeDiff,reduceIte,reduceCtorEq]
      exact leaf (B false) rfl ⟨rfl,by rw [bad fun _ => by rw [hat,decide_eq_false (by omega)]; rfl]⟩
    have e1 : decide (x < 0) = false := decide_eq_false x0
    by_cases x1 : x ≥ M
    · have e2 : decide (x ≥ M) = true := decide_eq_true x1
      simp only [w11L0,d3,decide_true,mI_get,hil,hx,mI_hd,e1,hM,e2,go_sem,Nat.reduceEqDiff,Nat.reduceAdd,Nat.reduceLT,Nat.reduceLeDiff,reduceIte,reduceCtorEq]
      repeat (refine ⟨by omega,?_⟩)
      exact leaf (B false) rfl ⟨rfl,by rw [bad fun h => by have := hM6 h; rw [hat,decide_eq_false (show ¬ x < _ by omega)]; simp]⟩
    have e2 : decide (x ≥ M) = false := decide_eq_false x1
    have eb : (bitsI .and .i64 (x.fdiv (2 ^ min i 64)) 1 == 1) = Sp.has x i := rfl
    cases hh : Sp.has x i with
    | true =>
      rw [hh] at eb
      simp only [w11L0,d3,decide_true,mI_get,hil,hx,mI_hd,e1,hM,e2,eb,go_sem,Nat.reduceEqDiff,Nat.reduceAdd,Nat.reduceLT,Nat.reduceLeDiff,reduceIte,reduceCtorEq]
      repeat (refine ⟨by omega,?_⟩)
      exact leaf (B false) rfl ⟨rfl,by rw [bad fun _ => by rw [hat,hh]; simp]⟩
    | false =>
      rw [hh] at eb
      simp only [w11L0,d3,decide_true,mI_get,hil,hx,mI_hd,e1,hM,e2,eb,hwk,go_sem,Nat.reduceEqDiff,Nat.reduceAdd,Nat.reduceLT,Nat.reduceLeDiff,reduceIte,reduceCtorEq]
      repeat (refine ⟨by omega,?_⟩)
      exact round0 rfl ⟨i + 1,hil,fun h => by have := hM6 h; rw [range_all_snoc,hinv h,hat,hh,decide_eq_true (by omega),decide_eq_true (by omega)]; rfl⟩ (by dsimp only; omega) rfl (by simp [fle,vle,Fr.get,mI_bnd])
  · have d3 : ¬ (i : Int) < g.length := by omega
    obtain rfl : i = g.length := by omega
    by_cases h1 : 1 ≤ g.length
    · have d1 : decide ((g.length : Int) ≥ 1) = true := decide_eq_true (by omega)
      by_cases h6 : g.length ≤ 6
      · have d6 : decide ((g.length : Int) ≤ 6) = true := decide_eq_true (by omega)
        simp only [w11L0,d3,decide_false,w11T1,d1,d6,go_sem,Nat.reduceEqDiff,Nat.reduceAdd,Nat.reduceLT,Nat.reduceLeDiff,reduceIte,reduceCtorEq]
        exact leaf (B true) rfl ⟨rfl,by rw [hV h6 h1,hinv h6]⟩
      · have d6 : decide ((g.length : Int) ≤ 6) = false := decide_eq_false (by omega)
        simp only [w11L0,d3,decide_false,w11T1,d1,d6,go_sem,Nat.reduceEqDiff,Nat.reduceAdd,Nat.reduceLT,Nat.reduceLeDiff,reduceIte,reduceCtorEq]
        exact leaf (B false) rfl ⟨rfl,by rw [hF h6]⟩
    · have d1 : decide ((g.length : Int) ≥ 1) = false := decide_eq_false (by omega)
      simp only [w11L0,d3,decide_false,w11T1,d1,go_sem,Nat.reduceEqDiff,Nat.reduceAdd,Nat.reduceLT,Nat.reduceLeDiff,reduceIte,reduceCtorEq]
      exact leaf (B false) rfl ⟨rfl,by unfold netV; rw [decide_eq_false (by omega)]; rfl⟩
end Go.Proofs.Ytlonaefihjdkpaa
