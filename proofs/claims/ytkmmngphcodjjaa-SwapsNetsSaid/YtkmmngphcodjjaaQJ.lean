/- Contracts: Circles,and who is in a circle; Contracts: Swaps; Nets: what is accepted is small; a wish more; the reference's nets; Contracts: SwapsHelp; Contracts: the reference's circles; Contracts: what the reference says swaps help,and the most; Contracts: the reference's circles in order,and SwapsNets; Contracts: SwapsNets. -/
import Derived.Test.YtkmmngphcodjjaaQI
import Derived.Test.YtkmmngphcodjjaaBV
import Derived.Test.YtkmmngphcodjjaaQK
import Derived.Test.YtkmmngphcodjjaaBJ
import Derived.Test.YtkmmngphcodjjaaBE
import Derived.Test.YtkmmngphcodjjaaQO
namespace Go.Proofs.Ytkmmngphcodjjaa
open Go.Abs AVal
set_option linter.unusedSimpArgs false
attribute [local go_sem] W_skip W_keep KQ_canon canon Fr.norm W_seq W_block W_scope W_exit W_ret W_ops W_draw KQ_nil KQ_norm_seq KQ_exit_seq KQ_ret_seq KQ_norm_block KQ_ret_block KQ_exit_block KQ_exit_loop KQ_ret_loop O_nil O_cons S_call S_mv SE_mv SD_mv S_pick SE_pick SD_pick S_bin SE_bin SD_bin S_eqb SE_eqb SD_eqb S_eqv SE_eqv SD_eqv S_eqnil SE_eqnil SD_eqnil S_un SE_un SD_un S_conv SE_conv SD_conv S_mkfn SE_mkfn SD_mkfn S_load SE_load SD_load S_nilck SE_nilck SD_nilck S_slS SE_slS SD_slS S_slP SE_slP SD_slP S_fldA SE_fldA SD_fldA S_fld SE_fld SD_fld S_ixS SE_ixS SD_ixS S_ixP SE_ixP SD_ixP S_ixV SE_ixV SD_ixV S_ixStr SE_ixStr SD_ixStr S_ext SE_ext SD_ext S_len SE_len SD_len S_lenStr SE_lenStr SD_lenStr S_lenc SE_lenc SD_lenc S_mn SE_mn SD_mn S_mx SE_mx SD_mx S_build SE_build SD_build S_alloc SD_alloc S_box SD_box S_bslice SD_bslice S_mksl SD_mksl S_store SD_store S_append SD_append S_copy SD_copy S_clr SD_clr S_mlen SE_mlen SD_mlen S_mget SE_mget SD_mget S_mval SE_mval SD_mval S_mentry SE_mentry SD_mentry S_mkmap SD_mkmap S_mset SD_mset S_mrange SD_mrange S_mnext mlenA mgetA mvalA mentryA msetA mrangeA cells_mp isCell_mp cellsOk_mp aq_some aa_some al_some alA_some aqd_some aad_some ald_some ape_some D_done D_both D_early D_step SE_call SD_call IOpd.ev Fr.get Fr.put Fr.putd entryFr pickA binA binI isSh shI eqbA eqvA ints ints_mI Option.map_some eqnilA unA convA loadA nilckA intA slSA slPA fldAA fldVA ixSA ixPA ixVA ixStrA extA lenA lenStrA mnA mxA AVal.fits fillA fillOk buildA opa srcA appA stoA copA clrA rdFree zeros List.length_nil List.length_cons List.length_map List.map_cons List.map_nil Option.map_some Option.map_none if_true if_false ite_true ite_false true_and and_true and_self implies_true forall_const true_implies Bool.false_eq_true Bool.not_true Bool.not_false decide_eq_true_eq decide_eq_false_iff_not eq_self List.getElem?_cons_zero List.getElem?_cons_succ List.getElem?_nil List.set_cons_zero List.set_cons_succ List.nil_append List.cons_append List.append_nil List.replicate_zero List.replicate_succ Nat.zero_add false_implies rng_lt rng_end rng_get cells_I cells_B cells_sl cut_one Int.toNat_natCast Int.natCast_nonneg List.headD_cons Int.lt_irrefl not_false_eq_true decide_false decide_true mI_length mI_cells mI_sz mI_isCell mI_mid mI_append mI_take mI_drop cells_val cells_own cells_agg isCell_I isCell_B isCell_nil isCell_sl isCell_own isCell_ptr isCell_fn isCell_rp isCell_yld cellsOk_I cellsOk_B cellsOk_nil cellsOk_sl cellsOk_own cellsOk_ptr cellsOk_fn cellsOk_rp cellsOk_yld cellsOk_agg cells_nil cells_ptr cells_fn cells_rp List.all_cons List.all_nil Bool.and_true Nat.mul_one Nat.zero_mul Nat.one_mul List.take_zero List.take_nil List.drop_nil List.drop_zero List.not_mem_nil Nat.le_refl Nat.zero_le mS_length mS_cells mS_sz mS_isCell mS_mid mS_append mS_take mS_drop cells_sI isCell_sI cellsOk_sI sI_eq succ_le_self' List.take_succ_cons List.drop_succ_cons List.take_length beq_self_eq_true List.mem_cons or_false forall_eq mI_put mI_rep O_guard' D_earlyG' D_stepG' W_cond' G_tt G_tf G_ft G_ff GE_tt GE_tf GE_ft GE_ff GS_tt GS_tf GS_ft GS_ff G_u GE_u GS_u IC_t IC_f xft xff xtt xtf z00 z20 z22 z02 zz tn0
theorem netV_len {g : List Int} (h : netV g = true) : 1 ≤ g.length ∧ g.length ≤ 6 := by
  unfold netV at h; simp at h; exact ⟨h.1,h.2.1⟩
theorem s51 (g : List Int) (hl : g.length < 9223372036854775808) : Abs.Spec Try.prog 51 [.sl false false (mI g)] [] fun v H' => H' = [] ∧ v = if netV g then .tup [.sl false false (mS (circs g)),I 0] else .tup [.sl false false (mS []),I 2] := by
  refine Abs.Spec.walk mixed fn51 nn51 t51 q51 nt51 (by simp) ?_
  simp only [w51,go_sem,Nat.reduceEqDiff,Nat.reduceAdd,Nat.reduceLT,Nat.reduceLeDiff,reduceIte,reduceCtorEq]
  refine CallK.by (CallV.of_spec (s70 false false g hl)) fun v H' ⟨h1,h2⟩ => ?_
  subst h1 h2
  cases hv : netV g with
  | false =>
    simp only [go_sem,Nat.reduceEqDiff,Nat.reduceAdd,Nat.reduceLT,Nat.reduceLeDiff,reduceIte,reduceCtorEq]
    exact leaf2 (.tup [.sl false false (mS []),I 2]) ⟨⟨mS_bnd,rfl,rfl⟩,rfl,trivial⟩ ⟨rfl,rfl⟩
  | true =>
    have h6 := (netV_len hv).2
    simp only [go_sem,Nat.reduceEqDiff,Nat.reduceAdd,Nat.reduceLT,Nat.reduceLeDiff,reduceIte,reduceCtorEq]
    refine CallK.by (CallV.of_spec (s71 g h6)) fun v H' ⟨h1,h2⟩ => ?_
    subst h1 h2
    simp only [go_sem,Nat.reduceEqDiff,Nat.reduceAdd,Nat.reduceLT,Nat.reduceLeDiff,reduceIte,reduceCtorEq]
    exact leaf2 (.tup [.sl false false (mS (circs g)),I 0]) ⟨⟨mS_bnd,fun h => (by cases h),fun h => (by cases h),rfl⟩,rfl,trivial⟩ ⟨rfl,rfl⟩
theorem s74 (nn t : Bool) (c : List Int) (hl : c.length < 9223372036854775808) (h0 : ∀ x ∈ c,0 ≤ x) : Abs.Spec Try.prog 74 [.sl nn t (mI c)] [] fun v H' => H' = [] ∧ v = I (setL c) := by
  refine Abs.Spec.walk mixed fn74 nn74 t74 q74 nt74 (by simp) ?_
  simp only [w74,go_sem,Nat.reduceEqDiff,Nat.reduceAdd,Nat.reduceLT,Nat.reduceLeDiff,reduceIte,reduceCtorEq]
  refine W_loop (fun q : { q : Nat × Int // q.1 ≤ c.length ∧ setG q.2 (c.drop q.1) = setL c } => ([(3,I q.1.2),(6,.sl nn t (mI c)),(7,I c.length),(8,I q.1.1)],[])) (fun q => c.length - q.1.1) ⟨(0,0),by simp,rfl⟩ [] (Wk.nil (by simp [fle,vle,Fr.get,mI_bnd])) ?_
  rintro ⟨⟨i,m⟩,hi,hm⟩
  dsimp only at hi hm ⊢
  by_cases hil : i < c.length
  · have hz : (i : Int) < c.length := by omega
    have hwk : IntKind.i64.wrap ((i : Int) + 1) = ((i + 1 : Nat) : Int) := by rw [wrap64 (by omega) (by omega)]; rfl
    obtain ⟨x,hx⟩ : ∃ x,c.getD i 0 = x := ⟨_,rfl⟩
    have hx' : c[i] = x := by rw [← hx,List.getD_eq_getElem?_getD,List.getElem?_eq_getElem hil]; rfl
    have hx0 : 0 ≤ x := by rw [← hx']; exact h0 _ (List.getElem_mem _)
    rw [List.drop_eq_getElem_cons hil,hx'] at hm
    simp only [w74L0,hz,decide_true,mI_get,hil,hx,mI_hd,hwk,go_sem,Nat.reduceEqDiff,Nat.reduceAdd,Nat.reduceLT,Nat.reduceLeDiff,reduceIte,reduceCtorEq]
    refine ⟨hx0,?_⟩
    refine round0 rfl ⟨(i + 1,Sp.orI m (Sp.shl1 x)),hil,hm⟩ (by dsimp only; omega) rfl ?_
    simp [fle,vle,Fr.get,mI_bnd,Sp.orI,Sp.shl1,IntKind.bits]
  · have hz : ¬ (i : Int) < c.length := by omega
    obtain rfl : i = c.length := by omega
    rw [List.drop_length] at hm
    simp only [w74L0,hz,decide_false,w74T1,go_sem,Nat.reduceEqDiff,Nat.reduceAdd,Nat.reduceLT,Nat.reduceLeDiff,reduceIte,reduceCtorEq]
    exact leaf (I _) rfl ⟨rfl,by rw [← hm]; rfl⟩
theorem s75 (x T : List Int) (hx : x.length < 9223372036854775808) : Abs.Spec Try.prog 75 [sI x,.rp [.sl false false (mI T)]] [] fun v H' => v = B (x == T) ∧ H' = [] := by
  refine Abs.Spec.walk mixed fn75 nn75 t75 q75 nt75 (by simp) ?_
  simp only [w75,go_sem,Nat.reduceEqDiff,Nat.reduceAdd,Nat.reduceLT,Nat.reduceLeDiff,reduceIte,reduceCtorEq]
  refine CallK.by (CallV.of_spec (s20 false false false false x T hx)) fun v H' ⟨h1,h2⟩ => ?_
  subst h1 h2
  simp only [go_sem,Nat.reduceEqDiff,Nat.reduceAdd,Nat.reduceLT,Nat.reduceLeDiff,reduceIte,reduceCtorEq]
  exact leaf (B _) rfl ⟨rfl,rfl⟩
theorem Cir.nat {g x : List Int} (h : Cir g x) : ∀ y ∈ x,0 ≤ y ∧ y < g.length := by
  rcases h with ⟨a,b,h1,h2,-,-,rfl⟩ | ⟨a,b,c,h1,h2,h3,h4,-,-,-,-,rfl⟩ <;> intro y hy <;> simp at hy <;> omega
set_option maxHeartbeats 2000000 in
theorem s50 (g : List Int) (l : List (List Int)) (hl : g.length < 9223372036854775808) (hll : l.length < 9223372036854775808) : Abs.Spec Try.prog 50 [.sl false false (mI g),.sl false false (mS l)] [] fun v H' => H' = [] ∧ v = if netV g then (match chk (circs g) l with | none => .tup [I 0,B false,I 0] | some (_,h,_) => .tup [I h,B true,I 0]) else .tup [I 0,B false,I 2] := by
  refine Abs.Spec.walk mixed fn50 nn50 t50 q50 nt50 (by simp) ?_
  simp only [w50,go_sem,Nat.reduceEqDiff,Nat.reduceAdd,Nat.reduceLT,Nat.reduceLeDiff,reduceIte,reduceCtorEq]
  refine CallK.by (CallV.of_spec (s70 false false g hl)) fun v H' ⟨h1,h2⟩ => ?_
  subst h1 h2
  cases hv : netV g with
  | false =>
    simp only [go_sem,Nat.reduceEqDiff,Nat.reduceAdd,Nat.reduceLT,Nat.reduceLeDiff,reduceIte,reduceCtorEq]
    exact leaf3 (.tup [I 0,B false,I 2]) ⟨rfl,rfl,rfl,trivial⟩ ⟨rfl,rfl⟩
  | true =>
    have h6 := (netV_len hv).2
    simp only [w50T0,go_sem,Nat.reduceEqDiff,Nat.reduceAdd,Nat.reduceLT,Nat.reduceLeDiff,reduceIte,reduceCtorEq]
    refine CallK.by (CallV.of_spec (s71 g h6)) fun v H' ⟨h1,h2⟩ => ?_
    subst h1 h2
    have hCl := circs_len h6
    have hCn := circs_nodup g
    have hCir : ∀ x ∈ circs g,Cir g x := fun x hx => circs_mem.1 hx
    generalize circs g = C at hCl hCn hCir ⊢
    simp only [go_sem,Nat.reduceEqDiff,Nat.reduceAdd,Nat.reduceLT,Nat.reduceLeDiff,reduceIte,reduceCtorEq]
    refine W_loop (fun q : { q : Nat × Int × Nat × Int // q.1 ≤ l.length ∧ chkG C (l.drop q.1) (some q.2) = chk C l ∧ -1 ≤ q.2.2.2 ∧ q.2.2.2 < C.length ∧ (q.2.2.1 : Int) ≤ 3 * (q.2.2.2 + 1) } => ([(7,.sl false false (mS C)),(8,I q.1.2.1),(9,I q.1.2.2.1),(10,I q.1.2.2.2),(19,.sl false false (mS l)),(20,I l.length),(21,I q.1.1)],[])) (fun q => l.length - q.1.1) ⟨(0,0,0,-1),by simp,rfl,by simp,by simp; omega,by simp⟩ [] (Wk.nil (by simp [fle,vle,Fr.get,mS_bnd])) ?_
    rintro ⟨⟨i,u,h,k⟩,hi,hm,hk1,hkl,hh⟩
    dsimp only at hi hm hk1 hkl hh ⊢
    by_cases hil : i < l.length
    rotate_left
    · have hz : ¬ (i : Int) < l.length := by omega
      obtain rfl : i = l.length := by omega
      rw [List.drop_length] at hm
      simp only [w50L1,hz,decide_false,w50T5,go_sem,Nat.reduceEqDiff,Nat.reduceAdd,Nat.reduceLT,Nat.reduceLeDiff,reduceIte,reduceCtorEq]
      exact leaf3 (.tup [I h,B true,I 0]) ⟨rfl,rfl,rfl,trivial⟩ ⟨rfl,by rw [← hm]; rfl⟩
    have hz : (i : Int) < l.length := by omega
    have hwk : IntKind.i64.wrap ((i : Int) + 1) = ((i + 1 : Nat) : Int) := by rw [wrap64 (by omega) (by omega)]; rfl
    obtain ⟨c,hc⟩ : ∃ c,l.getD i [] = c := ⟨_,rfl⟩
    have hc' : l[i] = c := by rw [← hc,List.getD_eq_getElem?_getD,List.getElem?_eq_getElem hil]; rfl
    rw [List.drop_eq_getElem_cons hil,hc'] at hm
    simp only [w50L1,hz,decide_true,w50T2,mS_get,hil,hc,go_sem,Nat.reduceEqDiff,Nat.reduceAdd,Nat.reduceLT,Nat.reduceLeDiff,reduceIte,reduceCtorEq]
    refine W_view [] [(7,.sl false false (mS C)),(8,I u),(9,I h),(10,I k),(12,.rp [.sl false false (mI c)]),(19,.sl false false (mS l)),(20,I l.length),(21,I i)] [] (Wk.mk0 rfl (by simp [imgs]) (by simp [hle]) (by simp [fle,vle,vle.vleL,Fr.get,mS_bnd,mI_bnd,AVal.bnd,bndL,imgs])) ?_
    simp only [go_sem,Nat.reduceEqDiff,Nat.reduceAdd,Nat.reduceLT,Nat.reduceLeDiff,reduceIte,reduceCtorEq]
    refine CallK.by (CallV.of_spec (s65 false false C (.fn (.func 75) [] [.rp [.sl false false (mI c)]]) (fun x => x == c) (fun x hx => CallV.of_spec (first := []) (s75 x c (by have := (hCir x hx).len; omega))) (fun H => by simp [vle,vle.vleL,bndL,AVal.bnd,mI_bnd]) (by omega))) fun v H' ⟨h1,h2⟩ => ?_
    subst h1 h2
    have hstep : chkG C (c :: l.drop (i + 1)) (some (u,h,k)) = chkG C (l.drop (i + 1)) (stepC C (some (u,h,k)) c) := rfl
    rw [hstep,stepC] at hm
    obtain ⟨hj1,hj2⟩ := Sp.idx_lt (fun x => x == c) C
    have hfound : 0 ≤ Sp.idx (fun x => x == c) C → c ∈ C := fun h => by
      obtain ⟨i,x,-,hx,hp,-⟩ := idx_at2 h
      have : x = c := by simpa using hp
      subst this
      exact List.mem_of_getElem? hx
    generalize Sp.idx (fun x => x == c) C = j at hm hj1 hj2 hfound ⊢
    by_cases hjk : j ≤ k
    · rw [if_pos hjk,chkG_none] at hm
      simp only [decide_eq_true,hjk,go_sem,Nat.reduceEqDiff,Nat.reduceAdd,Nat.reduceLT,Nat.reduceLeDiff,reduceIte,reduceCtorEq]
      exact leaf3 (.tup [I 0,B false,I 0]) ⟨rfl,rfl,rfl,trivial⟩ ⟨rfl,by rw [← hm]⟩
    rw [if_neg hjk] at hm
    have hcC := hfound (by omega)
    have hcl := (hCir c hcC).len
    have e74 := fun H => liftV (s74 false false c (by omega) fun x hx => ((hCir c hcC).nat x hx).1) (by simp [bndL,AVal.bnd,mI_bnd]) rfl H
    simp only [decide_eq_false,hjk,go_sem,Nat.reduceEqDiff,Nat.reduceAdd,Nat.reduceLT,Nat.reduceLeDiff,reduceIte,reduceCtorEq]
    refine CallK.pure (e74 _) ?_
    by_cases hz2 : and2 (setL c) u = 0
    · have dz : (bitsI .and .i64 (setL c) u != 0) = false := by rw [show bitsI .and .i64 (setL c) u = 0 from hz2]; rfl
      rw [if_pos hz2] at hm
      have hw : IntKind.i64.wrap ((h : Int) + c.length) = ((h + c.length : Nat) : Int) := by rw [wrap64 (by omega) (by omega)]; omega
      simp only [dz,w50T3,go_sem,Nat.reduceEqDiff,Nat.reduceAdd,Nat.reduceLT,Nat.reduceLeDiff,reduceIte,reduceCtorEq]
      refine CallK.pure (e74 _) ?_
      simp only [w50T4,hwk,hw,go_sem,Nat.reduceEqDiff,Nat.reduceAdd,Nat.reduceLT,Nat.reduceLeDiff,reduceIte,reduceCtorEq]
      refine round0 rfl ⟨(i + 1,Sp.orI u (setL c),h + c.length,j),hil,hm,by dsimp only; omega,hj2,by dsimp only; omega⟩ (by dsimp only; omega) rfl ?_
      simp [fle,vle,Fr.get,mS_bnd,Sp.orI]
    · have dz : (bitsI .and .i64 (setL c) u != 0) = true := by rw [bne_iff_ne]; exact hz2
      rw [if_neg hz2,chkG_none] at hm
      simp only [dz,go_sem,Nat.reduceEqDiff,Nat.reduceAdd,Nat.reduceLT,Nat.reduceLeDiff,reduceIte,reduceCtorEq]
      exact leaf3 (.tup [I 0,B false,I 0]) ⟨rfl,rfl,rfl,trivial⟩ ⟨rfl,by rw [← hm]⟩
open Go.Abs AVal
def fn72v : AVal := .fn (.func 72) [] [.ptr 3 0,.ptr 2 0,.ptr 1 0,.ptr 0 0,.ptr 4 0]
theorem base6 {r : List (Option Nat)} : ∀ i,i < 6 → ((some 0 :: some 1 :: some 2 :: some 3 :: some 4 :: some 5 :: r : List (Option Nat))[i]?).join = some i := fun i hi => by
  rcases i with _ | _ | _ | _ | _ | _ | i
  all_goals first | rfl | omega
theorem leafB6 {t : Nat} {e : Ex} {fr : Fr} {H : AHeap} {R : AVal → AHeap → Prop} (v : AVal) (H2 : AHeap) (ρ : List (Option Nat)) (hw : Wk 6 [] ρ [(0,fr.get t)] H [(0,v)] H2) (hR : R v H2) (he : e = .norm ∨ e = .ret := by simp) : retA 6 [.tmp t] R e fr H [] :=
  ⟨he,by simp only [killM,resL,resA]; exact ⟨⟨trivial,trivial⟩,ρ,v,H2,hw,hR⟩⟩
theorem leafB60 {e : Ex} {fr : Fr} {H : AHeap} {R : AVal → AHeap → Prop} (H2 : AHeap) (ρ : List (Option Nat)) (hw : Wk 6 [] ρ [(0,.tup [])] H [(0,.tup [])] H2) (hR : R (.tup []) H2) (he : e = .norm ∨ e = .ret := by simp) : retA 6 [] R e fr H [] := by
  refine ⟨he,?_⟩
  simp only [killM,resL]
  exact ⟨trivial,ρ,.tup [],H2,hw,hR⟩
def Hn (C b : List (List Int)) (j n t : Nat) (r : AHeap) : AHeap := .cells [.sl false false (mS C)] :: .cells [.sl false false (mS b)] :: .cells [.own j 0 n n 1] :: .cells [I t] :: .cells [fn72v] :: r
theorem s73g (C b now E : List (List Int)) (t : Nat) (h1 : 1 ≤ now.length) (hE : E.take now.length = now) (hl : now.length ≤ 1000) :
    Abs.Spec Try.prog 73 [.own 5 0 now.length now.length 1] (Hn C b 5 now.length t [.cells (mS E)]) fun v H' => v = .own 6 0 now.length now.length 1 ∧ H' = Hn C b 5 now.length t [.cells (mS E),.cells (mS now)] := by
  refine Abs.Spec.walk mixed fn73 nn73 t73 q73 nt73 (by simp) ?_
  have hEl : now.length ≤ E.length := by rw [← hE,List.length_take]; omega
  have h0 : ¬ now.length ≤ 0 := by omega
  simp only [w73,h0,hE,Hn,go_sem,Nat.reduceEqDiff,Nat.reduceAdd,Nat.reduceLT,Nat.reduceLeDiff,reduceIte,reduceCtorEq]
  refine ⟨h1,⟨hEl,by omega⟩,?_⟩
  refine leafB6 (.own 6 0 now.length now.length 1) _ [some 0,some 1,some 2,some 3,some 4,some 5,some 7] ⟨rfl,base6,by simp [imgs,Blk.alive],by simp [hle,csle,vle,vle.vleL,fn72v,mS_bnd,bndL,AVal.bnd],by simp [fle,vle,Fr.get],fun m hm => by cases hm⟩ ⟨rfl,rfl⟩
theorem s72 (C : List (List Int)) (hCl : C.length ≤ 252) (hC3 : ∀ c ∈ C,2 ≤ c.length ∧ c.length ≤ 3) (hC0 : ∀ c ∈ C,∀ x ∈ c,0 ≤ x) : ∀ (m p : Nat) (u : Int) (h t : Nat) (now E b : List (List Int)),p + m = C.length → h ≤ 3 * p → (now = [] → h = 0) → now.length ≤ p → E.take now.length = now → 
    Abs.Spec Try.prog 72 [I p,I u,I h,.ptr 3 0,.ptr 2 0,.ptr 1 0,.ptr 0 0,.ptr 4 0] (Hn C b 5 now.length t [.cells (mS E)]) fun v H' => v = .tup [] ∧ ∃ E' : List (List Int),E'.take now.length = now ∧ H' = Hn C (loopR (C.drop p) u now h (bump now h (b,t))).1 6 now.length (loopR (C.drop p) u now h (bump now h (b,t))).2 [.dead,.cells (mS E')]
  | m,p,u,h,t,now,E,b,hp,hh,hn0,hnl,hE => by
    refine Abs.Spec.walk mixed fn72 nn72 t72 q72 nt72 (by simp) ?_
    have hEl : now.length ≤ E.length := by rw [← hE,List.length_take]; omega
    have tail : ∀ (fr : Fr) (H : AHeap) (st : List (List Int) × Nat),(∃ ρ,Wk 6 [] ρ fr H [(1,I u),(2,I h),(4,.ptr 2 0),(6,.ptr 0 0),(7,.ptr 4 0),(11,I p)] (Hn C st.1 6 now.length st.2 [.dead,.cells (mS E)])) → bump now h (b,t) = st → 
        W ⟨Try.prog,6,61,true⟩ (retA 6 r72 fun v H' => v = .tup [] ∧ ∃ E' : List (List Int),E'.take now.length = now ∧ H' = Hn C (loopR (C.drop p) u now h (bump now h (b,t))).1 6 now.length (loopR (C.drop p) u now h (bump now h (b,t))).2 [.dead,.cells (mS E')]) (.block 0 (.loop c72L1)) [] fr H [] := by
      rintro fr H st ⟨ρ,hw⟩ hst
      rw [hst]
      rw [W_block]
      refine W_loop (fun q : { q : Nat × (List (List Int) × Nat) × List (List Int) // p ≤ q.1 ∧ q.1 ≤ C.length ∧ q.2.2.take now.length = now ∧ loopR (C.drop q.1) u now h q.2.1 = loopR (C.drop p) u now h st } => ([(1,I u),(2,I h),(4,.ptr 2 0),(6,.ptr 0 0),(7,.ptr 4 0),(11,I q.1.1)],Hn C q.1.2.1.1 6 now.length q.1.2.1.2 [.dead,.cells (mS q.1.2.2)])) (fun q => C.length - q.1.1) ⟨(p,st,E),Nat.le_refl _,by dsimp only; omega,hE,rfl⟩ ρ hw ?_
      rintro ⟨⟨i,⟨b,t⟩,E⟩,hpi,hiC,hE,hinv⟩
      dsimp only at hpi hiC hE hinv ⊢
      have hEl : now.length ≤ E.length := by rw [← hE,List.length_take]; omega
      by_cases hil : i < C.length
      rotate_left
      · have d1 : ¬ (i : Int) < C.length := by omega
        obtain rfl : i = C.length := by omega
        rw [List.drop_length,loopR] at hinv
        simp only [w72L1,Hn,d1,decide_false,go_sem,Nat.reduceEqDiff,Nat.reduceAdd,Nat.reduceLT,Nat.reduceLeDiff,reduceIte,reduceCtorEq]
        refine leafB60 (Hn C b 6 now.length t [.dead,.cells (mS E)]) [some 0,some 1,some 2,some 3,some 4,some 5,some 6] ⟨rfl,base6,by simp [imgs,Blk.alive,Hn],by simp [hle,csle,vle,vle.vleL,fn72v,mS_bnd,bndL,AVal.bnd,imgs,Blk.alive,Hn],by simp [fle,vle,vle.vleL,Fr.get],fun m hm => by cases hm⟩ ⟨rfl,E,hE,by rw [← hinv]; rfl⟩
      have d1 : (i : Int) < C.length := by omega
      have hwk : IntKind.i64.wrap ((i : Int) + 1) = ((i + 1 : Nat) : Int) := by rw [wrap64 (by omega) (by omega)]; rfl
      obtain ⟨c,hc⟩ : ∃ c,C.getD i [] = c := ⟨_,rfl⟩
      have hc' : C[i] = c := by rw [← hc,List.getD_eq_getElem?_getD,List.getElem?_eq_getElem hil]; rfl
      have hcC : c ∈ C := by rw [← hc']; exact List.getElem_mem _
      have hc3 := hC3 c hcC
      have hd : C.drop i = c :: C.drop (i + 1) := by rw [List.drop_eq_getElem_cons hil,hc']
      have e74 := fun H => liftV (s74 false false c (by omega) (hC0 c hcC)) (by simp [bndL,AVal.bnd,mI_bnd]) rfl H
      rw [hd,loopR] at hinv
      simp only [w72L1,Hn,d1,decide_true,w72T2,mS_get,hil,hc,go_sem,Nat.reduceEqDiff,Nat.reduceAdd,Nat.reduceLT,Nat.reduceLeDiff,reduceIte,reduceCtorEq]
      refine CallK.pure (e74 _) ?_
      by_cases hz : and2 (setL c) u = 0
      rotate_left
      · have dz : (bitsI .and .i64 (setL c) u == 0) = false := by rw [beq_eq_false_iff_ne]; exact hz
        rw [if_neg hz] at hinv
        simp only [dz,w72T3,hwk,go_sem,Nat.reduceEqDiff,Nat.reduceAdd,Nat.reduceLT,Nat.reduceLeDiff,reduceIte,reduceCtorEq]
        exact KQ_round rfl ⟨(i + 1,(b,t),E),by dsimp only; omega,hil,hE,hinv⟩ [some 0,some 1,some 2,some 3,some 4,some 5,some 6] (by dsimp only; omega) ⟨rfl,base6,by simp [imgs,Blk.alive],by simp [hle,csle,vle,vle.vleL,fn72v,mS_bnd,bndL,AVal.bnd,imgs,Blk.alive],by simp [fle,vle,Fr.get,imgs,Blk.alive],fun m hm => by cases hm⟩
      have dz : (bitsI .and .i64 (setL c) u == 0) = true := by rw [show bitsI .and .i64 (setL c) u = 0 from hz]; rfl
      rw [if_pos hz] at hinv
      have hw2 : IntKind.i64.wrap ((h : Int) + c.length) = ((h + c.length : Nat) : Int) := by rw [wrap64 (by omega) (by omega)]; omega
      simp only [dz,mS_get,hil,hc,hwk,hw2,go_sem,Nat.reduceEqDiff,Nat.reduceAdd,Nat.reduceLT,Nat.reduceLeDiff,reduceIte,reduceCtorEq]
      refine ⟨d1,⟨hEl,by omega⟩,d1,?_⟩
      have hnc : (now ++ [c]).length = now.length + 1 := by rw [List.length_append]; rfl
      have hms : mS (E.take now.length) ++ [.sl false false (mI c)] = mS (now ++ [c]) := by rw [hE,← mS_append]; rfl
      rw [hms]
      have ih := s72 C hCl hC3 hC0 (C.length - (i + 1)) (i + 1) (Sp.orI u (setL c)) (h + c.length) t (now ++ [c]) (now ++ [c]) b (by omega) (by omega) (fun e => by simp at e) (by omega) (List.take_length)
      generalize hst' : loopR (C.drop (i + 1)) (Sp.orI u (setL c)) (now ++ [c]) (h + c.length) (bump (now ++ [c]) (h + c.length) (b,t)) = st' at ih hinv
      refine CallKD.by (R := fun v H' => v = .tup [] ∧ ∃ E' : List (List Int),E'.take (now ++ [c]).length = now ++ [c] ∧ H' = Hn C st'.1 9 (now.length + 1) st'.2 [.dead,.dead,.dead,.dead,.cells (mS E')]) (CallV.of_spec (Spec.renum (ρ := [some 0,some 1,some 2,some 3,some 4,some 8]) ih rfl (Wk.mk0 rfl (by simp [imgs,Blk.alive,Hn]) (by simp [hle,csle,vle,vle.vleL,fn72v,mS_bnd,bndL,AVal.bnd,imgs,Blk.alive,Hn]) (by simp [fle,vle,Fr.get,imgs,Blk.alive,Hn,entryFr,Sp.orI])) ?_)) ?_
      · rintro v H2 ⟨rfl,E',hE',rfl⟩
        refine ⟨[some 0,some 1,some 2,some 3,some 4,some 12,some 13,some 14,some 15,some 6],.tup [],_,Wk.mk0 rfl ?_ ?_ ?_,⟨rfl,E',hE',rfl⟩,?_,?_⟩
        · simp [imgs,Blk.alive,Hn]
        · simp [hle,csle,vle,vle.vleL,fn72v,mS_bnd,bndL,AVal.bnd,imgs,Blk.alive,Hn]
        · simp [fle,vle,vle.vleL,Fr.get]
        · simp [Hn]
        · intro k hk
          rw [show (List.length _) = 9 from rfl] at hk
          rcases k with _ | _ | _ | _ | _ | _ | _ | _ | _ | k
          all_goals first | exact .inl rfl | exact .inr ⟨_,rfl,by simp [Hn],rfl⟩ | omega
      · rintro v H' ⟨rfl,E',hE',rfl⟩
        have hE2 : E'.take now.length = now := by
          have := congrArg (List.take now.length) hE'
          rwa [List.take_take,List.take_left,hnc,Nat.min_eq_left (by omega)] at this
        have hw3 : IntKind.i64.wrap (((now.length + 1 : Nat) : Int) - 1) = (now.length : Int) := by rw [wrap64 (by omega) (by omega)]; omega
        simp only [Hn,hw3,w72T3,hwk,go_sem,Nat.reduceEqDiff,Nat.reduceAdd,Nat.reduceLT,Nat.reduceLeDiff,reduceIte,reduceCtorEq]
        exact ⟨⟨by omega,by omega,.inl trivial⟩,KQ_round rfl ⟨(i + 1,st',E'),by dsimp only; omega,hil,hE2,hinv⟩ [some 0,some 1,some 2,some 3,some 4,some 5,some 9] (by dsimp only; omega) ⟨rfl,base6,by simp [imgs,Blk.alive],by simp [hle,csle,vle,vle.vleL,fn72v,mS_bnd,bndL,AVal.bnd,imgs,Blk.alive],by simp [fle,vle,Fr.get,imgs,Blk.alive],fun m hm => by cases hm⟩⟩
    simp only [w72,Hn,go_sem,Nat.reduceEqDiff,Nat.reduceAdd,Nat.reduceLT,Nat.reduceLeDiff,reduceIte,reduceCtorEq]
    refine IC.splitP (fun hb => ?_) fun hb => ?_
    · have hnow : 1 ≤ now.length := by
        rcases now with _ | ⟨x,now⟩
        · have := hn0 rfl; omega
        · simp
      simp only [go_sem,Nat.reduceEqDiff,Nat.reduceAdd,Nat.reduceLT,Nat.reduceLeDiff,reduceIte,reduceCtorEq]
      refine CallK.by (CallV.of_spec (first := []) (s73g C b now E t hnow hE (by omega))) fun v H' ⟨e1,e2⟩ => ?_
      subst e1 e2
      simp only [Hn,w72T0,go_sem,Nat.reduceEqDiff,Nat.reduceAdd,Nat.reduceLT,Nat.reduceLeDiff,reduceIte,reduceCtorEq]
      refine tail _ _ (now,h) ⟨[some 0,some 1,some 2,some 3,some 4,some 5,some 5],rfl,base6,by simp [imgs,Blk.alive,Hn],?_,?_,fun m hm => by cases hm⟩ (by unfold bump; rw [if_pos (by dsimp only; omega)])
      · simp [hle,csle,vle,vle.vleL,fn72v,mS_bnd,bndL,AVal.bnd,Hn,imgs,Blk.alive,mS_length,mS_sz,mS_cells,List.take_of_length_le]
      · simp [fle,vle,Fr.get,imgs,Blk.alive,Hn]
    · simp only [w72T0,go_sem,Nat.reduceEqDiff,Nat.reduceAdd,Nat.reduceLT,Nat.reduceLeDiff,reduceIte,reduceCtorEq]
      refine tail _ _ (b,t) ⟨[some 0,some 1,some 2,some 3,some 4,some 5,some 5],rfl,base6,by simp [imgs,Blk.alive,Hn],?_,?_,fun m hm => by cases hm⟩ (by unfold bump; rw [if_neg (by dsimp only; omega)])
      · simp [hle,csle,vle,vle.vleL,fn72v,mS_bnd,bndL,AVal.bnd,Hn,imgs,Blk.alive]
      · simp [fle,vle,Fr.get,imgs,Blk.alive,Hn]
theorem s48 (g : List Int) (hl : g.length < 9223372036854775808) : Abs.Spec Try.prog 48 [.sl false false (mI g)] [] fun v H' => H' = [] ∧ v = if netV g then .tup [.sl false false (mS (swapsA (circs g)).1),I 0] else .tup [.sl false false (mS []),I 2] := by
  refine Abs.Spec.walk mixed fn48 nn48 t48 q48 nt48 (by simp) ?_
  simp only [w48,go_sem,Nat.reduceEqDiff,Nat.reduceAdd,Nat.reduceLT,Nat.reduceLeDiff,reduceIte,reduceCtorEq]
  refine CallK.by (CallV.of_spec (s70 false false g hl)) fun v H' ⟨h1,h2⟩ => ?_
  subst h1 h2
  cases hv : netV g with
  | false =>
    simp only [go_sem,Nat.reduceEqDiff,Nat.reduceAdd,Nat.reduceLT,Nat.reduceLeDiff,reduceIte,reduceCtorEq]
    exact leaf2 (.tup [.sl false false (mS []),I 2]) ⟨⟨mS_bnd,rfl,rfl⟩,rfl,trivial⟩ ⟨rfl,rfl⟩
  | true =>
    have h6 := (netV_len hv).2
    simp only [w48T0,go_sem,Nat.reduceEqDiff,Nat.reduceAdd,Nat.reduceLT,Nat.reduceLeDiff,reduceIte,reduceCtorEq]
    refine CallK.by (CallV.of_spec (s71 g h6)) fun v H' ⟨h1,h2⟩ => ?_
    subst h1 h2
    have hCl := circs_len h6
    have hCir : ∀ x ∈ circs g,Cir g x := fun x hx => circs_mem.1 hx
    generalize circs g = C at hCl hCir ⊢
    have ih := s72 C hCl (fun c hc => (hCir c hc).len) (fun c hc x hx => ((hCir c hc).nat x hx).1) C.length 0 0 0 0 [] [] [] (by omega) (by omega) (fun _ => rfl) (by simp) rfl
    have hb : bump [] 0 (([],0) : List (List Int) × Nat) = ([],0) := rfl
    rw [hb,List.drop_zero] at ih
    have hA : loopR C 0 [] 0 ([],0) = swapsA C := rfl
    rw [hA] at ih
    simp only [go_sem,Nat.reduceEqDiff,Nat.reduceAdd,Nat.reduceLT,Nat.reduceLeDiff,reduceIte,reduceCtorEq]
    refine CallK.by (R := fun v H' => v = .tup [] ∧ ∃ E' : List (List Int),H' = Hn C (swapsA C).1 5 0 (swapsA C).2 [.cells (mS E')]) (CallV.of_spec (Spec.renum (ρ := [some 0,some 1,some 2,some 3,some 4,none]) ih rfl (Wk.mk0 rfl (by simp [imgs,Blk.alive,Hn]) (by simp [hle,csle,vle,vle.vleL,fn72v,mS_bnd,mS_nil,bndL,AVal.bnd,imgs,Blk.alive,Hn]) (by simp [fle,vle,Fr.get,imgs,Blk.alive,Hn,entryFr])) ?_)) ?_
    · rintro v H2 ⟨rfl,E',hE',rfl⟩
      refine ⟨[some 0,some 1,some 2,some 3,some 4,some 6],.tup [],_,Wk.mk0 rfl ?_ ?_ ?_,⟨rfl,E',rfl⟩,?_,?_⟩
      · simp [imgs,Blk.alive,Hn]
      · simp [hle,csle,vle,vle.vleL,fn72v,mS_bnd,bndL,AVal.bnd,imgs,Blk.alive,Hn]
      · simp [fle,vle,vle.vleL,Fr.get]
      · simp [Hn]
      · intro k hk
        rw [show (List.length _) = 5 from rfl] at hk
        rcases k with _ | _ | _ | _ | _ | k
        all_goals first | exact .inr ⟨_,rfl,by simp [Hn],rfl⟩ | omega
    · rintro v H' ⟨rfl,E',rfl⟩
      simp only [Hn,go_sem,Nat.reduceEqDiff,Nat.reduceAdd,Nat.reduceLT,Nat.reduceLeDiff,reduceIte,reduceCtorEq]
      exact leaf2 (.tup [.sl false false (mS (swapsA C).1),I 0]) ⟨⟨mS_bnd,fun h => (by cases h),fun h => (by cases h),rfl⟩,rfl,trivial⟩ ⟨rfl,rfl⟩
open Go.Abs AVal
set_option maxRecDepth 100000 in
theorem add_dec : ∀ u : Nat,u < 64 → ∀ m : Nat,m < 64 → and2 m u = 0 → Sp.pc (Sp.orI u m) = Sp.pc u + Sp.pc m ∧ 0 ≤ Sp.orI u m ∧ Sp.orI u m < 64 := by decide +kernel
theorem pc_add {u m : Int} (hu : Sp.isSet u) (hm : Sp.isSet m) (h : and2 m u = 0) : Sp.pc (Sp.orI u m) = Sp.pc u + Sp.pc m ∧ Sp.isSet (Sp.orI u m) := by
  have := add_dec u.toNat (by have := hu.1; have := hu.2; omega) m.toNat (by have := hm.1; have := hm.2; omega)
  rw [Int.toNat_of_nonneg hu.1,Int.toNat_of_nonneg hm.1] at this
  exact this h
theorem pc_six {u : Int} (hu : Sp.isSet u) : Sp.pc u ≤ 6 := by
  unfold Sp.pc
  have := List.countP_le_length (p := fun j => Sp.has u j) (l := List.range 6)
  simpa using this
set_option maxRecDepth 100000 in
theorem two_dec : ∀ a : Nat,a < 6 → ∀ b : Nat,b < 6 → a ≠ b → Sp.pc (setL [(a : Int),b]) = 2 ∧ 0 ≤ setL [(a : Int),b] ∧ setL [(a : Int),b] < 64 := by decide +kernel
set_option synthInstance.maxSize 2000 in
set_option synthInstance.maxHeartbeats 400000 in
set_option maxRecDepth 100000 in
theorem three_dec : ∀ a : Nat,a < 6 → ∀ b : Nat,b < 6 → ∀ c : Nat,c < 6 → (a ≠ b ∧ a ≠ c ∧ b ≠ c) → Sp.pc (setL [(a : Int),b,c]) = 3 ∧ 0 ≤ setL [(a : Int),b,c] ∧ setL [(a : Int),b,c] < 64 := by decide +kernel
theorem Cir.set {g x : List Int} (h6 : g.length ≤ 6) (h : Cir g x) : Sp.pc (setL x) = x.length ∧ Sp.isSet (setL x) := by
  rcases h with ⟨a,b,h1,h2,-,-,rfl⟩ | ⟨a,b,c,h1,h2,h3,h4,h5,-,-,-,rfl⟩
  · exact two_dec a (by omega) b (by omega) (by omega)
  · exact three_dec a (by omega) b (by omega) c (by omega) ⟨by omega,by omega,by omega⟩
theorem chk_set {g : List Int} (h6 : g.length ≤ 6) : ∀ (l : List (List Int)) {u u' : Int} {h h' : Nat} {k k' : Int},Sp.isSet u → Sp.pc u = h → -1 ≤ k → chkG (circs g) l (some (u,h,k)) = some (u',h',k') → Sp.isSet u' ∧ Sp.pc u' = h' ∧ h + 2 * l.length ≤ h' ∧ ∀ c ∈ l,Cir g c
  | [],u,u',h,h',k,k',hu,hp,_,e => by
    have : (u,h,k) = (u',h',k') := Option.some.inj e
    simp at this
    obtain ⟨rfl,rfl,rfl⟩ := this
    exact ⟨hu,hp,by simp,by simp⟩
  | c :: l,u,u',h,h',k,k',hu,hp,hk,e => by
    have e' : chkG (circs g) l (stepC (circs g) (some (u,h,k)) c) = some (u',h',k') := e
    unfold stepC at e'
    dsimp only at e'
    split at e'
    · rw [chkG_none] at e'; cases e'
    · rename_i h1
      split at e'
      · rename_i h2
        obtain ⟨i,x,hi,hx,hp',-⟩ := idx_at2 (p := fun x => x == c) (xs := circs g) (by omega)
        have hxc : x = c := by simpa using hp'
        subst hxc
        have hc := circs_mem.1 (List.mem_of_getElem? hx)
        obtain ⟨p1,p2⟩ := hc.set h6
        obtain ⟨q1,q2⟩ := pc_add hu p2 h2
        have hl := hc.len
        obtain ⟨r1,r2,r3,r4⟩ := chk_set h6 l q2 (by rw [q1,hp,p1]) (by omega) e'
        refine ⟨r1,r2,by rw [List.length_cons]; omega,fun y hy => ?_⟩
        rcases List.mem_cons.1 hy with rfl | hy
        · exact hc
        · exact r4 y hy
      · rw [chkG_none] at e'; cases e'
theorem chk_small {g : List Int} (h6 : g.length ≤ 6) {l : List (List Int)} {u : Int} {h : Nat} {k : Int} (e : chk (circs g) l = some (u,h,k)) : h ≤ 6 ∧ 2 * l.length ≤ h ∧ ∀ c ∈ l,Cir g c := by
  obtain ⟨r1,r2,r3,r4⟩ := chk_set h6 l (u := 0) (h := 0) (k := -1) ⟨by omega,by omega⟩ rfl (by omega) e
  have := pc_six r1
  exact ⟨by omega,by omega,r4⟩
theorem table_of {l : List (List Int)} (h : l.length ≤ 9) (h2 : ∀ c ∈ l,c.length ≤ 9) : Sp.table l = l := by
  unfold Sp.table
  rw [List.take_of_length_le h]
  conv => rhs; rw [← List.map_id l]
  exact List.map_congr_left fun c hc => List.take_of_length_le (h2 c hc)
theorem netV_take (g : List Int) : netV (g.take 9) = netV g := by
  by_cases h : g.length ≤ 9
  · rw [List.take_of_length_le h]
  · unfold netV
    rw [decide_eq_false (show ¬ g.length ≤ 6 by omega),decide_eq_false (show ¬ (g.take 9).length ≤ 6 by rw [List.length_take]; omega)]
    simp
theorem netV_at {g : List Int} (h : netV g = true) {k : Nat} (hk : k < g.length) : 0 ≤ g.getD k 0 ∧ g.getD k 0 < (2 ^ g.length : Nat) ∧ hp g k k = false ∧ Sp.isSet (g.getD k 0) := by
  have h6 := (netV_len h).2
  unfold netV at h
  simp only [Bool.and_eq_true,List.all_eq_true,List.mem_range] at h
  have := h.2.2 k hk
  unfold netAt at this
  simp only [Bool.and_eq_true,decide_eq_true_eq,Bool.not_eq_true'] at this
  have h64 := (two_pow6 h6).2.1
  exact ⟨this.1,this.2.1,this.2.2,this.1,by omega⟩
set_option maxHeartbeats 1000000 in
theorem s49 (nn t : Bool) (g : List Int) (hl : g.length < 9223372036854775808) : Abs.Spec Try.prog 49 [.sl nn t (mI g)] [] fun v H' => H' = [] ∧ v = B (netV g) := by
  refine Abs.Spec.walk mixed fn49 nn49 t49 q49 nt49 (by simp) ?_
  have hV : g.length ≤ 6 → 1 ≤ g.length → netV g = (List.range g.length).all (netAt g) := fun h h1 => by unfold netV; rw [decide_eq_true h,decide_eq_true h1]; rfl
  have hF : ¬ g.length ≤ 6 → netV g = false := fun h => by unfold netV; rw [decide_eq_false h]; simp
  simp only [w49,go_sem,Nat.reduceEqDiff,Nat.reduceAdd,Nat.reduceLT,Nat.reduceLeDiff,reduceIte,reduceCtorEq]
  refine W_loop (fun q : { i : Nat // i ≤ g.length ∧ (g.length ≤ 6 → (List.range i).all (netAt g) = true) } => ([(0,.sl nn t (mI g)),(5,.sl nn t (mI g)),(6,I g.length),(7,I q.1)],[])) (fun q => g.length - q.1) ⟨0,by omega,fun _ => rfl⟩ [] (Wk.nil (by simp [fle,vle,Fr.get,mI_bnd])) ?_
  rintro ⟨i,hi,hinv⟩
  dsimp only
  by_cases hil : i < g.length
  · have d3 : (i : Int) < g.length := by omega
    have hwk : IntKind.i64.wrap ((i : Int) + 1) = ((i + 1 : Nat) : Int) := by rw [wrap64 (by omega) (by omega)]; rfl
    obtain ⟨x,hx⟩ : ∃ x,g.getD i 0 = x := ⟨_,rfl⟩
    have hat : netAt g i = (decide (0 ≤ x) && (decide (x < (2 ^ g.length : Nat)) && !Sp.has x i)) := by unfold netAt hp; rw [hx]
    have bad : (g.length ≤ 6 → netAt g i = false) → netV g = false := fun h => by
      by_cases h6 : g.length ≤ 6
      · rw [hV h6 (by omega)]; exact all_bad hil (h h6)
      · exact hF h6
    obtain ⟨M,hM⟩ : ∃ M,IntKind.i64.wrap (1 * 2 ^ min g.length 64) = M := ⟨_,rfl⟩
    have hM6 : g.length ≤ 6 → M = ((2 ^ g.length : Nat) : Int) := fun h => by rw [← hM]; exact (two_pow6 h).2.2
    by_cases x0 : x < 0
    · have e1 : decide (x < 0) = true := decide_eq_true x0
      simp only [w49L0,d3,decide_true,mI_get,hil,hx,mI_hd,e1,go_sem,Nat.reduceEqDiff,Nat.reduceAdd,Nat.reduceLT,Nat.reduceLeDiff,reduceIte,reduceCtorEq]
      exact leaf (B false) rfl ⟨rfl,by rw [bad fun _ => by rw [hat,decide_eq_false (by omega)]; rfl]⟩
    have e1 : decide (x < 0) = false := decide_eq_false x0
    by_cases x1 : x ≥ M
    · have e2 : decide (x ≥ M) = true := decide_eq_true x1
      simp only [w49L0,d3,decide_true,mI_get,hil,hx,mI_hd,e1,hM,e2,go_sem,Nat.reduceEqDiff,Nat.reduceAdd,Nat.reduceLT,Nat.reduceLeDiff,reduceIte,reduceCtorEq]
      repeat (refine ⟨by omega,?_⟩)
      exact leaf (B false) rfl ⟨rfl,by rw [bad fun h => by have := hM6 h; rw [hat,decide_eq_false (show ¬ x < _ by omega)]; simp]⟩
    have e2 : decide (x ≥ M) = false := decide_eq_false x1
    have eb : (bitsI .and .i64 (x.fdiv (2 ^ min i 64)) 1 == 1) = Sp.has x i := rfl
    cases hh : Sp.has x i with
    | true =>
      rw [hh] at eb
      simp only [w49L0,d3,decide_true,mI_get,hil,hx,mI_hd,e1,hM,e2,eb,go_sem,Nat.reduceEqDiff,Nat.reduceAdd,Nat.reduceLT,Nat.reduceLeDiff,reduceIte,reduceCtorEq]
      repeat (refine ⟨by omega,?_⟩)
      exact leaf (B false) rfl ⟨rfl,by rw [bad fun _ => by rw [hat,hh]; simp]⟩
    | false =>
      rw [hh] at eb
      simp only [w49L0,d3,decide_true,mI_get,hil,hx,mI_hd,e1,hM,e2,eb,hwk,go_sem,Nat.reduceEqDiff,Nat.reduceAdd,Nat.reduceLT,Nat.reduceLeDiff,reduceIte,reduceCtorEq]
      repeat (refine ⟨by omega,?_⟩)
      exact round0 rfl ⟨i + 1,hil,fun h => by have := hM6 h; rw [range_all_snoc,hinv h,hat,hh,decide_eq_true (by omega),decide_eq_true (by omega)]; rfl⟩ (by dsimp only; omega) rfl (by simp [fle,vle,Fr.get,mI_bnd])
  · have d3 : ¬ (i : Int) < g.length := by omega
    obtain rfl : i = g.length := by omega
    by_cases h1 : 1 ≤ g.length
    · have d1 : decide ((g.length : Int) ≥ 1) = true := decide_eq_true (by omega)
      by_cases h6 : g.length ≤ 6
      · have d6 : decide ((g.length : Int) ≤ 6) = true := decide_eq_true (by omega)
        simp only [w49L0,d3,decide_false,w49T1,d1,d6,go_sem,Nat.reduceEqDiff,Nat.reduceAdd,Nat.reduceLT,Nat.reduceLeDiff,reduceIte,reduceCtorEq]
        exact leaf (B true) rfl ⟨rfl,by rw [hV h6 h1,hinv h6]⟩
      · have d6 : decide ((g.length : Int) ≤ 6) = false := decide_eq_false (by omega)
        simp only [w49L0,d3,decide_false,w49T1,d1,d6,go_sem,Nat.reduceEqDiff,Nat.reduceAdd,Nat.reduceLT,Nat.reduceLeDiff,reduceIte,reduceCtorEq]
        exact leaf (B false) rfl ⟨rfl,by rw [hF h6]⟩
    · have d1 : decide ((g.length : Int) ≥ 1) = false := decide_eq_false (by omega)
      simp only [w49L0,d3,decide_false,w49T1,d1,go_sem,Nat.reduceEqDiff,Nat.reduceAdd,Nat.reduceLT,Nat.reduceLeDiff,reduceIte,reduceCtorEq]
      exact leaf (B false) rfl ⟨rfl,by unfold netV; rw [decide_eq_false (by omega)]; rfl⟩
open Go.Abs AVal
open Go.Abs AVal
def okA (g l : List Int) (k : Nat) : Bool := decide (0 ≤ l.getD k 0) && (decide (l.getD k 0 < g.length) && (decide (l.getD 0 0 ≤ l.getD k 0) && (!(decide (0 < k) && l.getD k 0 == l.getD 0 0) && !(k == 2 && l.getD k 0 == l.getD 1 0))))
def okB (g l : List Int) (k : Nat) : Bool := hp g (l.getD k 0).toNat (l.getD ((k + 1) % l.length) 0).toNat
def cirB (g l : List Int) : Bool := decide (2 ≤ l.length) && (decide (l.length ≤ 3) && ((List.range l.length).all (okA g l) && (List.range l.length).all (okB g l)))
theorem cirB_iff (g l : List Int) : cirB g l = true ↔ Cir g l := by
  constructor
  · intro h
    unfold cirB at h
    simp only [Bool.and_eq_true,decide_eq_true_eq] at h
    obtain ⟨h2,h3,hA,hB⟩ := h
    rcases l with _ | ⟨x,_ | ⟨y,_ | ⟨z,_ | ⟨w,l⟩⟩⟩⟩
    · simp at h2
    · simp at h2
    · simp [List.range_succ,okA,okB] at hA hB
      obtain ⟨a,rfl⟩ : ∃ a : Nat,x = a := ⟨x.toNat,by omega⟩
      obtain ⟨b,rfl⟩ : ∃ b : Nat,y = b := ⟨y.toNat,by omega⟩
      simp at hB
      exact .inl ⟨a,b,by omega,by omega,hB.1,hB.2,rfl⟩
    · simp [List.range_succ,okA,okB] at hA hB
      obtain ⟨a,rfl⟩ : ∃ a : Nat,x = a := ⟨x.toNat,by omega⟩
      obtain ⟨b,rfl⟩ : ∃ b : Nat,y = b := ⟨y.toNat,by omega⟩
      obtain ⟨c,rfl⟩ : ∃ c : Nat,z = c := ⟨z.toNat,by omega⟩
      simp at hB
      exact .inr ⟨a,b,c,by omega,by omega,by omega,by omega,by omega,hB.1,hB.2.1,hB.2.2,rfl⟩
    · simp at h3
  · rintro (⟨a,b,h1,h2,h3,h4,rfl⟩ | ⟨a,b,c,h1,h2,h3,h4,h5,h6,h7,h8,rfl⟩)
    · simp [cirB,List.range_succ,okA,okB,h3,h4]; try omega
    · simp [cirB,List.range_succ,okA,okB,h6,h7,h8]; try omega
theorem bit_not {m : Int} (hm : Sp.isSet m) {c : Nat} (hc : c < 6) : (bitsI .and .i64 (m.fdiv (2 ^ min c 64)) 1 == 0) = !Sp.has m c := by
  have := Sp.bit_zero_int hm (c := (c : Int)) (by omega) (by omega)
  exact this
set_option maxRecDepth 20000 in
set_option maxHeartbeats 4000000 in
theorem s76 (nn t nn' t' : Bool) (g l : List Int) (hv : netV g = true) (hl : l.length < 9223372036854775808) : Abs.Spec Try.prog 76 [.sl nn t (mI g),.sl nn' t' (mI l)] [] fun v H' => H' = [] ∧ v = B (cirB g l) := by
  obtain ⟨g1,g6⟩ := netV_len hv
  refine Abs.Spec.walk mixed fn76 nn76 t76 q76 nt76 (by simp) ?_
  by_cases l2 : l.length < 2
  · have d1 : decide ((l.length : Int) < 2) = true := decide_eq_true (by omega)
    simp only [w76,d1,go_sem,Nat.reduceEqDiff,Nat.reduceAdd,Nat.reduceLT,Nat.reduceLeDiff,reduceIte,reduceCtorEq]
    exact leaf (B false) rfl ⟨rfl,by unfold cirB; rw [decide_eq_false (by omega)]; rfl⟩
  have d1 : decide ((l.length : Int) < 2) = false := decide_eq_false (by omega)
  by_cases l3 : l.length > 3
  · have d2 : decide ((l.length : Int) > 3) = true := decide_eq_true (by omega)
    simp only [w76,d1,d2,go_sem,Nat.reduceEqDiff,Nat.reduceAdd,Nat.reduceLT,Nat.reduceLeDiff,reduceIte,reduceCtorEq]
    exact leaf (B false) rfl ⟨rfl,by unfold cirB; rw [decide_eq_false (show ¬ l.length ≤ 3 by omega)]; simp⟩
  have d2 : decide ((l.length : Int) > 3) = false := decide_eq_false (by omega)
  have hC : cirB g l = ((List.range l.length).all (okA g l) && (List.range l.length).all (okB g l)) := by unfold cirB; rw [decide_eq_true (by omega),decide_eq_true (by omega)]; rfl
  have hw : ∀ k : Nat,k ≤ 6 → IntKind.i64.wrap ((k : Int) + 1) = ((k + 1 : Nat) : Int) := fun k hk => by rw [wrap64 (by omega) (by omega)]; rfl
  simp only [w76,d1,d2,go_sem,Nat.reduceEqDiff,Nat.reduceAdd,Nat.reduceLT,Nat.reduceLeDiff,reduceIte,reduceCtorEq]
  refine W_loop (fun q : { i : Nat // i ≤ l.length ∧ (List.range i).all (okA g l) = true } => ([(0,.sl nn t (mI g)),(1,.sl nn' t' (mI l)),(17,.sl nn' t' (mI l)),(18,I l.length),(19,I q.1)],[])) (fun q => l.length - q.1) ⟨0,by omega,rfl⟩ [] (Wk.nil (by simp [fle,vle,Fr.get,mI_bnd])) ?_
  rintro ⟨i,hi,hinv⟩
  dsimp only
  have e0 : (0 : Int) < l.length := by omega
  have e0' : 0 < l.length := by omega
  have e1 : (1 : Int) < l.length := by omega
  have e1' : 1 < l.length := by omega
  obtain ⟨x0,hx0⟩ : ∃ x,l.getD 0 0 = x := ⟨_,rfl⟩
  obtain ⟨x1,hx1⟩ : ∃ x,l.getD 1 0 = x := ⟨_,rfl⟩
  by_cases hil : i < l.length
  · have d3 : (i : Int) < l.length := by omega
    have hwk := hw i (by omega)
    obtain ⟨x,hx⟩ : ∃ x,l.getD i 0 = x := ⟨_,rfl⟩
    have hat : okA g l i = (decide (0 ≤ x) && (decide (x < g.length) && (decide (x0 ≤ x) && (!(decide (0 < i) && x == x0) && !(i == 2 && x == x1))))) := by unfold okA; rw [hx,hx0,hx1]
    have bad : okA g l i = false → cirB g l = false := fun h => by rw [hC,all_bad hil h]; rfl
    obtain ⟨b4,h4⟩ : ∃ b,decide (0 < i) = b := ⟨_,rfl⟩
    obtain ⟨b6,h6⟩ : ∃ b,(i == 2) = b := ⟨_,rfl⟩
    have d4 : decide ((i : Int) > 0) = b4 := by rw [← h4]; exact decide_eq_decide.2 (by omega)
    have d6 : ((i : Int) == 2) = b6 := by rw [← h6,Bool.eq_iff_iff,beq_iff_eq,beq_iff_eq]; omega
    rw [h4,h6] at hat
    have good : okA g l i = true → (List.range (i + 1)).all (okA g l) = true := fun h => by rw [range_all_snoc,hinv,h]; rfl
    by_cases c1 : x < 0
    · simp only [w76L0,d3,decide_true,mI_get,hil,hx,mI_hd,decide_eq_true,c1,go_sem,Nat.reduceEqDiff,Nat.reduceAdd,Nat.reduceLT,Nat.reduceLeDiff,reduceIte,reduceCtorEq]
      exact leaf (B false) rfl ⟨rfl,by rw [bad (by rw [hat,decide_eq_false (by omega)]; rfl)]⟩
    have n1 := decide_eq_false c1
    by_cases c2 : x ≥ g.length
    · simp only [w76L0,d3,decide_true,mI_get,hil,hx,mI_hd,n1,decide_eq_true,c2,go_sem,Nat.reduceEqDiff,Nat.reduceAdd,Nat.reduceLT,Nat.reduceLeDiff,reduceIte,reduceCtorEq]
      exact leaf (B false) rfl ⟨rfl,by rw [bad (by rw [hat,decide_eq_false (show ¬ x < g.length by omega)]; simp)]⟩
    have n2 := decide_eq_false c2
    by_cases c3 : x < x0
    · simp only [w76L0,d3,decide_true,mI_get,hil,hx,mI_hd,n1,n2,hx0,e0,e0',decide_eq_true,c3,go_sem,Nat.reduceEqDiff,Nat.reduceAdd,Nat.reduceLT,Nat.reduceLeDiff,reduceIte,reduceCtorEq]
      exact ⟨Int.le_refl _,leaf (B false) rfl ⟨rfl,by rw [bad (by rw [hat,decide_eq_false (show ¬ x0 ≤ x by omega)]; simp)]⟩⟩
    have n3 := decide_eq_false c3
    have tn1 : Int.toNat 1 = 1 := rfl
    rw [decide_eq_true (show 0 ≤ x by omega),decide_eq_true (show x < g.length by omega),decide_eq_true (show x0 ≤ x by omega),Bool.true_and,Bool.true_and,Bool.true_and] at hat
    generalize hq5 : (x == x0) = b5 at hat
    generalize hq7 : (x == x1) = b7 at hat
    cases b4 <;> cases b5 <;> cases b6 <;> cases b7
    all_goals simp only [w76L0,d3,decide_true,mI_get,hil,hx,mI_hd,n1,n2,hx0,e0,e0',n3,hx1,e1,e1',d4,d6,hq5,hq7,hwk,tn1,go_sem,Nat.reduceEqDiff,Nat.reduceAdd,Nat.reduceLT,Nat.reduceLeDiff,reduceIte,reduceCtorEq]
    all_goals first
      | (exact leaf (B false) rfl ⟨rfl,by rw [bad hat]⟩)
      | (exact round0 rfl ⟨i + 1,hil,good hat⟩ (by dsimp only; omega) rfl (by simp [fle,vle,Fr.get,mI_bnd]))
      | (refine ⟨Int.le_refl _,?_⟩; exact leaf (B false) rfl ⟨rfl,by rw [bad hat]⟩)
      | (refine ⟨Int.le_refl _,?_⟩; exact round0 rfl ⟨i + 1,hil,good hat⟩ (by dsimp only; omega) rfl (by simp [fle,vle,Fr.get,mI_bnd]))
      | (refine ⟨Int.le_refl _,Int.le_refl _,?_⟩; exact leaf (B false) rfl ⟨rfl,by rw [bad hat]⟩)
      | (refine ⟨Int.le_refl _,Int.le_refl _,?_⟩; exact round0 rfl ⟨i + 1,hil,good hat⟩ (by dsimp only; omega) rfl (by simp [fle,vle,Fr.get,mI_bnd]))
      | (refine ⟨Int.le_refl _,by omega,?_⟩; exact leaf (B false) rfl ⟨rfl,by rw [bad hat]⟩)
      | (refine ⟨Int.le_refl _,by omega,?_⟩; exact round0 rfl ⟨i + 1,hil,good hat⟩ (by dsimp only; omega) rfl (by simp [fle,vle,Fr.get,mI_bnd]))
      | (refine ⟨Int.le_refl _,Int.le_refl _,by omega,?_⟩; exact leaf (B false) rfl ⟨rfl,by rw [bad hat]⟩)
      | (refine ⟨Int.le_refl _,Int.le_refl _,by omega,?_⟩; exact round0 rfl ⟨i + 1,hil,good hat⟩ (by dsimp only; omega) rfl (by simp [fle,vle,Fr.get,mI_bnd]))
      | (trace_state; sorry)
  · have d3 : ¬ (i : Int) < l.length := by omega
    obtain rfl : i = l.length := by omega
    have at1 : ∀ k,k < l.length → okA g l k = true := fun k hk => List.all_eq_true.1 hinv k (List.mem_range.2 hk)
    simp only [w76L0,d3,decide_false,w76T1,go_sem,Nat.reduceEqDiff,Nat.reduceAdd,Nat.reduceLT,Nat.reduceLeDiff,reduceIte,reduceCtorEq]
    refine W_loop (fun q : { i : Nat // i ≤ l.length ∧ (List.range i).all (okB g l) = true } => ([(0,.sl nn t (mI g)),(1,.sl nn' t' (mI l)),(62,.sl nn' t' (mI l)),(63,I l.length),(64,I q.1)],[])) (fun q => l.length - q.1) ⟨0,by omega,rfl⟩ [] (Wk.nil (by simp [fle,vle,Fr.get,mI_bnd])) ?_
    rintro ⟨k,hk,hinv2⟩
    dsimp only
    by_cases hkl : k < l.length
    · have d3 : (k : Int) < l.length := by omega
      have hwk := hw k (by omega)
      have hmod : (((k + 1 : Nat) : Int)).tmod l.length = (((k + 1) % l.length : Nat) : Int) := by rw [Int.tmod_eq_emod_of_nonneg (by omega)]; rfl
      obtain ⟨m,hm⟩ : ∃ m,(k + 1) % l.length = m := ⟨_,rfl⟩
      have hml : m < l.length := by rw [← hm]; exact Nat.mod_lt _ (by omega)
      have d5 : (m : Int) < l.length := by omega
      rw [hm] at hmod
      obtain ⟨x,hx⟩ : ∃ x,l.getD k 0 = x := ⟨_,rfl⟩
      obtain ⟨y,hy⟩ : ∃ y,l.getD m 0 = y := ⟨_,rfl⟩
      have hxa := at1 k hkl
      have hya := at1 m hml
      unfold okA at hxa hya
      rw [hx] at hxa
      rw [hy] at hya
      simp only [Bool.and_eq_true,decide_eq_true_eq] at hxa hya
      obtain ⟨a,rfl⟩ : ∃ a : Nat,x = a := ⟨x.toNat,by omega⟩
      obtain ⟨b,rfl⟩ : ∃ b : Nat,y = b := ⟨y.toNat,by omega⟩
      have ha : a < g.length := by omega
      have hb : b < g.length := by omega
      have d6 : (a : Int) < g.length := by omega
      have hB : okB g l k = hp g a b := by unfold okB; rw [hm,hx,hy]; rfl
      have hbit := bit_not (netV_at hv ha).2.2.2 (c := b) (by omega)
      have hp' : Sp.has (g.getD a 0) b = hp g a b := rfl
      obtain ⟨G,hG⟩ : ∃ G,g.getD a 0 = G := ⟨_,rfl⟩
      rw [hp',← hB,hG] at hbit
      simp only [w76L2,d3,decide_true,mI_get,hkl,hx,mI_hd,hwk,hmod,hml,hy,d5,ha,d6,hG,go_sem,Nat.reduceEqDiff,Nat.reduceAdd,Nat.reduceLT,Nat.reduceLeDiff,reduceIte,reduceCtorEq]
      refine ⟨by omega,?_⟩
      cases hbb : okB g l k with
      | true =>
        rw [hbb] at hbit
        simp only [hbit,Bool.not_true,hwk,go_sem,Nat.reduceEqDiff,Nat.reduceAdd,Nat.reduceLT,Nat.reduceLeDiff,reduceIte,reduceCtorEq]
        exact round0 rfl ⟨k + 1,hkl,by rw [range_all_snoc,hinv2,hbb]; rfl⟩ (by dsimp only; omega) rfl (by simp [fle,vle,Fr.get,mI_bnd])
      | false =>
        rw [hbb] at hbit
        simp only [hbit,Bool.not_false,go_sem,Nat.reduceEqDiff,Nat.reduceAdd,Nat.reduceLT,Nat.reduceLeDiff,reduceIte,reduceCtorEq]
        exact leaf (B false) rfl ⟨rfl,by rw [hC,all_bad hkl hbb,Bool.and_false]⟩
    · have d3 : ¬ (k : Int) < l.length := by omega
      obtain rfl : k = l.length := by omega
      simp only [w76L2,d3,decide_false,w76T3,go_sem,Nat.reduceEqDiff,Nat.reduceAdd,Nat.reduceLT,Nat.reduceLeDiff,reduceIte,reduceCtorEq]
      exact leaf (B true) rfl ⟨rfl,by rw [hC,hinv,hinv2]; rfl⟩
open Go.Abs AVal
theorem s77 (nn t nn' t' : Bool) (a b : List Int) (ha : a.length < 9223372036854775808) (hb : b.length < 9223372036854775808) : Abs.Spec Try.prog 77 [.sl nn t (mI a),.sl nn' t' (mI b)] [] fun v H' => H' = [] ∧ v = B (decide (Sp.cmpL a b < 0)) := by
  refine Abs.Spec.walk mixed fn77 nn77 t77 q77 nt77 (by simp) ?_
  simp only [w77,go_sem,Nat.reduceEqDiff,Nat.reduceAdd,Nat.reduceLT,Nat.reduceLeDiff,reduceIte,reduceCtorEq]
  refine W_loop (fun q : { i : Nat // i ≤ a.length ∧ i ≤ b.length ∧ Sp.cmpL (a.drop i) (b.drop i) = Sp.cmpL a b } => ([(0,.sl nn t (mI a)),(1,.sl nn' t' (mI b)),(7,.sl nn t (mI a)),(8,I a.length),(9,I q.1)],[])) (fun q => a.length - q.1)
    ⟨0,by omega,by omega,rfl⟩ [] (Wk.nil (by simp [fle,vle,Fr.get,mI_bnd])) ?_
  rintro ⟨i,hi,hib,hinv⟩
  dsimp only
  by_cases hil : i < a.length
  · have hz : decide ((i : Int) < a.length) = true := decide_eq_true (by omega)
    have hil' : (i : Int) < a.length := by omega
    have hwk : IntKind.i64.wrap ((i : Int) + 1) = ((i + 1 : Nat) : Int) := by rw [wrap64 (by omega) (by omega)]; rfl
    obtain ⟨x,hx⟩ : ∃ x,a.getD i 0 = x := ⟨_,rfl⟩
    have hx' : a[i] = x := by rw [← hx,List.getD_eq_getElem?_getD,List.getElem?_eq_getElem hil]; rfl
    rw [List.drop_eq_getElem_cons hil,hx'] at hinv
    by_cases hbl : i < b.length
    · have hz2 : decide ((i : Int) ≥ b.length) = false := decide_eq_false (by omega)
      have hbl' : (i : Int) < b.length := by omega
      obtain ⟨y,hy⟩ : ∃ y,b.getD i 0 = y := ⟨_,rfl⟩
      have hy' : b[i] = y := by rw [← hy,List.getD_eq_getElem?_getD,List.getElem?_eq_getElem hbl]; rfl
      rw [List.drop_eq_getElem_cons hbl,hy',Sp.cmpL] at hinv
      by_cases hxy : x = y
      · have b1 : (x != y) = false := by rw [hxy]; exact bne_self_eq_false _
        rw [if_neg (by omega),if_neg (by omega)] at hinv
        simp only [w77L0,hz,hil',mI_get,hil,hx,mI_hd,hz2,hbl,hbl',hy,b1,hwk,go_sem,Nat.reduceEqDiff,Nat.reduceAdd,Nat.reduceLT,Nat.reduceLeDiff,reduceIte,reduceCtorEq]
        refine round0 rfl ⟨i + 1,by omega,by omega,hinv⟩ (by dsimp only; omega) rfl ?_
        simp [fle,vle,Fr.get,mI_bnd]
      · have b1 : (x != y) = true := by rw [bne_iff_ne]; exact hxy
        simp only [w77L0,hz,hil',mI_get,hil,hx,mI_hd,hz2,hbl,hbl',hy,b1,go_sem,Nat.reduceEqDiff,Nat.reduceAdd,Nat.reduceLT,Nat.reduceLeDiff,reduceIte,reduceCtorEq]
        refine leaf (B _) rfl ⟨rfl,?_⟩
        rw [← hinv]
        by_cases h1 : x < y
        · rw [if_pos h1,decide_eq_true h1]; rfl
        · rw [if_neg h1,if_pos (by omega),decide_eq_false h1]; rfl
    · have hz2 : decide ((i : Int) ≥ b.length) = true := decide_eq_true (by omega)
      rw [List.drop_of_length_le (show b.length ≤ i by omega),Sp.cmpL] at hinv
      simp only [w77L0,hz,hil',mI_get,hil,hx,mI_hd,hz2,go_sem,Nat.reduceEqDiff,Nat.reduceAdd,Nat.reduceLT,Nat.reduceLeDiff,reduceIte,reduceCtorEq]
      exact leaf (B _) rfl ⟨rfl,by rw [← hinv]; rfl⟩
  · have hz : decide ((i : Int) < a.length) = false := decide_eq_false (by omega)
    obtain rfl : i = a.length := by omega
    rw [List.drop_length] at hinv
    simp only [w77L0,hz,w77T1,go_sem,Nat.reduceEqDiff,Nat.reduceAdd,Nat.reduceLT,Nat.reduceLeDiff,reduceIte,reduceCtorEq]
    refine leaf (B _) rfl ⟨rfl,?_⟩
    by_cases h : a.length < b.length
    · obtain ⟨y,r,hr⟩ : ∃ y r,b.drop a.length = y :: r := by
        cases hd : b.drop a.length with
        | nil => have := List.length_drop (l := b) (i := a.length); rw [hd] at this; simp at this; omega
        | cons y r => exact ⟨y,r,rfl⟩
      rw [hr,Sp.cmpL] at hinv
      rw [← hinv,decide_eq_true (by omega)]; rfl
    · rw [List.drop_of_length_le (by omega),Sp.cmpL] at hinv
      rw [← hinv,decide_eq_false (by omega)]; rfl
theorem circs_asc (g : List Int) : (circs g).Pairwise fun a b => Sp.cmpL a b < 0 :=
  ((Sp.sortV_asc (g1 g g.length)).and (circs_nodup g)).imp fun {a b} ⟨h1,h2⟩ => by
    have : Sp.cmpL a b ≠ 0 := fun h => h2 (Sp.cmpL_eq h)
    omega
theorem asc_lt {C : List (List Int)} (hC : C.Pairwise fun a b => Sp.cmpL a b < 0) {i j : Nat} {a b : List Int} (hi : C[i]? = some a) (hj : C[j]? = some b) : decide (Sp.cmpL a b < 0) = decide (i < j) := by
  obtain ⟨hil,hi⟩ := List.getElem?_eq_some_iff.1 hi
  obtain ⟨hjl,hj⟩ := List.getElem?_eq_some_iff.1 hj
  rw [List.pairwise_iff_getElem] at hC
  refine decide_eq_decide.2 ⟨fun h => ?_,fun h => by rw [← hi,← hj]; exact hC i j hil hjl h⟩
  refine Decidable.byContradiction fun hn => ?_
  rcases Nat.lt_or_eq_of_le (Nat.le_of_not_lt hn) with h1 | h1
  · have := hC j i hjl hil h1
    rw [hi,hj] at this
    have := Sp.cmpL_anti a b
    omega
  · subst h1
    rw [← hi,← hj,Sp.cmpL_self] at h
    omega
def inn (u : Int) : List Int → Option Int
  | [] => some u
  | x :: c => if Sp.has u x.toNat then none else inn (Sp.orI u (Sp.shl1 x)) c
set_option maxRecDepth 100000 in
theorem inn2_dec : ∀ u : Nat,u < 64 → ∀ a : Nat,a < 6 → ∀ b : Nat,b < 6 → a ≠ b → inn u [(a : Int),b] = if and2 (setL [(a : Int),b]) u = 0 then some (Sp.orI u (setL [(a : Int),b])) else none := by decide +kernel
set_option synthInstance.maxSize 2000 in
set_option synthInstance.maxHeartbeats 400000 in
set_option maxRecDepth 100000 in
theorem inn3_dec : ∀ u : Nat,u < 64 → ∀ a : Nat,a < 6 → ∀ b : Nat,b < 6 → ∀ c : Nat,c < 6 → (a ≠ b ∧ a ≠ c ∧ b ≠ c) → inn u [(a : Int),b,c] = if and2 (setL [(a : Int),b,c]) u = 0 then some (Sp.orI u (setL [(a : Int),b,c])) else none := by decide +kernel
theorem inn_cir {g x : List Int} (h6 : g.length ≤ 6) (h : Cir g x) {u : Int} (hu : Sp.isSet u) : inn u x = if and2 (setL x) u = 0 then some (Sp.orI u (setL x)) else none := by
  rcases h with ⟨a,b,h1,h2,-,-,rfl⟩ | ⟨a,b,c,h1,h2,h3,h4,h5,-,-,-,rfl⟩
  · exact Sp.allSets (p := fun u => inn u [(a : Int),b] = if and2 (setL [(a : Int),b]) u = 0 then some (Sp.orI u (setL [(a : Int),b])) else none) (fun u hu => inn2_dec u hu a (by omega) b (by omega) (by omega)) hu
  · exact Sp.allSets (p := fun u => inn u [(a : Int),b,c] = if and2 (setL [(a : Int),b,c]) u = 0 then some (Sp.orI u (setL [(a : Int),b,c])) else none) (fun u hu => inn3_dec u hu a (by omega) b (by omega) c (by omega) ⟨by omega,by omega,by omega⟩) hu
def helA (C l : List (List Int)) : AVal := match chk C l with | none => .tup [I 0,B false] | some (_,h,_) => .tup [I h,B true]
set_option maxRecDepth 20000 in
set_option maxHeartbeats 4000000 in
theorem s52 (g : List Int) (l : List (List Int)) (hv : netV g = true) (hw : ∀ s ∈ l,s.length < 9223372036854775808) (hl : l.length < 9223372036854775808) : Abs.Spec Try.prog 52 [.sl false false (mI g),.sl false false (mS l)] [] fun v H' => H' = [] ∧ v = helA (circs g) l := by
  obtain ⟨g1,g6⟩ := netV_len hv
  refine Abs.Spec.walk mixed fn52 nn52 t52 q52 nt52 (by simp) ?_
  have e76 : ∀ c ∈ l,∀ H,CallV Try.prog (.fn (.func 76) [] []) [.sl false false (mI g),.sl false false (mI c)] H fun v H' => v = B (cirB g c) ∧ H' = H := fun c hc H => liftV (s76 false false false false g c hv (hw c hc)) (by simp [bndL,AVal.bnd,mI_bnd]) rfl H
  have e77 : ∀ a ∈ l,∀ b ∈ l,∀ H,CallV Try.prog (.fn (.func 77) [] []) [.sl false false (mI a),.sl false false (mI b)] H fun v H' => v = B (decide (Sp.cmpL a b < 0)) ∧ H' = H := fun a ha b hb H => liftV (s77 false false false false a b (hw a ha) (hw b hb)) (by simp [bndL,AVal.bnd,mI_bnd]) rfl H
  have bad : chk (circs g) l = none → helA (circs g) l = .tup [I 0,B false] := fun h => by rw [helA,h]
  simp only [w52,go_sem,Nat.reduceEqDiff,Nat.reduceAdd,Nat.reduceLT,Nat.reduceLeDiff,reduceIte,reduceCtorEq]
  refine W_loop (fun q : { q : Nat × Int × Nat × Int // q.1 ≤ l.length ∧ chkG (circs g) (l.drop q.1) (some q.2) = chk (circs g) l ∧ Sp.isSet q.2.1 ∧ Sp.pc q.2.1 = q.2.2.1 ∧ (q.1 = 0 ∧ q.2.2.2 = -1 ∨ 0 < q.1 ∧ ∃ i : Nat,q.2.2.2 = i ∧ (circs g)[i]? = some (l.getD (q.1 - 1) [])) } => ([(0,.sl false false (mI g)),(1,.sl false false (mS l)),(6,I q.1.2.1),(7,I q.1.2.2.1),(12,.sl false false (mS l)),(13,I l.length),(14,I q.1.1)],[])) (fun q => l.length - q.1.1) ⟨(0,0,0,-1),by simp,rfl,⟨by simp,by simp⟩,rfl,.inl ⟨rfl,rfl⟩⟩ [] (Wk.nil (by simp [fle,vle,Fr.get,mI_bnd,mS_bnd])) ?_
  rintro ⟨⟨k,u,h,last⟩,hq⟩
  obtain ⟨hk,hinv,hu,hp,hlast⟩ := id hq
  dsimp only at hk hinv hu hp hlast ⊢
  by_cases hkl : k < l.length
  rotate_left
  · have d1 : ¬ (k : Int) < l.length := by omega
    obtain rfl : k = l.length := by omega
    rw [List.drop_length] at hinv
    simp only [w52L0,d1,decide_false,w52T9,go_sem,Nat.reduceEqDiff,Nat.reduceAdd,Nat.reduceLT,Nat.reduceLeDiff,reduceIte,reduceCtorEq]
    exact leaf2 (.tup [I h,B true]) ⟨rfl,rfl,trivial⟩ ⟨rfl,by rw [helA,← hinv]; rfl⟩
  have d1 : (k : Int) < l.length := by omega
  have hwk : IntKind.i64.wrap ((k : Int) + 1) = ((k + 1 : Nat) : Int) := by rw [wrap64 (by omega) (by omega)]; rfl
  obtain ⟨c,hc⟩ : ∃ c,l.getD k [] = c := ⟨_,rfl⟩
  have hc' : l[k] = c := by rw [← hc,List.getD_eq_getElem?_getD,List.getElem?_eq_getElem hkl]; rfl
  have hcl : c ∈ l := by rw [← hc']; exact List.getElem_mem _
  have h6 := pc_six hu
  rw [List.drop_eq_getElem_cons hkl,hc'] at hinv
  have hstep : chkG (circs g) (c :: l.drop (k + 1)) (some (u,h,last)) = chkG (circs g) (l.drop (k + 1)) (stepC (circs g) (some (u,h,last)) c) := rfl
  rw [hstep,stepC] at hinv
  have hm1 : -1 ≤ last := by rcases hlast with ⟨-,h⟩ | ⟨-,i,h,-⟩ <;> omega
  simp only [w52L0,d1,decide_true,w52T1,mS_get,hkl,hc,go_sem,Nat.reduceEqDiff,Nat.reduceAdd,Nat.reduceLT,Nat.reduceLeDiff,reduceIte,reduceCtorEq]
  refine CallK.pure (e76 c hcl _) ?_
  cases hcir : cirB g c with
  | false =>
    have hni : Sp.idx (fun x => x == c) (circs g) = -1 := Sp.idx_none fun x hx => by
      rw [beq_eq_false_iff_ne]
      rintro rfl
      have := (cirB_iff g x).2 (circs_mem.1 hx)
      rw [hcir] at this; cases this
    rw [hni,if_pos hm1,chkG_none] at hinv
    simp only [go_sem,Nat.reduceEqDiff,Nat.reduceAdd,Nat.reduceLT,Nat.reduceLeDiff,reduceIte,reduceCtorEq]
    exact leaf2 (.tup [I 0,B false]) ⟨rfl,rfl,trivial⟩ ⟨rfl,(bad hinv.symm).symm⟩
  | true =>
  have hCir := (cirB_iff g c).1 hcir
  have hcC : c ∈ circs g := circs_mem.2 hCir
  have hc3 := hCir.len
  obtain ⟨j,x,hj,hjx,hjc,-⟩ := idx_at2 (p := fun x => x == c) (xs := circs g) (Sp.idx_pos ⟨c,hcC,by simp⟩)
  have hxc : x = c := by simpa using hjc
  subst hxc
  rw [hj] at hinv
  have tail : last < j → ∀ fr : Fr,fr.get 0 = .sl false false (mI g) → fr.get 1 = .sl false false (mS l) → fr.get 6 = I u → fr.get 7 = I h → fr.get 9 = .sl false false (mI x) → fr.get 12 = .sl false false (mS l) → fr.get 13 = I l.length → fr.get 14 = I k → 
      W ⟨Try.prog,0,59,true⟩ (retA 0 r52 fun v H' => H' = [] ∧ v = helA (circs g) l) c52T2 [Kont.block 1,Kont.seq c52T8,Kont.loop [] (fun q : { q : Nat × Int × Nat × Int // q.1 ≤ l.length ∧ chkG (circs g) (l.drop q.1) (some q.2) = chk (circs g) l ∧ Sp.isSet q.2.1 ∧ Sp.pc q.2.1 = q.2.2.1 ∧ (q.1 = 0 ∧ q.2.2.2 = -1 ∨ 0 < q.1 ∧ ∃ i : Nat,q.2.2.2 = i ∧ (circs g)[i]? = some (l.getD (q.1 - 1) [])) } => ([(0,.sl false false (mI g)),(1,.sl false false (mS l)),(6,I q.1.2.1),(7,I q.1.2.2.1),(12,.sl false false (mS l)),(13,I l.length),(14,I q.1.1)],[])) (fun q => l.length - q.1.1) ⟨(k,u,h,last),hq⟩,Kont.block 0,Kont.seq c52T9] fr [] [] := by
    intro hlj fr f0 f1 f6 f7 f9 f12 f13 f14
    rw [if_neg (by omega)] at hinv
    obtain ⟨p1,p2⟩ := hCir.set g6
    have hin := inn_cir g6 hCir hu
    simp only [w52T2,f0,f1,f6,f7,f9,f12,f13,f14,go_sem,Nat.reduceEqDiff,Nat.reduceAdd,Nat.reduceLT,Nat.reduceLeDiff,reduceIte,reduceCtorEq]
    refine W_loop (fun q : { q : Nat × Int // q.1 ≤ x.length ∧ Sp.isSet q.2 ∧ inn q.2 (x.drop q.1) = inn u x } => ([(0,.sl false false (mI g)),(1,.sl false false (mS l)),(6,I q.1.2),(7,I h),(9,.sl false false (mI x)),(12,.sl false false (mS l)),(13,I l.length),(14,I k),(37,.sl false false (mI x)),(38,I x.length),(39,I q.1.1)],[])) (fun q => x.length - q.1.1) ⟨(0,u),by simp,hu,rfl⟩ [] (Wk.nil (by simp [fle,vle,Fr.get,mI_bnd,mS_bnd])) ?_
    rintro ⟨⟨i,m⟩,hi,hm,hinn⟩
    dsimp only at hi hm hinn ⊢
    by_cases hil : i < x.length
    · have d3 : (i : Int) < x.length := by omega
      have hwi : IntKind.i64.wrap ((i : Int) + 1) = ((i + 1 : Nat) : Int) := by rw [wrap64 (by omega) (by omega)]; rfl
      obtain ⟨y,hy⟩ : ∃ y,x.getD i 0 = y := ⟨_,rfl⟩
      have hy' : x[i] = y := by rw [← hy,List.getD_eq_getElem?_getD,List.getElem?_eq_getElem hil]; rfl
      have hyr := hCir.nat y (by rw [← hy']; exact List.getElem_mem _)
      obtain ⟨a,rfl⟩ : ∃ a : Nat,y = a := ⟨y.toNat,by omega⟩
      rw [List.drop_eq_getElem_cons hil,hy',inn,Int.toNat_natCast] at hinn
      have eb : (bitsI .and .i64 (m.fdiv (2 ^ min a 64)) 1 == 1) = Sp.has m a := rfl
      cases hh : Sp.has m a with
      | true =>
        rw [hh] at eb hinn
        rw [if_pos rfl] at hinn
        have hz : ¬ and2 (setL x) u = 0 := fun h => by rw [hin,if_pos h] at hinn; cases hinn
        rw [if_neg hz,chkG_none] at hinv
        simp only [w52L3,d3,decide_true,w52T4,mI_get,hil,hy,mI_hd,eb,go_sem,Nat.reduceEqDiff,Nat.reduceAdd,Nat.reduceLT,Nat.reduceLeDiff,reduceIte,reduceCtorEq]
        exact leaf2 (.tup [I 0,B false]) ⟨rfl,rfl,trivial⟩ ⟨rfl,(bad hinv.symm).symm⟩
      | false =>
        rw [hh] at eb hinn
        rw [if_neg (by simp)] at hinn
        simp only [w52L3,d3,decide_true,w52T4,mI_get,hil,hy,mI_hd,eb,w52T5,w52T6,hwi,go_sem,Nat.reduceEqDiff,Nat.reduceAdd,Nat.reduceLT,Nat.reduceLeDiff,reduceIte,reduceCtorEq]
        exact round0 rfl ⟨(i + 1,Sp.orI m (Sp.shl1 a)),hil,Sp.or_set hm (by omega),hinn⟩ (by dsimp only; omega) rfl (by simp [fle,vle,Fr.get,mI_bnd,mS_bnd,Sp.orI,Sp.shl1,IntKind.bits])
    · have d3 : ¬ (i : Int) < x.length := by omega
      obtain rfl : i = x.length := by omega
      rw [List.drop_length,inn,hin] at hinn
      have hz : and2 (setL x) u = 0 := Decidable.byContradiction fun h => by rw [if_neg h] at hinn; cases hinn
      rw [if_pos hz] at hinn
      have hm2 : m = Sp.orI u (setL x) := Option.some.inj hinn
      rw [if_pos hz] at hinv
      obtain ⟨q1,q2⟩ := pc_add hu p2 hz
      have hwh : IntKind.i64.wrap ((h : Int) + x.length) = ((h + x.length : Nat) : Int) := by rw [wrap64 (by omega) (by omega)]; omega
      simp only [w52L3,d3,decide_false,w52T7,w52T8,hwh,hwk,go_sem,Nat.reduceEqDiff,Nat.reduceAdd,Nat.reduceLT,Nat.reduceLeDiff,reduceIte,reduceCtorEq]
      refine round0 rfl ⟨(k + 1,Sp.orI u (setL x),h + x.length,(j : Int)),hkl,hinv,q2,by dsimp only; omega,.inr ⟨by dsimp only; omega,j,rfl,?_⟩⟩ (by dsimp only; omega) rfl (by simp [fle,vle,Fr.get,mI_bnd,mS_bnd,hm2])
      dsimp only
      rw [Nat.add_sub_cancel,hc,hjx]
  rcases hlast with ⟨hk0,hl1⟩ | ⟨hk0,i,hli,hCi⟩
  · have b4 : decide ((k : Int) > 0) = false := decide_eq_false (by omega)
    simp only [b4,go_sem,Nat.reduceEqDiff,Nat.reduceAdd,Nat.reduceLT,Nat.reduceLeDiff,reduceIte,reduceCtorEq]
    exact tail (by omega) _ rfl rfl rfl rfl rfl rfl rfl rfl
  · have b4 : decide ((k : Int) > 0) = true := decide_eq_true (by omega)
    have hw1 : IntKind.i64.wrap ((k : Int) - 1) = ((k - 1 : Nat) : Int) := by rw [wrap64 (by omega) (by omega)]; omega
    have hk1 : k - 1 < l.length := by omega
    have d2 : ((k - 1 : Nat) : Int) < l.length := by omega
    obtain ⟨p,hpv⟩ : ∃ p,l.getD (k - 1) [] = p := ⟨_,rfl⟩
    have hpl : p ∈ l := by
      rw [← hpv,List.getD_eq_getElem?_getD,List.getElem?_eq_getElem hk1]
      exact List.getElem_mem _
    rw [hpv] at hCi
    have hlt := asc_lt (circs_asc g) hCi hjx
    simp only [b4,hw1,mS_get,hk1,d2,hpv,go_sem,Nat.reduceEqDiff,Nat.reduceAdd,Nat.reduceLT,Nat.reduceLeDiff,reduceIte,reduceCtorEq]
    refine CallK.pure (e77 p hpl x hcl _) ?_
    rw [hlt]
    by_cases hij : i < j
    · rw [decide_eq_true hij]
      simp only [go_sem,Nat.reduceEqDiff,Nat.reduceAdd,Nat.reduceLT,Nat.reduceLeDiff,reduceIte,reduceCtorEq]
      exact tail (by omega) _ rfl rfl rfl rfl rfl rfl rfl rfl
    · rw [decide_eq_false hij]
      rw [if_pos (by omega),chkG_none] at hinv
      simp only [go_sem,Nat.reduceEqDiff,Nat.reduceAdd,Nat.reduceLT,Nat.reduceLeDiff,reduceIte,reduceCtorEq]
      exact leaf2 (.tup [I 0,B false]) ⟨rfl,rfl,trivial⟩ ⟨rfl,(bad hinv.symm).symm⟩
theorem s78 : ∀ (l : List (List Int)) (nn t : Bool) (u : Int),(∀ c ∈ l,2 ≤ c.length ∧ c.length ≤ 3) → (∀ c ∈ l,∀ x ∈ c,0 ≤ x) → l.length ≤ 1000 → Abs.Spec Try.prog 78 [.sl nn t (mS l),I u] [] fun v H' => H' = [] ∧ v = I (mostR l u)
  | [],nn,t,u,h3,h0,hl => by
    refine Abs.Spec.walk mixed fn78 nn78 t78 q78 nt78 (by simp) ?_
    have zz : ((0 : Int) == 0) = true := rfl
    simp only [w78,List.length_nil,Int.natCast_zero,zz,go_sem,Nat.reduceEqDiff,Nat.reduceAdd,Nat.reduceLT,Nat.reduceLeDiff,reduceIte,reduceCtorEq]
    exact leaf (I 0) rfl ⟨rfl,rfl⟩
  | c :: r,nn,t,u,h3,h0,hl => by
    rw [List.length_cons] at hl
    have c3 := h3 c (by simp)
    have hm := mostR_le (l := r) (fun c hc => (h3 c (by simp [hc])).2)
    have ih := fun nn t u => s78 r nn t u (fun c hc => h3 c (by simp [hc])) (fun c hc => h0 c (by simp [hc])) (by omega)
    have e78 : ∀ nn t u H,CallV Try.prog (.fn (.func 78) [] []) [.sl nn t (mS r),I u] H fun v H' => v = I (mostR r u) ∧ H' = H := fun nn t u H => liftV (ih nn t u) (by simp [bndL,AVal.bnd,mS_bnd]) rfl H
    refine Abs.Spec.walk mixed fn78 nn78 t78 q78 nt78 (by simp) ?_
    have b1 : (((r.length + 1 : Nat) : Int) == 0) = false := by rw [beq_eq_false_iff_ne]; omega
    have tn1 : Int.toNat 1 = 1 := rfl
    have g0 : (mS (c :: r)).getD 0 any = .sl false false (mI c) := rfl
    have l0 : (0 : Int) < ((r.length + 1 : Nat) : Int) := by omega
    have e1 : List.drop 1 (c :: r) = r := rfl
    simp only [w78,List.length_cons,b1,w78T0,tn1,e1,go_sem,Nat.reduceEqDiff,Nat.reduceAdd,Nat.reduceLT,Nat.reduceLeDiff,reduceIte,reduceCtorEq]
    refine ⟨⟨by omega,by omega⟩,?_⟩
    refine CallK.pure (e78 nn t u _) ?_
    simp only [g0,l0,go_sem,Nat.reduceEqDiff,Nat.reduceAdd,Nat.reduceLT,Nat.reduceLeDiff,reduceIte,reduceCtorEq]
    refine ⟨Int.le_refl _,?_⟩
    refine W_loop (fun q : { q : Nat × Int // q.1 ≤ c.length ∧ setG q.2 (c.drop q.1) = setL c } => ([(0,.sl nn t (mS (c :: r))),(1,I u),(5,I (mostR r u)),(6,I q.1.2),(18,.sl false false (mI c)),(19,I c.length),(20,I q.1.1)],[])) (fun q => c.length - q.1.1) ⟨(0,0),by simp,rfl⟩ [] (Wk.nil (by simp [fle,vle,Fr.get,mI_bnd,mS_bnd])) ?_
    rintro ⟨⟨i,m⟩,hi,hm2⟩
    dsimp only at hi hm2 ⊢
    by_cases hil : i < c.length
    · have hz : (i : Int) < c.length := by omega
      have hwk : IntKind.i64.wrap ((i : Int) + 1) = ((i + 1 : Nat) : Int) := by rw [wrap64 (by omega) (by omega)]; rfl
      obtain ⟨x,hx⟩ : ∃ x,c.getD i 0 = x := ⟨_,rfl⟩
      have hx' : c[i] = x := by rw [← hx,List.getD_eq_getElem?_getD,List.getElem?_eq_getElem hil]; rfl
      have hx0 : 0 ≤ x := by rw [← hx']; exact h0 c (by simp) _ (List.getElem_mem _)
      rw [List.drop_eq_getElem_cons hil,hx'] at hm2
      simp only [w78L1,hz,decide_true,w78T2,mI_get,hil,hx,mI_hd,hwk,go_sem,Nat.reduceEqDiff,Nat.reduceAdd,Nat.reduceLT,Nat.reduceLeDiff,reduceIte,reduceCtorEq]
      refine ⟨hx0,?_⟩
      refine round0 rfl ⟨(i + 1,Sp.orI m (Sp.shl1 x)),hil,hm2⟩ (by dsimp only; omega) rfl ?_
      simp [fle,vle,Fr.get,mI_bnd,mS_bnd,Sp.orI,Sp.shl1,IntKind.bits]
    · have hz : ¬ (i : Int) < c.length := by omega
      obtain rfl : i = c.length := by omega
      rw [List.drop_length] at hm2
      have hm3 : m = setL c := hm2
      subst hm3
      by_cases hz2 : and2 (setL c) u = 0
      · have dz : (bitsI .and .i64 (setL c) u == 0) = true := by rw [show bitsI .and .i64 (setL c) u = 0 from hz2]; rfl
        have hm' := hm (Sp.orI u (setL c))
        have hmu := hm u
        have hwc : IntKind.i64.wrap ((c.length : Int) + (mostR r (Sp.orI u (setL c)) : Nat)) = ((c.length + mostR r (Sp.orI u (setL c)) : Nat) : Int) := by rw [wrap64 (by omega) (by omega)]; omega
        have hor : bitsI .or .i64 u (setL c) = Sp.orI u (setL c) := rfl
        simp only [w78L1,hz,decide_false,w78T3,dz,g0,l0,List.length_cons,tn1,e1,hor,go_sem,Nat.reduceEqDiff,Nat.reduceAdd,Nat.reduceLT,Nat.reduceLeDiff,reduceIte,reduceCtorEq]
        refine ⟨Int.le_refl _,⟨by omega,by omega⟩,by decide,?_⟩
        refine CallKD.pure (fun H => e78 nn t _ H) ?_
        simp only [hwc,w78T4,go_sem,Nat.reduceEqDiff,Nat.reduceAdd,Nat.reduceLT,Nat.reduceLeDiff,reduceIte,reduceCtorEq]
        refine leaf (I _) rfl ⟨rfl,?_⟩
        rw [mostR,if_pos hz2]
        refine congrArg I ?_
        split <;> omega
      · have dz : (bitsI .and .i64 (setL c) u == 0) = false := by rw [beq_eq_false_iff_ne]; exact hz2
        simp only [w78L1,hz,decide_false,w78T3,dz,w78T4,go_sem,Nat.reduceEqDiff,Nat.reduceAdd,Nat.reduceLT,Nat.reduceLeDiff,reduceIte,reduceCtorEq]
        exact leaf (I _) rfl ⟨rfl,by rw [mostR,if_neg hz2]⟩
def rX3 (g : List Int) (a b k : Nat) : List (List Int) := ((List.range k).filter fun c : Nat => cirB g [(a : Int),b,c]).map fun c : Nat => [(a : Int),(b : Int),(c : Int)]
def rB (g : List Int) (a b : Nat) : List (List Int) := (if cirB g [(a : Int),b] then [[(a : Int),b]] else []) ++ rX3 g a b g.length
def rX2 (g : List Int) (a k : Nat) : List (List Int) := (List.range k).flatMap (rB g a)
def rX1 (g : List Int) (k : Nat) : List (List Int) := (List.range k).flatMap fun a => rX2 g a g.length
theorem rX3_snoc (g : List Int) (a b k : Nat) : rX3 g a b (k + 1) = rX3 g a b k ++ if cirB g [(a : Int),b,k] then [[(a : Int),b,k]] else [] := by
  unfold rX3; rw [List.range_succ,List.filter_append,List.map_append,List.filter_cons,List.filter_nil]
  split <;> rfl
theorem rX2_snoc (g : List Int) (a k : Nat) : rX2 g a (k + 1) = rX2 g a k ++ rB g a k := by unfold rX2; rw [List.range_succ,List.flatMap_append]; simp
theorem rX1_snoc (g : List Int) (k : Nat) : rX1 g (k + 1) = rX1 g k ++ rX2 g k g.length := by unfold rX1; rw [List.range_succ,List.flatMap_append]; simp
theorem rX3_len (g : List Int) (a b k : Nat) : (rX3 g a b k).length ≤ k := by unfold rX3; rw [List.length_map]; have := List.length_filter_le (fun c : Nat => cirB g [(a : Int),b,c]) (List.range k); simpa using this
theorem rB_len {g : List Int} (h6 : g.length ≤ 6) (a b : Nat) : (rB g a b).length ≤ 7 := by
  unfold rB
  have := rX3_len g a b g.length
  rw [List.length_append]
  split <;> simp <;> omega
theorem rX2_len {g : List Int} (h6 : g.length ≤ 6) (a k : Nat) : (rX2 g a k).length ≤ k * 7 := g_len (rB_len h6 a)
theorem rX1_len {g : List Int} (h6 : g.length ≤ 6) (k : Nat) : (rX1 g k).length ≤ k * 42 := g_len fun a => by have := rX2_len h6 a g.length; omega
theorem rX3_mem {g : List Int} {a b k : Nat} {x : List Int} : x ∈ rX3 g a b k ↔ ∃ c,c < k ∧ cirB g [(a : Int),b,c] = true ∧ x = [(a : Int),b,c] := by
  unfold rX3
  rw [List.mem_map]
  constructor
  · rintro ⟨c,hc,rfl⟩
    rw [List.mem_filter] at hc
    exact ⟨c,List.mem_range.1 hc.1,hc.2,rfl⟩
  · rintro ⟨c,h1,h2,rfl⟩
    exact ⟨c,List.mem_filter.2 ⟨List.mem_range.2 h1,h2⟩,rfl⟩
theorem rB_mem {g : List Int} {a b : Nat} {x : List Int} : x ∈ rB g a b ↔ (x = [(a : Int),b] ∧ cirB g [(a : Int),b] = true) ∨ ∃ c,c < g.length ∧ cirB g [(a : Int),b,c] = true ∧ x = [(a : Int),b,c] := by
  unfold rB
  rw [List.mem_append,rX3_mem]
  split <;> rename_i h <;> simp [h]
theorem rX1_mem {g : List Int} {x : List Int} : x ∈ rX1 g g.length ↔ Cir g x := by
  unfold rX1 rX2
  simp only [List.mem_flatMap,List.mem_range]
  constructor
  · rintro ⟨a,ha,b,hb,hx⟩
    rcases rB_mem.1 hx with ⟨rfl,h⟩ | ⟨c,hc,h,rfl⟩
    · exact (cirB_iff _ _).1 h
    · exact (cirB_iff _ _).1 h
  · intro h
    have hB := (cirB_iff _ _).2 h
    rcases h with ⟨a,b,h1,h2,h3,h4,rfl⟩ | ⟨a,b,c,h1,h2,h3,h4,h5,h6,h7,h8,rfl⟩
    · exact ⟨a,by omega,b,h2,rB_mem.2 (.inl ⟨rfl,hB⟩)⟩
    · exact ⟨a,by omega,b,h2,rB_mem.2 (.inr ⟨c,h4,hB,rfl⟩)⟩
theorem rB_hd {g : List Int} {a b : Nat} {x : List Int} (h : x ∈ rB g a b) : ∃ t,x = (a : Int) :: b :: t := by
  rcases rB_mem.1 h with ⟨rfl,-⟩ | ⟨c,-,-,rfl⟩
  · exact ⟨[],rfl⟩
  · exact ⟨[(c : Int)],rfl⟩
theorem lt_range (n : Nat) : (List.range n).Pairwise (· < ·) := List.pairwise_lt_range
theorem cmp_hd {x y : Int} {s t : List Int} (h : x < y) : Sp.cmpL (x :: s) (y :: t) < 0 := by rw [Sp.cmpL,if_pos h]; decide
theorem cmp_same {x : Int} {s t : List Int} : Sp.cmpL (x :: s) (x :: t) = Sp.cmpL s t := by rw [Sp.cmpL,if_neg (by omega),if_neg (by omega)]
theorem rX1_asc (g : List Int) (k : Nat) : (rX1 g k).Pairwise fun a b => Sp.cmpL a b < 0 := by
  unfold rX1 rX2
  rw [List.pairwise_flatMap]
  refine ⟨fun a _ => ?_,(lt_range k).imp fun {a a'} h x hx y hy => ?_⟩
  · rw [List.pairwise_flatMap]
    refine ⟨fun b _ => ?_,(lt_range g.length).imp fun {b b'} h x hx y hy => ?_⟩
    · unfold rB
      rw [List.pairwise_append]
      refine ⟨by split <;> simp,?_,fun x hx y hy => ?_⟩
      · unfold rX3
        rw [List.pairwise_map]
        exact ((lt_range g.length).filter _).imp fun {c c'} h => by rw [cmp_same,cmp_same]; exact cmp_hd (by omega)
      · obtain ⟨c,-,-,rfl⟩ := rX3_mem.1 hy
        split at hx
        · simp at hx
          subst hx
          rw [cmp_same,cmp_same,Sp.cmpL]; decide
        · cases hx
    · obtain ⟨t,rfl⟩ := rB_hd hx
      obtain ⟨t',rfl⟩ := rB_hd hy
      rw [cmp_same]; exact cmp_hd (by omega)
  · obtain ⟨b,-,hx⟩ := List.mem_flatMap.1 hx
    obtain ⟨b',-,hy⟩ := List.mem_flatMap.1 hy
    obtain ⟨t,rfl⟩ := rB_hd hx
    obtain ⟨t',rfl⟩ := rB_hd hy
    exact cmp_hd (by omega)
theorem rX1_circs (g : List Int) : rX1 g g.length = circs g := by
  have ha := rX1_asc g g.length
  refine Sp.asc_unique (ha.imp fun h => by omega) (Sp.sortV_asc _) (permOf (ha.imp fun h e => by rw [e,Sp.cmpL_self] at h; omega) (circs_nodup g) fun x => ?_)
  rw [rX1_mem]
  exact circs_mem.symm
open Go.Abs AVal
set_option maxRecDepth 20000 in
set_option maxHeartbeats 4000000 in
theorem tail53 {Q : QT} {K : List Kont} {g : List Int} (hv : netV g = true) {a b : Nat} (hal : a < g.length) (hbl : b < g.length) {P : List (List Int)} (hP : P.length ≤ 100000) {fr : Fr} {H : AHeap} {ρ : List (Option Nat)}
    (hw : Wk 0 [] ρ fr H [(0,.sl false false (mI g)),(3,.own 0 0 P.length P.length 1),(4,I a),(5,I b),(8,I g.length),(9,I a),(13,I g.length),(14,I b)] [.cells (mS P)])
    (hk : KQ ⟨Try.prog,0,50,true⟩ Q .norm K [(31,B false),(0,.sl false false (mI g)),(3,.own 0 0 (P ++ rX3 g a b g.length).length (P ++ rX3 g a b g.length).length 1),(4,I a),(5,I b),(8,I g.length),(9,I a),(13,I g.length),(14,I b),(29,I g.length),(30,I g.length)] [.cells (mS (P ++ rX3 g a b g.length))] []) :
    W ⟨Try.prog,0,50,true⟩ Q c53T4 K fr H [] := by
  obtain ⟨n1,h6⟩ := netV_len hv
  have hwk : ∀ k : Nat,k ≤ 6 → IntKind.i64.wrap ((k : Int) + 1) = ((k + 1 : Nat) : Int) := fun k hk => by rw [wrap64 (by omega) (by omega)]; rfl
  simp only [w53T4,go_sem,Nat.reduceEqDiff,Nat.reduceAdd,Nat.reduceLT,Nat.reduceLeDiff,reduceIte,reduceCtorEq]
  refine W_view ρ [(0,.sl false false (mI g)),(3,.own 0 0 P.length P.length 1),(4,I a),(5,I b),(8,I g.length),(9,I a),(13,I g.length),(14,I b)] [.cells (mS P)] ⟨hw.len,hw.base,hw.nodup,hw.heap,hw.frame,hw.marks⟩ ?_
  simp only [go_sem,Nat.reduceEqDiff,Nat.reduceAdd,Nat.reduceLT,Nat.reduceLeDiff,reduceIte,reduceCtorEq]
  refine W_loop (fun q : { c : Nat // c ≤ g.length } => ([(0,.sl false false (mI g)),(3,.own 0 0 (P ++ rX3 g a b q.1).length (P ++ rX3 g a b q.1).length 1),(4,I a),(5,I b),(8,I g.length),(9,I a),(13,I g.length),(14,I b),(29,I g.length),(30,I q.1)],[.cells (mS (P ++ rX3 g a b q.1))])) (fun q => g.length - q.1) ⟨0,by omega⟩ [some 0] (Wk.mk0 rfl (by simp [imgs,Blk.alive]) (by simp [hle,csle,rX3,mS_bnd]) (by simp [fle,vle,Fr.get,mI_bnd,rX3])) ?_
  rintro ⟨c,hc⟩
  dsimp only
  by_cases hcl : c < g.length
  rotate_left
  · have d1 : ¬ (c : Int) < g.length := by omega
    obtain rfl : c = g.length := by omega
    simp only [w53L5,d1,decide_false,go_sem,Nat.reduceEqDiff,Nat.reduceAdd,Nat.reduceLT,Nat.reduceLeDiff,reduceIte,reduceCtorEq]
    exact hk
  have d1 : (c : Int) < g.length := by omega
  have hc1 := hwk c (by omega)
  have hgl := rX3_len g a b c
  simp only [w53L5,d1,decide_true,w53T6,go_sem,Nat.reduceEqDiff,Nat.reduceAdd,Nat.reduceLT,Nat.reduceLeDiff,reduceIte,reduceCtorEq]
  refine CallK.pure (CallV.of_spec (first := []) (cap := []) (Spec.lend (s76 false false false false g [(a : Int),b,c] hv (by simp)) rfl ⟨⟨mI_bnd,fun h => h,fun h => h,rfl⟩,vle_mI (xs := [(a : Int),b,c]) (cs := [I a,I b,I c]) rfl (by simp) rfl rfl,trivial⟩)) ?_
  cases hB : cirB g [(a : Int),b,c] with
  | false =>
    have st : rX3 g a b (c + 1) = rX3 g a b c := by rw [rX3_snoc,hB]; simp
    simp only [w53T7,hc1,go_sem,Nat.reduceEqDiff,Nat.reduceAdd,Nat.reduceLT,Nat.reduceLeDiff,reduceIte,reduceCtorEq]
    exact round1 rfl ⟨c + 1,hcl⟩ [some 0] (by dsimp only; omega) (Wk.mk0 rfl (by simp [imgs,Blk.alive]) (by simp [hle,csle,st,mS_bnd]) (by simp [fle,vle,Fr.get,mI_bnd,st]))
  | true =>
    have st : rX3 g a b (c + 1) = rX3 g a b c ++ [[(a : Int),b,c]] := by rw [rX3_snoc,hB]; rfl
    have hlen : (P ++ rX3 g a b (c + 1)).length = (P ++ rX3 g a b c).length + 1 := by rw [st,← List.append_assoc,List.length_append (bs := [_])]; rfl
    simp only [w53T7,hc1,go_sem,Nat.reduceEqDiff,Nat.reduceAdd,Nat.reduceLT,Nat.reduceLeDiff,reduceIte,reduceCtorEq]
    refine ⟨by rw [List.length_append]; omega,round1 rfl ⟨c + 1,hcl⟩ [some 4] (by dsimp only; omega) (Wk.mk0 rfl (by simp [imgs,Blk.alive]) ⟨.inr ?_,trivial⟩ (by simp [fle,vle,Fr.get,mI_bnd,hlen]))⟩
    rw [st,← List.append_assoc,← mS_append (xs := P ++ rX3 g a b c)]
    refine vleL_snoc ?_ _
    exact vle_mI (xs := [(a : Int),b,c]) (cs := [I a,I b,I c]) rfl (by simp [imgs,Blk.alive]) rfl rfl
set_option maxRecDepth 20000 in
set_option maxHeartbeats 4000000 in
theorem s53 (g : List Int) (hv : netV g = true) : Abs.Spec Try.prog 53 [.sl false false (mI g)] [] fun v H' => H' = [] ∧ v = .sl false false (mS (circs g)) := by
  obtain ⟨n1,h6⟩ := netV_len hv
  rw [← rX1_circs]
  refine Abs.Spec.walk mixed fn53 nn53 t53 q53 nt53 (by simp) ?_
  have hw : ∀ k : Nat,k ≤ 6 → IntKind.i64.wrap ((k : Int) + 1) = ((k + 1 : Nat) : Int) := fun k hk => by rw [wrap64 (by omega) (by omega)]; rfl
  simp only [w53,go_sem,Nat.reduceEqDiff,Nat.reduceAdd,Nat.reduceLT,Nat.reduceLeDiff,reduceIte,reduceCtorEq]
  refine W_loop (fun q : { a : Nat // a ≤ g.length } => ([(0,.sl false false (mI g)),(3,.own 0 0 (rX1 g q.1).length (rX1 g q.1).length 1),(8,I g.length),(9,I q.1)],[.cells (mS (rX1 g q.1))])) (fun q => g.length - q.1) ⟨0,by omega⟩ [none] (Wk.mk0 rfl (by simp [imgs,Blk.alive]) (by simp [hle,csle,rX1,mS_nil]) (by simp [fle,vle,Fr.get,mI_bnd,rX1])) ?_
  rintro ⟨a,ha⟩
  dsimp only
  by_cases hal : a < g.length
  rotate_left
  · have d1 : ¬ (a : Int) < g.length := by omega
    obtain rfl : a = g.length := by omega
    simp only [w53L0,d1,decide_false,w53T10,go_sem,Nat.reduceEqDiff,Nat.reduceAdd,Nat.reduceLT,Nat.reduceLeDiff,reduceIte,reduceCtorEq]
    exact leaf (.sl false false (mS (rX1 g g.length))) (vle_mS rfl (by simp) rfl (List.take_of_length_le (by rw [mS_length]; exact Nat.le_refl _))) ⟨rfl,rfl⟩
  have d1 : (a : Int) < g.length := by omega
  have ha1 := hw a (by omega)
  simp only [w53L0,d1,decide_true,w53T1,go_sem,Nat.reduceEqDiff,Nat.reduceAdd,Nat.reduceLT,Nat.reduceLeDiff,reduceIte,reduceCtorEq]
  refine W_loop (fun q : { b : Nat // b ≤ g.length } => ([(0,.sl false false (mI g)),(3,.own 0 0 (rX1 g a ++ rX2 g a q.1).length (rX1 g a ++ rX2 g a q.1).length 1),(4,I a),(8,I g.length),(9,I a),(13,I g.length),(14,I q.1)],[.cells (mS (rX1 g a ++ rX2 g a q.1))])) (fun q => g.length - q.1) ⟨0,by omega⟩ [some 0] (Wk.mk0 rfl (by simp [imgs,Blk.alive]) (by simp [hle,csle,rX2,mS_bnd]) (by simp [fle,vle,Fr.get,mI_bnd,rX2])) ?_
  rintro ⟨b,hb⟩
  dsimp only
  by_cases hbl : b < g.length
  rotate_left
  · have d2 : ¬ (b : Int) < g.length := by omega
    obtain rfl : b = g.length := by omega
    simp only [w53L2,d2,decide_false,w53T9,ha1,go_sem,Nat.reduceEqDiff,Nat.reduceAdd,Nat.reduceLT,Nat.reduceLeDiff,reduceIte,reduceCtorEq]
    exact round1 rfl ⟨a + 1,hal⟩ [some 0] (by dsimp only; omega) (Wk.mk0 rfl (by simp [imgs,Blk.alive]) (by simp [hle,csle,rX1_snoc,mS_bnd]) (by simp [fle,vle,Fr.get,mI_bnd,rX1_snoc]))
  have d2 : (b : Int) < g.length := by omega
  have hb1 := hw b (by omega)
  have last : ∀ P : List (List Int),P ++ rX3 g a b g.length = rX1 g a ++ rX2 g a (b + 1) → KQ ⟨Try.prog,0,50,true⟩ (retA 0 r53 fun v H' => H' = [] ∧ v = sl false false (mS (rX1 g g.length))) .norm
      [Kont.block 3,Kont.seq c53T8,Kont.loop [] (fun q : { b : Nat // b ≤ g.length } => ([(0,.sl false false (mI g)),(3,.own 0 0 (rX1 g a ++ rX2 g a q.1).length (rX1 g a ++ rX2 g a q.1).length 1),(4,I a),(8,I g.length),(9,I a),(13,I g.length),(14,I q.1)],[.cells (mS (rX1 g a ++ rX2 g a q.1))])) (fun q => g.length - q.1) ⟨b,hb⟩,
      Kont.block 2,Kont.block 1,Kont.seq c53T9,Kont.loop [] (fun q : { a : Nat // a ≤ g.length } => ([(0,.sl false false (mI g)),(3,.own 0 0 (rX1 g q.1).length (rX1 g q.1).length 1),(8,I g.length),(9,I q.1)],[.cells (mS (rX1 g q.1))])) (fun q => g.length - q.1) ⟨a,ha⟩,Kont.block 0,Kont.seq c53T10]
      [(31,B false),(0,.sl false false (mI g)),(3,.own 0 0 (P ++ rX3 g a b g.length).length (P ++ rX3 g a b g.length).length 1),(4,I a),(5,I b),(8,I g.length),(9,I a),(13,I g.length),(14,I b),(29,I g.length),(30,I g.length)] [.cells (mS (P ++ rX3 g a b g.length))] [] := by
    intro P hPe
    rw [hPe]
    simp only [w53T8,hb1,go_sem,Nat.reduceEqDiff,Nat.reduceAdd,Nat.reduceLT,Nat.reduceLeDiff,reduceIte,reduceCtorEq]
    exact round1 rfl ⟨b + 1,hbl⟩ [some 0] (by dsimp only; omega) (Wk.mk0 rfl (by simp [imgs,Blk.alive]) (by simp [hle,csle,mS_bnd]) (by simp [fle,vle,Fr.get,mI_bnd]))
  have hl1 := rX1_len h6 a
  have hl2 := rX2_len h6 a b
  have hPl : (rX1 g a ++ rX2 g a b).length ≤ 300 := by rw [List.length_append]; omega
  simp only [w53L2,d2,decide_true,w53T3,go_sem,Nat.reduceEqDiff,Nat.reduceAdd,Nat.reduceLT,Nat.reduceLeDiff,reduceIte,reduceCtorEq]
  refine CallK.pure (CallV.of_spec (first := []) (cap := []) (Spec.lend (s76 false false false false g [(a : Int),b] hv (by simp)) rfl ⟨⟨mI_bnd,fun h => h,fun h => h,rfl⟩,vle_mI (xs := [(a : Int),b]) (cs := [I a,I b]) rfl (by simp) rfl rfl,trivial⟩)) ?_
  cases hB : cirB g [(a : Int),b] with
  | false =>
    have eg : rB g a b = rX3 g a b g.length := by rw [rB,hB]; simp
    simp only [go_sem,Nat.reduceEqDiff,Nat.reduceAdd,Nat.reduceLT,Nat.reduceLeDiff,reduceIte,reduceCtorEq]
    exact tail53 hv hal hbl (P := rX1 g a ++ rX2 g a b) (by omega) (ρ := [some 0]) (Wk.mk0 rfl (by simp [imgs,Blk.alive]) (by simp [hle,csle,mS_bnd]) (by simp [fle,vle,Fr.get,mI_bnd])) (last _ (by rw [rX2_snoc,eg]; simp))
  | true =>
    have eg : rB g a b = [[(a : Int),b]] ++ rX3 g a b g.length := by rw [rB,hB]; rfl
    simp only [go_sem,Nat.reduceEqDiff,Nat.reduceAdd,Nat.reduceLT,Nat.reduceLeDiff,reduceIte,reduceCtorEq]
    have hl3 : (rX1 g a ++ rX2 g a b ++ [[(a : Int),b]]).length = (rX1 g a ++ rX2 g a b).length + 1 := by rw [List.length_append (bs := [_])]; rfl
    refine ⟨by omega,tail53 hv hal hbl (P := rX1 g a ++ rX2 g a b ++ [[(a : Int),b]]) (by omega) (ρ := [some 4]) (Wk.mk0 rfl (by simp [imgs,Blk.alive]) ⟨.inr ?_,trivial⟩ (by simp [fle,vle,Fr.get,mI_bnd]; omega)) (last _ (by rw [rX2_snoc,eg]; simp))⟩
    rw [← mS_append (xs := rX1 g a ++ rX2 g a b)]
    exact vleL_snoc (vle_mI (xs := [(a : Int),b]) (cs := [I a,I b]) rfl (by simp [imgs,Blk.alive]) rfl rfl) _
theorem s54 (g : List Int) (hv : netV g = true) : Abs.Spec Try.prog 54 [.sl false false (mI g)] [] fun v H' => H' = [] ∧ v = I (mostR (circs g) 0) := by
  obtain ⟨n1,h6⟩ := netV_len hv
  have hcl := circs_len h6
  have hCir : ∀ x ∈ circs g,Cir g x := fun x hx => circs_mem.1 hx
  refine Abs.Spec.walk mixed fn54 nn54 t54 q54 nt54 (by simp) ?_
  simp only [w54,go_sem,Nat.reduceEqDiff,Nat.reduceAdd,Nat.reduceLT,Nat.reduceLeDiff,reduceIte,reduceCtorEq]
  refine CallK.by (CallV.of_spec (s53 g hv)) fun v H' ⟨h1,h2⟩ => ?_
  subst h1 h2
  simp only [go_sem,Nat.reduceEqDiff,Nat.reduceAdd,Nat.reduceLT,Nat.reduceLeDiff,reduceIte,reduceCtorEq]
  refine CallK.by (CallV.of_spec (s78 (circs g) false false 0 (fun c hc => (hCir c hc).len) (fun c hc x hx => ((hCir c hc).nat x hx).1) (by omega))) fun v H' ⟨h1,h2⟩ => ?_
  subst h1 h2
  simp only [go_sem,Nat.reduceEqDiff,Nat.reduceAdd,Nat.reduceLT,Nat.reduceLeDiff,reduceIte,reduceCtorEq]
  exact leaf (I _) rfl ⟨rfl,rfl⟩
open Go.Abs AVal
theorem chk_table {g : List Int} (h6 : g.length ≤ 6) (l : List (List Int)) : Sp.table l = l ∨ chk (circs g) (Sp.table l) = none ∧ chk (circs g) l = none := by
  by_cases h : l.length ≤ 9 ∧ ∀ c ∈ l,c.length ≤ 9
  · exact .inl (table_of h.1 h.2)
  · right
    have hn : ∀ m : List (List Int),(3 < m.length ∨ ∃ c ∈ m,3 < c.length) → chk (circs g) m = none := fun m hm => by
      cases e : chk (circs g) m with
      | none => rfl
      | some r =>
        obtain ⟨u,h,k⟩ := r
        obtain ⟨p1,p2,p3⟩ := chk_small h6 e
        rcases hm with hm | ⟨c,hc,hm⟩
        · omega
        · have := (p3 c hc).len; omega
    by_cases h9 : l.length ≤ 9
    · obtain ⟨c,hc,hcl⟩ : ∃ c ∈ l,9 < c.length := by
        refine Decidable.byContradiction fun hh => h ⟨h9,fun c hc => ?_⟩
        exact Decidable.byContradiction fun h' => hh ⟨c,hc,by omega⟩
      refine ⟨hn _ (.inr ⟨c.take 9,?_,by rw [List.length_take]; omega⟩),hn _ (.inr ⟨c,hc,by omega⟩)⟩
      unfold Sp.table
      rw [List.take_of_length_le h9]
      exact List.mem_map_of_mem hc
    · exact ⟨hn _ (.inl (by unfold Sp.table; rw [List.length_map,List.length_take]; omega)),hn _ (.inl (by omega))⟩
set_option maxRecDepth 20000 in
set_option maxHeartbeats 4000000 in
theorem law14 (g : List Int) (l : List (List Int)) (hg : g.length < 9223372036854775808) (hw : ∀ s ∈ l,s.length < 9223372036854775808) (hl : l.length < 9223372036854775808) :
    Abs.Spec Try.prog 14 [.sl false false (mI g),.sl false false (mS l)] [] fun v H' => H' = [] ∧ v = B true := by
  obtain ⟨hw',hl'⟩ := tab_len hw hl
  have e19 : ∀ H,CallV Try.prog (.fn (.func 19) [] []) [] H fun v H' => v = B true ∧ H' = H := fun H => liftV s19 rfl rfl H
  have e16 : ∀ H,CallV Try.prog (.fn (.func 16) [] []) [.sl false false (mS l)] H fun v H' => v = .sl false false (mS (Sp.table l)) ∧ H' = H := fun H => liftV (s16 false false l hw hl) (by simp [bndL,AVal.bnd,mS_bnd]) (by simp [AVal.bnd,mS_bnd]) H
  have e27 : ∀ H,CallV Try.prog (.fn (.func 27) [] []) [.sl false false (mI g)] H fun v H' => v = .sl false false (mI (g.take 9)) ∧ H' = H := fun H => liftV (s27 false false g hg) (by simp [bndL,AVal.bnd,mI_bnd]) (by simp [AVal.bnd,mI_bnd]) H
  have hG : (g.take 9).length < 9223372036854775808 := by rw [List.length_take]; omega
  have h48 := s48 (g.take 9) hG
  have h51 := s51 (g.take 9) hG
  have h50 := s50 (g.take 9) (Sp.table l) hG hl'
  have e49 : ∀ H,CallV Try.prog (.fn (.func 49) [] []) [.sl false false (mI g)] H fun v H' => v = B (netV g) ∧ H' = H := fun H => liftV (s49 false false g hg) (by simp [bndL,AVal.bnd,mI_bnd]) rfl H
  rw [netV_take] at h48 h51 h50
  refine Abs.Spec.walk mixed fn14 nn14 t14 q14 nt14 (by simp) ?_
  have z00 : ((0 : Int) == 0) = true := rfl
  have z22 : ((2 : Int) == 2) = true := rfl
  simp only [w14,go_sem,Nat.reduceEqDiff,Nat.reduceAdd,Nat.reduceLT,Nat.reduceLeDiff,reduceIte,reduceCtorEq]
  refine CallK.pure (e27 _) ?_
  simp only [go_sem,Nat.reduceEqDiff,Nat.reduceAdd,Nat.reduceLT,Nat.reduceLeDiff,reduceIte,reduceCtorEq]
  cases hv : netV g with
  | false =>
    rw [hv,if_neg (by simp)] at h48 h51 h50
    rw [hv] at e49
    refine CallK.pure (liftV h51 (by simp [bndL,AVal.bnd,mI_bnd]) (by simp [AVal.bnd,bndL,mS_bnd]) _) ?_
    simp only [List.getD_cons_zero,List.getD_cons_succ,go_sem,Nat.reduceEqDiff,Nat.reduceAdd,Nat.reduceLT,Nat.reduceLeDiff,reduceIte,reduceCtorEq]
    refine CallK.pure (e27 _) ?_
    simp only [go_sem,Nat.reduceEqDiff,Nat.reduceAdd,Nat.reduceLT,Nat.reduceLeDiff,reduceIte,reduceCtorEq]
    refine CallK.pure (liftV h48 (by simp [bndL,AVal.bnd,mI_bnd]) (by simp [AVal.bnd,bndL,mS_bnd]) _) ?_
    simp only [List.getD_cons_zero,List.getD_cons_succ,go_sem,Nat.reduceEqDiff,Nat.reduceAdd,Nat.reduceLT,Nat.reduceLeDiff,reduceIte,reduceCtorEq]
    refine CallK.pure (e27 _) ?_
    simp only [go_sem,Nat.reduceEqDiff,Nat.reduceAdd,Nat.reduceLT,Nat.reduceLeDiff,reduceIte,reduceCtorEq]
    refine CallK.pure (e16 _) ?_
    simp only [go_sem,Nat.reduceEqDiff,Nat.reduceAdd,Nat.reduceLT,Nat.reduceLeDiff,reduceIte,reduceCtorEq]
    refine CallK.pure (liftV h50 (by simp [bndL,AVal.bnd,mI_bnd,mS_bnd]) rfl _) ?_
    simp only [List.getD_cons_zero,List.getD_cons_succ,go_sem,Nat.reduceEqDiff,Nat.reduceAdd,Nat.reduceLT,Nat.reduceLeDiff,reduceIte,reduceCtorEq]
    refine CallK.pure (e49 _) ?_
    have zw : (IntKind.i64.wrap (((0 : Nat) : Int) + ((0 : Nat) : Int)) == 0) = true := rfl
    simp only [z00,z22,zw,go_sem,Nat.reduceEqDiff,Nat.reduceAdd,Nat.reduceLT,Nat.reduceLeDiff,reduceIte,reduceCtorEq]
    refine CallK.pure (e19 _) ?_
    simp only [go_sem,Nat.reduceEqDiff,Nat.reduceAdd,Nat.reduceLT,Nat.reduceLeDiff,reduceIte,reduceCtorEq]
    exact leaf (B true) rfl ⟨rfl,rfl⟩
  | true =>
  rw [hv,if_pos rfl] at h48 h51 h50
  rw [hv] at e49
  obtain ⟨g1,g6⟩ := netV_len hv
  have hgt : g.take 9 = g := List.take_of_length_le (by omega)
  rw [hgt] at h48 h51 h50 ⊢
  have e27 : ∀ H,CallV Try.prog (.fn (.func 27) [] []) [.sl false false (mI g)] H fun v H' => v = .sl false false (mI g) ∧ H' = H := fun H => by have := e27 H; rwa [hgt] at this
  have e53 : ∀ H,CallV Try.prog (.fn (.func 53) [] []) [.sl false false (mI g)] H fun v H' => v = .sl false false (mS (circs g)) ∧ H' = H := fun H => liftV (s53 g hv) (by simp [bndL,AVal.bnd,mI_bnd]) (by simp [AVal.bnd,mS_bnd]) H
  have e54 : ∀ H,CallV Try.prog (.fn (.func 54) [] []) [.sl false false (mI g)] H fun v H' => v = I (mostR (circs g) 0) ∧ H' = H := fun H => liftV (s54 g hv) (by simp [bndL,AVal.bnd,mI_bnd]) rfl H
  have hb : ∀ m,(helA (circs g) m).bnd 0 = true := fun m => by unfold helA; split <;> rfl
  have e52 : ∀ m : List (List Int),(∀ s ∈ m,s.length < 9223372036854775808) → m.length < 9223372036854775808 → ∀ H,CallV Try.prog (.fn (.func 52) [] []) [.sl false false (mI g),.sl false false (mS m)] H fun v H' => v = helA (circs g) m ∧ H' = H := fun m h1 h2 H => liftV (s52 g m hv h1 h2) (by simp [bndL,AVal.bnd,mI_bnd,mS_bnd]) (hb m) H
  have hCl := circs_len g6
  have hCir : ∀ c ∈ circs g,Cir g c := fun c hc => circs_mem.1 hc
  have e46 : ∀ H,CallV Try.prog (.fn (.func 46) [] []) [.sl false false (mS (circs g)),.sl false false (mS (circs g)),.fn (.func 20) [] []] H fun v H' => v = B true ∧ H' = H := fun H => by
    have := s46 (circs g) (circs g) (fun c hc => by have := (hCir c hc).len; omega) (by omega) (by omega)
    rw [beq_self_eq_true] at this
    exact liftV this (by simp [bndL,AVal.bnd,mS_bnd]) rfl H
  obtain ⟨⟨u0,k0,hS⟩,hS2⟩ := swapsA_ok (circs_nodup g)
  obtain ⟨hn6,hS3,hSc⟩ := chk_small g6 hS
  generalize hSv : (swapsA (circs g)).1 = S at h48 hS hS3 hSc
  obtain ⟨N,hN⟩ : ∃ N,mostR (circs g) 0 = N := ⟨_,rfl⟩
  rw [hN] at hS hn6 e54
  have hSA : helA (circs g) S = .tup [I N,B true] := by rw [helA,hS]
  have eS := e52 S (fun c hc => by have := (hSc c hc).len; omega) (by omega)
  rw [hSA] at eS
  obtain ⟨m,r,h50',hl2⟩ : ∃ (m : Nat) (r : Bool),Abs.Spec Try.prog 50 [.sl false false (mI g),.sl false false (mS (Sp.table l))] [] (fun v H' => H' = [] ∧ v = .tup [I m,B r,I 0]) ∧ helA (circs g) l = .tup [I m,B r] := by
    rcases chk_table g6 l with h | ⟨h,h'⟩
    · rw [h] at h50 ⊢
      cases e : chk (circs g) l with
      | none => rw [e] at h50; exact ⟨0,false,h50,by rw [helA,e]; rfl⟩
      | some q =>
        obtain ⟨u,x,k⟩ := q
        rw [e] at h50; exact ⟨x,true,h50,by rw [helA,e]⟩
    · rw [h] at h50
      exact ⟨0,false,h50,by rw [helA,h']; rfl⟩
  have eL := e52 l hw hl
  rw [hl2] at eL
  refine CallK.pure (liftV h51 (by simp [bndL,AVal.bnd,mI_bnd]) (by simp [AVal.bnd,bndL,mS_bnd]) _) ?_
  simp only [List.getD_cons_zero,List.getD_cons_succ,go_sem,Nat.reduceEqDiff,Nat.reduceAdd,Nat.reduceLT,Nat.reduceLeDiff,reduceIte,reduceCtorEq]
  refine CallK.pure (e27 _) ?_
  simp only [go_sem,Nat.reduceEqDiff,Nat.reduceAdd,Nat.reduceLT,Nat.reduceLeDiff,reduceIte,reduceCtorEq]
  refine CallK.pure (liftV h48 (by simp [bndL,AVal.bnd,mI_bnd]) (by simp [AVal.bnd,bndL,mS_bnd]) _) ?_
  simp only [List.getD_cons_zero,List.getD_cons_succ,go_sem,Nat.reduceEqDiff,Nat.reduceAdd,Nat.reduceLT,Nat.reduceLeDiff,reduceIte,reduceCtorEq]
  refine CallK.pure (e27 _) ?_
  simp only [go_sem,Nat.reduceEqDiff,Nat.reduceAdd,Nat.reduceLT,Nat.reduceLeDiff,reduceIte,reduceCtorEq]
  refine CallK.pure (e16 _) ?_
  simp only [go_sem,Nat.reduceEqDiff,Nat.reduceAdd,Nat.reduceLT,Nat.reduceLeDiff,reduceIte,reduceCtorEq]
  refine CallK.pure (liftV h50' (by simp [bndL,AVal.bnd,mI_bnd,mS_bnd]) rfl _) ?_
  simp only [List.getD_cons_zero,List.getD_cons_succ,go_sem,Nat.reduceEqDiff,Nat.reduceAdd,Nat.reduceLT,Nat.reduceLeDiff,reduceIte,reduceCtorEq]
  refine CallK.pure (e49 _) ?_
  simp only [w14T0,go_sem,Nat.reduceEqDiff,Nat.reduceAdd,Nat.reduceLT,Nat.reduceLeDiff,reduceIte,reduceCtorEq]
  refine CallK.pure (eS _) ?_
  simp only [List.getD_cons_zero,List.getD_cons_succ,go_sem,Nat.reduceEqDiff,Nat.reduceAdd,Nat.reduceLT,Nat.reduceLeDiff,reduceIte,reduceCtorEq]
  refine CallK.pure (eL _) ?_
  simp only [List.getD_cons_zero,List.getD_cons_succ,go_sem,Nat.reduceEqDiff,Nat.reduceAdd,Nat.reduceLT,Nat.reduceLeDiff,reduceIte,reduceCtorEq]
  refine CallK.pure (e53 _) ?_
  simp only [go_sem,Nat.reduceEqDiff,Nat.reduceAdd,Nat.reduceLT,Nat.reduceLeDiff,reduceIte,reduceCtorEq]
  refine CallK.pure (e46 _) ?_
  simp only [z00,go_sem,Nat.reduceEqDiff,Nat.reduceAdd,Nat.reduceLT,Nat.reduceLeDiff,reduceIte,reduceCtorEq]
  refine CallK.pure (e54 _) ?_
  have nn1 : ((N : Int) == N) = true := beq_self_eq_true _
  have mm1 : ((m : Int) == m) = true := beq_self_eq_true _
  have rr1 : (r == r) = true := beq_self_eq_true _
  simp only [z00,nn1,mm1,rr1,go_sem,Nat.reduceEqDiff,Nat.reduceAdd,Nat.reduceLT,Nat.reduceLeDiff,reduceIte,reduceCtorEq]
  refine CallK.pure (e19 _) ?_
  simp only [go_sem,Nat.reduceEqDiff,Nat.reduceAdd,Nat.reduceLT,Nat.reduceLeDiff,reduceIte,reduceCtorEq]
  exact leaf (B true) rfl ⟨rfl,rfl⟩
end Go.Proofs.Ytkmmngphcodjjaa
