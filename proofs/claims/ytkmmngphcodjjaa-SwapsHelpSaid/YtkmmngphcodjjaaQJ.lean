/- Contracts: Circles,and who is in a circle; Contracts: Swaps; Nets: what is accepted is small; a wish more; the reference's nets; Contracts: SwapsHelp. -/
import Derived.Test.YtkmmngphcodjjaaQI
import Derived.Test.YtkmmngphcodjjaaBV
import Derived.Test.YtkmmngphcodjjaaQK
import Derived.Test.YtkmmngphcodjjaaBJ
import Derived.Test.YtkmmngphcodjjaaBE
namespace Go.Proofs.Ytkmmngphcodjjaa
open Go.Abs AVal
set_option linter.unusedSimpArgs false
attribute [local go_sem] W_skip W_keep KQ_canon canon Fr.norm W_seq W_block W_scope W_exit W_ret W_ops W_draw KQ_nil KQ_norm_seq KQ_exit_seq KQ_ret_seq KQ_norm_block KQ_ret_block KQ_exit_block KQ_exit_loop KQ_ret_loop O_nil O_cons S_call S_mv SE_mv SD_mv S_pick SE_pick SD_pick S_bin SE_bin SD_bin S_eqb SE_eqb SD_eqb S_eqv SE_eqv SD_eqv S_eqnil SE_eqnil SD_eqnil S_un SE_un SD_un S_conv SE_conv SD_conv S_mkfn SE_mkfn SD_mkfn S_load SE_load SD_load S_nilck SE_nilck SD_nilck S_slS SE_slS SD_slS S_slP SE_slP SD_slP S_fldA SE_fldA SD_fldA S_fld SE_fld SD_fld S_ixS SE_ixS SD_ixS S_ixP SE_ixP SD_ixP S_ixV SE_ixV SD_ixV S_ixStr SE_ixStr SD_ixStr S_ext SE_ext SD_ext S_len SE_len SD_len S_lenStr SE_lenStr SD_lenStr S_lenc SE_lenc SD_lenc S_mn SE_mn SD_mn S_mx SE_mx SD_mx S_build SE_build SD_build S_alloc SD_alloc S_box SD_box S_bslice SD_bslice S_mksl SD_mksl S_store SD_store S_append SD_append S_copy SD_copy S_clr SD_clr S_mlen SE_mlen SD_mlen S_mget SE_mget SD_mget S_mval SE_mval SD_mval S_mentry SE_mentry SD_mentry S_mkmap SD_mkmap S_mset SD_mset S_mrange SD_mrange S_mnext mlenA mgetA mvalA mentryA msetA mrangeA cells_mp isCell_mp cellsOk_mp aq_some aa_some al_some alA_some aqd_some aad_some ald_some ape_some D_done D_both D_early D_step SE_call SD_call IOpd.ev Fr.get Fr.put Fr.putd entryFr pickA binA binI isSh shI eqbA eqvA ints ints_mI Option.map_some eqnilA unA convA loadA nilckA intA slSA slPA fldAA fldVA ixSA ixPA ixVA ixStrA extA lenA lenStrA mnA mxA AVal.fits fillA fillOk buildA opa srcA appA stoA copA clrA rdFree zeros List.length_nil List.length_cons List.length_map List.map_cons List.map_nil Option.map_some Option.map_none if_true if_false ite_true ite_false true_and and_true and_self implies_true forall_const true_implies Bool.false_eq_true Bool.not_true Bool.not_false decide_eq_true_eq decide_eq_false_iff_not eq_self List.getElem?_cons_zero List.getElem?_cons_succ List.getElem?_nil List.set_cons_zero List.set_cons_succ List.nil_append List.cons_append List.append_nil List.replicate_zero List.replicate_succ Nat.zero_add false_implies rng_lt rng_end rng_get cells_I cells_B cells_sl cut_one Int.toNat_natCast Int.natCast_nonneg List.headD_cons Int.lt_irrefl not_false_eq_true decide_false decide_true mI_length mI_cells mI_sz mI_isCell mI_mid mI_append mI_take mI_drop cells_val cells_own cells_agg isCell_I isCell_B isCell_nil isCell_sl isCell_own isCell_ptr isCell_fn isCell_rp isCell_yld cellsOk_I cellsOk_B cellsOk_nil cellsOk_sl cellsOk_own cellsOk_ptr cellsOk_fn cellsOk_rp cellsOk_yld cellsOk_agg cells_nil cells_ptr cells_fn cells_rp List.all_cons List.all_nil Bool.and_true Nat.mul_one Nat.zero_mul Nat.one_mul List.take_zero List.take_nil List.drop_nil List.drop_zero List.not_mem_nil Nat.le_refl Nat.zero_le mS_length mS_cells mS_sz mS_isCell mS_mid mS_append mS_take mS_drop cells_sI isCell_sI cellsOk_sI sI_eq succ_le_self' List.take_succ_cons List.drop_succ_cons List.take_length beq_self_eq_true List.mem_cons or_false forall_eq mI_put mI_rep O_guard' D_earlyG' D_stepG' W_cond' G_tt G_tf G_ft G_ff GE_tt GE_tf GE_ft GE_ff GS_tt GS_tf GS_ft GS_ff G_u GE_u GS_u IC_t IC_f xft xff xtt xtf z00 z20 z22 z02 zz tn0
theorem netV_len {g : List Int} (h : netV g = true) : 1 ≤ g.length ∧ g.length ≤ 6 := by
  unfold netV at h; simp at h; exact ⟨h.1,h.2.1⟩
theorem s51 (g : List Int) (hl : g.length < 9223372036854775808) : Abs.Spec Try.prog 51 [.sl false false (mI g)] [] fun v H' => H' = [] ∧ v = if netV g then .tup [.sl false false (mS (circs g)),I 0] else .tup [.sl false false (mS []),I 2] := by
  refine Abs.Spec.walk mixed fn51 nn51 t51 q51 nt51 (by simp) ?_
  simp only [w51,go_sem,Nat.reduceEqDiff,Nat.reduceAdd,Nat.reduceLT,Nat.reduceLeDiff,reduceIte,reduceCtorEq]
  refine CallK.by (CallV.of_spec (s70 false false g hl)) fun v H' ⟨h1,h2⟩ => ?_
  subst h1 h2
  cases hv : netV g with
  | false =>
    simp only [go_sem,Nat.reduceEqDiff,Nat.reduceAdd,Nat.reduceLT,Nat.reduceLeDiff,reduceIte,reduceCtorEq]
    exact leaf2 (.tup [.sl false false (mS []),I 2]) ⟨⟨mS_bnd,rfl,rfl⟩,rfl,trivial⟩ ⟨rfl,rfl⟩
  | true =>
    have h6 := (netV_len hv).2
    simp only [go_sem,Nat.reduceEqDiff,Nat.reduceAdd,Nat.reduceLT,Nat.reduceLeDiff,reduceIte,reduceCtorEq]
    refine CallK.by (CallV.of_spec (s71 g h6)) fun v H' ⟨h1,h2⟩ => ?_
    subst h1 h2
    simp only [go_sem,Nat.reduceEqDiff,Nat.reduceAdd,Nat.reduceLT,Nat.reduceLeDiff,reduceIte,reduceCtorEq]
    exact leaf2 (.tup [.sl false false (mS (circs g)),I 0]) ⟨⟨mS_bnd,fun h => (by cases h),fun h => (by cases h),rfl⟩,rfl,trivial⟩ ⟨rfl,rfl⟩
theorem s74 (nn t : Bool) (c : List Int) (hl : c.length < 9223372036854775808) (h0 : ∀ x ∈ c,0 ≤ x) : Abs.Spec Try.prog 74 [.sl nn t (mI c)] [] fun v H' => H' = [] ∧ v = I (setL c) := by
  refine Abs.Spec.walk mixed fn74 nn74 t74 q74 nt74 (by simp) ?_
  simp only [w74,go_sem,Nat.reduceEqDiff,Nat.reduceAdd,Nat.reduceLT,Nat.reduceLeDiff,reduceIte,reduceCtorEq]
  refine W_loop (fun q : { q : Nat × Int // q.1 ≤ c.length ∧ setG q.2 (c.drop q.1) = setL c } => ([(3,I q.1.2),(6,.sl nn t (mI c)),(7,I c.length),(8,I q.1.1)],[])) (fun q => c.length - q.1.1) ⟨(0,0),by simp,rfl⟩ [] (Wk.nil (by simp [fle,vle,Fr.get,mI_bnd])) ?_
  rintro ⟨⟨i,m⟩,hi,hm⟩
  dsimp only at hi hm ⊢
  by_cases hil : i < c.length
  · have hz : (i : Int) < c.length := by omega
    have hwk : IntKind.i64.wrap ((i : Int) + 1) = ((i + 1 : Nat) : Int) := by rw [wrap64 (by omega) (by omega)]; rfl
    obtain ⟨x,hx⟩ : ∃ x,c.getD i 0 = x := ⟨_,rfl⟩
    have hx' : c[i] = x := by rw [← hx,List.getD_eq_getElem?_getD,List.getElem?_eq_getElem hil]; rfl
    have hx0 : 0 ≤ x := by rw [← hx']; exact h0 _ (List.getElem_mem _)
    rw [List.drop_eq_getElem_cons hil,hx'] at hm
    simp only [w74L0,hz,decide_true,mI_get,hil,hx,mI_hd,hwk,go_sem,Nat.reduceEqDiff,Nat.reduceAdd,Nat.reduceLT,Nat.reduceLeDiff,reduceIte,reduceCtorEq]
    refine ⟨hx0,?_⟩
    refine round0 rfl ⟨(i + 1,Sp.orI m (Sp.shl1 x)),hil,hm⟩ (by dsimp only; omega) rfl ?_
    simp [fle,vle,Fr.get,mI_bnd,Sp.orI,Sp.shl1,IntKind.bits]
  · have hz : ¬ (i : Int) < c.length := by omega
    obtain rfl : i = c.length := by omega
    rw [List.drop_length] at hm
    simp only [w74L0,hz,decide_false,w74T1,go_sem,Nat.reduceEqDiff,Nat.reduceAdd,Nat.reduceLT,Nat.reduceLeDiff,reduceIte,reduceCtorEq]
    exact leaf (I _) rfl ⟨rfl,by rw [← hm]; rfl⟩
theorem s75 (x T : List Int) (hx : x.length < 9223372036854775808) : Abs.Spec Try.prog 75 [sI x,.rp [.sl false false (mI T)]] [] fun v H' => v = B (x == T) ∧ H' = [] := by
  refine Abs.Spec.walk mixed fn75 nn75 t75 q75 nt75 (by simp) ?_
  simp only [w75,go_sem,Nat.reduceEqDiff,Nat.reduceAdd,Nat.reduceLT,Nat.reduceLeDiff,reduceIte,reduceCtorEq]
  refine CallK.by (CallV.of_spec (s20 false false false false x T hx)) fun v H' ⟨h1,h2⟩ => ?_
  subst h1 h2
  simp only [go_sem,Nat.reduceEqDiff,Nat.reduceAdd,Nat.reduceLT,Nat.reduceLeDiff,reduceIte,reduceCtorEq]
  exact leaf (B _) rfl ⟨rfl,rfl⟩
theorem Cir.nat {g x : List Int} (h : Cir g x) : ∀ y ∈ x,0 ≤ y ∧ y < g.length := by
  rcases h with ⟨a,b,h1,h2,-,-,rfl⟩ | ⟨a,b,c,h1,h2,h3,h4,-,-,-,-,rfl⟩ <;> intro y hy <;> simp at hy <;> omega
set_option maxHeartbeats 2000000 in
theorem s50 (g : List Int) (l : List (List Int)) (hl : g.length < 9223372036854775808) (hll : l.length < 9223372036854775808) : Abs.Spec Try.prog 50 [.sl false false (mI g),.sl false false (mS l)] [] fun v H' => H' = [] ∧ v = if netV g then (match chk (circs g) l with | none => .tup [I 0,B false,I 0] | some (_,h,_) => .tup [I h,B true,I 0]) else .tup [I 0,B false,I 2] := by
  refine Abs.Spec.walk mixed fn50 nn50 t50 q50 nt50 (by simp) ?_
  simp only [w50,go_sem,Nat.reduceEqDiff,Nat.reduceAdd,Nat.reduceLT,Nat.reduceLeDiff,reduceIte,reduceCtorEq]
  refine CallK.by (CallV.of_spec (s70 false false g hl)) fun v H' ⟨h1,h2⟩ => ?_
  subst h1 h2
  cases hv : netV g with
  | false =>
    simp only [go_sem,Nat.reduceEqDiff,Nat.reduceAdd,Nat.reduceLT,Nat.reduceLeDiff,reduceIte,reduceCtorEq]
    exact leaf3 (.tup [I 0,B false,I 2]) ⟨rfl,rfl,rfl,trivial⟩ ⟨rfl,rfl⟩
  | true =>
    have h6 := (netV_len hv).2
    simp only [w50T0,go_sem,Nat.reduceEqDiff,Nat.reduceAdd,Nat.reduceLT,Nat.reduceLeDiff,reduceIte,reduceCtorEq]
    refine CallK.by (CallV.of_spec (s71 g h6)) fun v H' ⟨h1,h2⟩ => ?_
    subst h1 h2
    have hCl := circs_len h6
    have hCn := circs_nodup g
    have hCir : ∀ x ∈ circs g,Cir g x := fun x hx => circs_mem.1 hx
    generalize circs g = C at hCl hCn hCir ⊢
    simp only [go_sem,Nat.reduceEqDiff,Nat.reduceAdd,Nat.reduceLT,Nat.reduceLeDiff,reduceIte,reduceCtorEq]
    refine W_loop (fun q : { q : Nat × Int × Nat × Int // q.1 ≤ l.length ∧ chkG C (l.drop q.1) (some q.2) = chk C l ∧ -1 ≤ q.2.2.2 ∧ q.2.2.2 < C.length ∧ (q.2.2.1 : Int) ≤ 3 * (q.2.2.2 + 1) } => ([(7,.sl false false (mS C)),(8,I q.1.2.1),(9,I q.1.2.2.1),(10,I q.1.2.2.2),(19,.sl false false (mS l)),(20,I l.length),(21,I q.1.1)],[])) (fun q => l.length - q.1.1) ⟨(0,0,0,-1),by simp,rfl,by simp,by simp; omega,by simp⟩ [] (Wk.nil (by simp [fle,vle,Fr.get,mS_bnd])) ?_
    rintro ⟨⟨i,u,h,k⟩,hi,hm,hk1,hkl,hh⟩
    dsimp only at hi hm hk1 hkl hh ⊢
    by_cases hil : i < l.length
    rotate_left
    · have hz : ¬ (i : Int) < l.length := by omega
      obtain rfl : i = l.length := by omega
      rw [List.drop_length] at hm
      simp only [w50L1,hz,decide_false,w50T5,go_sem,Nat.reduceEqDiff,Nat.reduceAdd,Nat.reduceLT,Nat.reduceLeDiff,reduceIte,reduceCtorEq]
      exact leaf3 (.tup [I h,B true,I 0]) ⟨rfl,rfl,rfl,trivial⟩ ⟨rfl,by rw [← hm]; rfl⟩
    have hz : (i : Int) < l.length := by omega
    have hwk : IntKind.i64.wrap ((i : Int) + 1) = ((i + 1 : Nat) : Int) := by rw [wrap64 (by omega) (by omega)]; rfl
    obtain ⟨c,hc⟩ : ∃ c,l.getD i [] = c := ⟨_,rfl⟩
    have hc' : l[i] = c := by rw [← hc,List.getD_eq_getElem?_getD,List.getElem?_eq_getElem hil]; rfl
    rw [List.drop_eq_getElem_cons hil,hc'] at hm
    simp only [w50L1,hz,decide_true,w50T2,mS_get,hil,hc,go_sem,Nat.reduceEqDiff,Nat.reduceAdd,Nat.reduceLT,Nat.reduceLeDiff,reduceIte,reduceCtorEq]
    refine W_view [] [(7,.sl false false (mS C)),(8,I u),(9,I h),(10,I k),(12,.rp [.sl false false (mI c)]),(19,.sl false false (mS l)),(20,I l.length),(21,I i)] [] (Wk.mk0 rfl (by simp [imgs]) (by simp [hle]) (by simp [fle,vle,vle.vleL,Fr.get,mS_bnd,mI_bnd,AVal.bnd,bndL,imgs])) ?_
    simp only [go_sem,Nat.reduceEqDiff,Nat.reduceAdd,Nat.reduceLT,Nat.reduceLeDiff,reduceIte,reduceCtorEq]
    refine CallK.by (CallV.of_spec (s65 false false C (.fn (.func 75) [] [.rp [.sl false false (mI c)]]) (fun x => x == c) (fun x hx => CallV.of_spec (first := []) (s75 x c (by have := (hCir x hx).len; omega))) (fun H => by simp [vle,vle.vleL,bndL,AVal.bnd,mI_bnd]) (by omega))) fun v H' ⟨h1,h2⟩ => ?_
    subst h1 h2
    have hstep : chkG C (c :: l.drop (i + 1)) (some (u,h,k)) = chkG C (l.drop (i + 1)) (stepC C (some (u,h,k)) c) := rfl
    rw [hstep,stepC] at hm
    obtain ⟨hj1,hj2⟩ := Sp.idx_lt (fun x => x == c) C
    have hfound : 0 ≤ Sp.idx (fun x => x == c) C → c ∈ C := fun h => by
      obtain ⟨i,x,-,hx,hp,-⟩ := idx_at2 h
      have : x = c := by simpa using hp
      subst this
      exact List.mem_of_getElem? hx
    generalize Sp.idx (fun x => x == c) C = j at hm hj1 hj2 hfound ⊢
    by_cases hjk : j ≤ k
    · rw [if_pos hjk,chkG_none] at hm
      simp only [decide_eq_true,hjk,go_sem,Nat.reduceEqDiff,Nat.reduceAdd,Nat.reduceLT,Nat.reduceLeDiff,reduceIte,reduceCtorEq]
      exact leaf3 (.tup [I 0,B false,I 0]) ⟨rfl,rfl,rfl,trivial⟩ ⟨rfl,by rw [← hm]⟩
    rw [if_neg hjk] at hm
    have hcC := hfound (by omega)
    have hcl := (hCir c hcC).len
    have e74 := fun H => liftV (s74 false false c (by omega) fun x hx => ((hCir c hcC).nat x hx).1) (by simp [bndL,AVal.bnd,mI_bnd]) rfl H
    simp only [decide_eq_false,hjk,go_sem,Nat.reduceEqDiff,Nat.reduceAdd,Nat.reduceLT,Nat.reduceLeDiff,reduceIte,reduceCtorEq]
    refine CallK.pure (e74 _) ?_
    by_cases hz2 : and2 (setL c) u = 0
    · have dz : (bitsI .and .i64 (setL c) u != 0) = false := by rw [show bitsI .and .i64 (setL c) u = 0 from hz2]; rfl
      rw [if_pos hz2] at hm
      have hw : IntKind.i64.wrap ((h : Int) + c.length) = ((h + c.length : Nat) : Int) := by rw [wrap64 (by omega) (by omega)]; omega
      simp only [dz,w50T3,go_sem,Nat.reduceEqDiff,Nat.reduceAdd,Nat.reduceLT,Nat.reduceLeDiff,reduceIte,reduceCtorEq]
      refine CallK.pure (e74 _) ?_
      simp only [w50T4,hwk,hw,go_sem,Nat.reduceEqDiff,Nat.reduceAdd,Nat.reduceLT,Nat.reduceLeDiff,reduceIte,reduceCtorEq]
      refine round0 rfl ⟨(i + 1,Sp.orI u (setL c),h + c.length,j),hil,hm,by dsimp only; omega,hj2,by dsimp only; omega⟩ (by dsimp only; omega) rfl ?_
      simp [fle,vle,Fr.get,mS_bnd,Sp.orI]
    · have dz : (bitsI .and .i64 (setL c) u != 0) = true := by rw [bne_iff_ne]; exact hz2
      rw [if_neg hz2,chkG_none] at hm
      simp only [dz,go_sem,Nat.reduceEqDiff,Nat.reduceAdd,Nat.reduceLT,Nat.reduceLeDiff,reduceIte,reduceCtorEq]
      exact leaf3 (.tup [I 0,B false,I 0]) ⟨rfl,rfl,rfl,trivial⟩ ⟨rfl,by rw [← hm]⟩
open Go.Abs AVal
def fn72v : AVal := .fn (.func 72) [] [.ptr 3 0,.ptr 2 0,.ptr 1 0,.ptr 0 0,.ptr 4 0]
theorem base6 {r : List (Option Nat)} : ∀ i,i < 6 → ((some 0 :: some 1 :: some 2 :: some 3 :: some 4 :: some 5 :: r : List (Option Nat))[i]?).join = some i := fun i hi => by
  rcases i with _ | _ | _ | _ | _ | _ | i
  all_goals first | rfl | omega
theorem leafB6 {t : Nat} {e : Ex} {fr : Fr} {H : AHeap} {R : AVal → AHeap → Prop} (v : AVal) (H2 : AHeap) (ρ : List (Option Nat)) (hw : Wk 6 [] ρ [(0,fr.get t)] H [(0,v)] H2) (hR : R v H2) (he : e = .norm ∨ e = .ret := by simp) : retA 6 [.tmp t] R e fr H [] :=
  ⟨he,by simp only [killM,resL,resA]; exact ⟨⟨trivial,trivial⟩,ρ,v,H2,hw,hR⟩⟩
theorem leafB60 {e : Ex} {fr : Fr} {H : AHeap} {R : AVal → AHeap → Prop} (H2 : AHeap) (ρ : List (Option Nat)) (hw : Wk 6 [] ρ [(0,.tup [])] H [(0,.tup [])] H2) (hR : R (.tup []) H2) (he : e = .norm ∨ e = .ret := by simp) : retA 6 [] R e fr H [] := by
  refine ⟨he,?_⟩
  simp only [killM,resL]
  exact ⟨trivial,ρ,.tup [],H2,hw,hR⟩
def Hn (C b : List (List Int)) (j n t : Nat) (r : AHeap) : AHeap := .cells [.sl false false (mS C)] :: .cells [.sl false false (mS b)] :: .cells [.own j 0 n n 1] :: .cells [I t] :: .cells [fn72v] :: r
theorem s73g (C b now E : List (List Int)) (t : Nat) (h1 : 1 ≤ now.length) (hE : E.take now.length = now) (hl : now.length ≤ 1000) :
    Abs.Spec Try.prog 73 [.own 5 0 now.length now.length 1] (Hn C b 5 now.length t [.cells (mS E)]) fun v H' => v = .own 6 0 now.length now.length 1 ∧ H' = Hn C b 5 now.length t [.cells (mS E),.cells (mS now)] := by
  refine Abs.Spec.walk mixed fn73 nn73 t73 q73 nt73 (by simp) ?_
  have hEl : now.length ≤ E.length := by rw [← hE,List.length_take]; omega
  have h0 : ¬ now.length ≤ 0 := by omega
  simp only [w73,h0,hE,Hn,go_sem,Nat.reduceEqDiff,Nat.reduceAdd,Nat.reduceLT,Nat.reduceLeDiff,reduceIte,reduceCtorEq]
  refine ⟨h1,⟨hEl,by omega⟩,?_⟩
  refine leafB6 (.own 6 0 now.length now.length 1) _ [some 0,some 1,some 2,some 3,some 4,some 5,some 7] ⟨rfl,base6,by simp [imgs,Blk.alive],by simp [hle,csle,vle,vle.vleL,fn72v,mS_bnd,bndL,AVal.bnd],by simp [fle,vle,Fr.get],fun m hm => by cases hm⟩ ⟨rfl,rfl⟩
theorem s72 (C : List (List Int)) (hCl : C.length ≤ 252) (hC3 : ∀ c ∈ C,2 ≤ c.length ∧ c.length ≤ 3) (hC0 : ∀ c ∈ C,∀ x ∈ c,0 ≤ x) : ∀ (m p : Nat) (u : Int) (h t : Nat) (now E b : List (List Int)),p + m = C.length → h ≤ 3 * p → (now = [] → h = 0) → now.length ≤ p → E.take now.length = now → 
    Abs.Spec Try.prog 72 [I p,I u,I h,.ptr 3 0,.ptr 2 0,.ptr 1 0,.ptr 0 0,.ptr 4 0] (Hn C b 5 now.length t [.cells (mS E)]) fun v H' => v = .tup [] ∧ ∃ E' : List (List Int),E'.take now.length = now ∧ H' = Hn C (loopR (C.drop p) u now h (bump now h (b,t))).1 6 now.length (loopR (C.drop p) u now h (bump now h (b,t))).2 [.dead,.cells (mS E')]
  | m,p,u,h,t,now,E,b,hp,hh,hn0,hnl,hE => by
    refine Abs.Spec.walk mixed fn72 nn72 t72 q72 nt72 (by simp) ?_
    have hEl : now.length ≤ E.length := by rw [← hE,List.length_take]; omega
    have tail : ∀ (fr : Fr) (H : AHeap) (st : List (List Int) × Nat),(∃ ρ,Wk 6 [] ρ fr H [(1,I u),(2,I h),(4,.ptr 2 0),(6,.ptr 0 0),(7,.ptr 4 0),(11,I p)] (Hn C st.1 6 now.length st.2 [.dead,.cells (mS E)])) → bump now h (b,t) = st → 
        W ⟨Try.prog,6,61,true⟩ (retA 6 r72 fun v H' => v = .tup [] ∧ ∃ E' : List (List Int),E'.take now.length = now ∧ H' = Hn C (loopR (C.drop p) u now h (bump now h (b,t))).1 6 now.length (loopR (C.drop p) u now h (bump now h (b,t))).2 [.dead,.cells (mS E')]) (.block 0 (.loop c72L1)) [] fr H [] := by
      rintro fr H st ⟨ρ,hw⟩ hst
      rw [hst]
      rw [W_block]
      refine W_loop (fun q : { q : Nat × (List (List Int) × Nat) × List (List Int) // p ≤ q.1 ∧ q.1 ≤ C.length ∧ q.2.2.take now.length = now ∧ loopR (C.drop q.1) u now h q.2.1 = loopR (C.drop p) u now h st } => ([(1,I u),(2,I h),(4,.ptr 2 0),(6,.ptr 0 0),(7,.ptr 4 0),(11,I q.1.1)],Hn C q.1.2.1.1 6 now.length q.1.2.1.2 [.dead,.cells (mS q.1.2.2)])) (fun q => C.length - q.1.1) ⟨(p,st,E),Nat.le_refl _,by dsimp only; omega,hE,rfl⟩ ρ hw ?_
      rintro ⟨⟨i,⟨b,t⟩,E⟩,hpi,hiC,hE,hinv⟩
      dsimp only at hpi hiC hE hinv ⊢
      have hEl : now.length ≤ E.length := by rw [← hE,List.length_take]; omega
      by_cases hil : i < C.length
      rotate_left
      · have d1 : ¬ (i : Int) < C.length := by omega
        obtain rfl : i = C.length := by omega
        rw [List.drop_length,loopR] at hinv
        simp only [w72L1,Hn,d1,decide_false,go_sem,Nat.reduceEqDiff,Nat.reduceAdd,Nat.reduceLT,Nat.reduceLeDiff,reduceIte,reduceCtorEq]
        refine leafB60 (Hn C b 6 now.length t [.dead,.cells (mS E)]) [some 0,some 1,some 2,some 3,some 4,some 5,some 6] ⟨rfl,base6,by simp [imgs,Blk.alive,Hn],by simp [hle,csle,vle,vle.vleL,fn72v,mS_bnd,bndL,AVal.bnd,imgs,Blk.alive,Hn],by simp [fle,vle,vle.vleL,Fr.get],fun m hm => by cases hm⟩ ⟨rfl,E,hE,by rw [← hinv]; rfl⟩
      have d1 : (i : Int) < C.length := by omega
      have hwk : IntKind.i64.wrap ((i : Int) + 1) = ((i + 1 : Nat) : Int) := by rw [wrap64 (by omega) (by omega)]; rfl
      obtain ⟨c,hc⟩ : ∃ c,C.getD i [] = c := ⟨_,rfl⟩
      have hc' : C[i] = c := by rw [← hc,List.getD_eq_getElem?_getD,List.getElem?_eq_getElem hil]; rfl
      have hcC : c ∈ C := by rw [← hc']; exact List.getElem_mem _
      have hc3 := hC3 c hcC
      have hd : C.drop i = c :: C.drop (i + 1) := by rw [List.drop_eq_getElem_cons hil,hc']
      have e74 := fun H => liftV (s74 false false c (by omega) (hC0 c hcC)) (by simp [bndL,AVal.bnd,mI_bnd]) rfl H
      rw [hd,loopR] at hinv
      simp only [w72L1,Hn,d1,decide_true,w72T2,mS_get,hil,hc,go_sem,Nat.reduceEqDiff,Nat.reduceAdd,Nat.reduceLT,Nat.reduceLeDiff,reduceIte,reduceCtorEq]
      refine CallK.pure (e74 _) ?_
      by_cases hz : and2 (setL c) u = 0
      rotate_left
      · have dz : (bitsI .and .i64 (setL c) u == 0) = false := by rw [beq_eq_false_iff_ne]; exact hz
        rw [if_neg hz] at hinv
        simp only [dz,w72T3,hwk,go_sem,Nat.reduceEqDiff,Nat.reduceAdd,Nat.reduceLT,Nat.reduceLeDiff,reduceIte,reduceCtorEq]
        exact KQ_round rfl ⟨(i + 1,(b,t),E),by dsimp only; omega,hil,hE,hinv⟩ [some 0,some 1,some 2,some 3,some 4,some 5,some 6] (by dsimp only; omega) ⟨rfl,base6,by simp [imgs,Blk.alive],by simp [hle,csle,vle,vle.vleL,fn72v,mS_bnd,bndL,AVal.bnd,imgs,Blk.alive],by simp [fle,vle,Fr.get,imgs,Blk.alive],fun m hm => by cases hm⟩
      have dz : (bitsI .and .i64 (setL c) u == 0) = true := by rw [show bitsI .and .i64 (setL c) u = 0 from hz]; rfl
      rw [if_pos hz] at hinv
      have hw2 : IntKind.i64.wrap ((h : Int) + c.length) = ((h + c.length : Nat) : Int) := by rw [wrap64 (by omega) (by omega)]; omega
      simp only [dz,mS_get,hil,hc,hwk,hw2,go_sem,Nat.reduceEqDiff,Nat.reduceAdd,Nat.reduceLT,Nat.reduceLeDiff,reduceIte,reduceCtorEq]
      refine ⟨d1,⟨hEl,by omega⟩,d1,?_⟩
      have hnc : (now ++ [c]).length = now.length + 1 := by rw [List.length_append]; rfl
      have hms : mS (E.take now.length) ++ [.sl false false (mI c)] = mS (now ++ [c]) := by rw [hE,← mS_append]; rfl
      rw [hms]
      have ih := s72 C hCl hC3 hC0 (C.length - (i + 1)) (i + 1) (Sp.orI u (setL c)) (h + c.length) t (now ++ [c]) (now ++ [c]) b (by omega) (by omega) (fun e => by simp at e) (by omega) (List.take_length)
      generalize hst' : loopR (C.drop (i + 1)) (Sp.orI u (setL c)) (now ++ [c]) (h + c.length) (bump (now ++ [c]) (h + c.length) (b,t)) = st' at ih hinv
      refine CallKD.by (R := fun v H' => v = .tup [] ∧ ∃ E' : List (List Int),E'.take (now ++ [c]).length = now ++ [c] ∧ H' = Hn C st'.1 9 (now.length + 1) st'.2 [.dead,.dead,.dead,.dead,.cells (mS E')]) (CallV.of_spec (Spec.renum (ρ := [some 0,some 1,some 2,some 3,some 4,some 8]) ih rfl (Wk.mk0 rfl (by simp [imgs,Blk.alive,Hn]) (by simp [hle,csle,vle,vle.vleL,fn72v,mS_bnd,bndL,AVal.bnd,imgs,Blk.alive,Hn]) (by simp [fle,vle,Fr.get,imgs,Blk.alive,Hn,entryFr,Sp.orI])) ?_)) ?_
      · rintro v H2 ⟨rfl,E',hE',rfl⟩
        refine ⟨[some 0,some 1,some 2,some 3,some 4,some 12,some 13,some 14,some 15,some 6],.tup [],_,Wk.mk0 rfl ?_ ?_ ?_,⟨rfl,E',hE',rfl⟩,?_,?_⟩
        · simp [imgs,Blk.alive,Hn]
        · simp [hle,csle,vle,vle.vleL,fn72v,mS_bnd,bndL,AVal.bnd,imgs,Blk.alive,Hn]
        · simp [fle,vle,vle.vleL,Fr.get]
        · simp [Hn]
        · intro k hk
          rw [show (List.length _) = 9 from rfl] at hk
          rcases k with _ | _ | _ | _ | _ | _ | _ | _ | _ | k
          all_goals first | exact .inl rfl | exact .inr ⟨_,rfl,by simp [Hn],rfl⟩ | omega
      · rintro v H' ⟨rfl,E',hE',rfl⟩
        have hE2 : E'.take now.length = now := by
          have := congrArg (List.take now.length) hE'
          rwa [List.take_take,List.take_left,hnc,Nat.min_eq_left (by omega)] at this
        have hw3 : IntKind.i64.wrap (((now.length + 1 : Nat) : Int) - 1) = (now.length : Int) := by rw [wrap64 (by omega) (by omega)]; omega
        simp only [Hn,hw3,w72T3,hwk,go_sem,Nat.reduceEqDiff,Nat.reduceAdd,Nat.reduceLT,Nat.reduceLeDiff,reduceIte,reduceCtorEq]
        exact ⟨⟨by omega,by omega,.inl trivial⟩,KQ_round rfl ⟨(i + 1,st',E'),by dsimp only; omega,hil,hE2,hinv⟩ [some 0,some 1,some 2,some 3,some 4,some 5,some 9] (by dsimp only; omega) ⟨rfl,base6,by simp [imgs,Blk.alive],by simp [hle,csle,vle,vle.vleL,fn72v,mS_bnd,bndL,AVal.bnd,imgs,Blk.alive],by simp [fle,vle,Fr.get,imgs,Blk.alive],fun m hm => by cases hm⟩⟩
    simp only [w72,Hn,go_sem,Nat.reduceEqDiff,Nat.reduceAdd,Nat.reduceLT,Nat.reduceLeDiff,reduceIte,reduceCtorEq]
    refine IC.splitP (fun hb => ?_) fun hb => ?_
    · have hnow : 1 ≤ now.length := by
        rcases now with _ | ⟨x,now⟩
        · have := hn0 rfl; omega
        · simp
      simp only [go_sem,Nat.reduceEqDiff,Nat.reduceAdd,Nat.reduceLT,Nat.reduceLeDiff,reduceIte,reduceCtorEq]
      refine CallK.by (CallV.of_spec (first := []) (s73g C b now E t hnow hE (by omega))) fun v H' ⟨e1,e2⟩ => ?_
      subst e1 e2
      simp only [Hn,w72T0,go_sem,Nat.reduceEqDiff,Nat.reduceAdd,Nat.reduceLT,Nat.reduceLeDiff,reduceIte,reduceCtorEq]
      refine tail _ _ (now,h) ⟨[some 0,some 1,some 2,some 3,some 4,some 5,some 5],rfl,base6,by simp [imgs,Blk.alive,Hn],?_,?_,fun m hm => by cases hm⟩ (by unfold bump; rw [if_pos (by dsimp only; omega)])
      · simp [hle,csle,vle,vle.vleL,fn72v,mS_bnd,bndL,AVal.bnd,Hn,imgs,Blk.alive,mS_length,mS_sz,mS_cells,List.take_of_length_le]
      · simp [fle,vle,Fr.get,imgs,Blk.alive,Hn]
    · simp only [w72T0,go_sem,Nat.reduceEqDiff,Nat.reduceAdd,Nat.reduceLT,Nat.reduceLeDiff,reduceIte,reduceCtorEq]
      refine tail _ _ (b,t) ⟨[some 0,some 1,some 2,some 3,some 4,some 5,some 5],rfl,base6,by simp [imgs,Blk.alive,Hn],?_,?_,fun m hm => by cases hm⟩ (by unfold bump; rw [if_neg (by dsimp only; omega)])
      · simp [hle,csle,vle,vle.vleL,fn72v,mS_bnd,bndL,AVal.bnd,Hn,imgs,Blk.alive]
      · simp [fle,vle,Fr.get,imgs,Blk.alive,Hn]
theorem s48 (g : List Int) (hl : g.length < 9223372036854775808) : Abs.Spec Try.prog 48 [.sl false false (mI g)] [] fun v H' => H' = [] ∧ v = if netV g then .tup [.sl false false (mS (swapsA (circs g)).1),I 0] else .tup [.sl false false (mS []),I 2] := by
  refine Abs.Spec.walk mixed fn48 nn48 t48 q48 nt48 (by simp) ?_
  simp only [w48,go_sem,Nat.reduceEqDiff,Nat.reduceAdd,Nat.reduceLT,Nat.reduceLeDiff,reduceIte,reduceCtorEq]
  refine CallK.by (CallV.of_spec (s70 false false g hl)) fun v H' ⟨h1,h2⟩ => ?_
  subst h1 h2
  cases hv : netV g with
  | false =>
    simp only [go_sem,Nat.reduceEqDiff,Nat.reduceAdd,Nat.reduceLT,Nat.reduceLeDiff,reduceIte,reduceCtorEq]
    exact leaf2 (.tup [.sl false false (mS []),I 2]) ⟨⟨mS_bnd,rfl,rfl⟩,rfl,trivial⟩ ⟨rfl,rfl⟩
  | true =>
    have h6 := (netV_len hv).2
    simp only [w48T0,go_sem,Nat.reduceEqDiff,Nat.reduceAdd,Nat.reduceLT,Nat.reduceLeDiff,reduceIte,reduceCtorEq]
    refine CallK.by (CallV.of_spec (s71 g h6)) fun v H' ⟨h1,h2⟩ => ?_
    subst h1 h2
    have hCl := circs_len h6
    have hCir : ∀ x ∈ circs g,Cir g x := fun x hx => circs_mem.1 hx
    generalize circs g = C at hCl hCir ⊢
    have ih := s72 C hCl (fun c hc => (hCir c hc).len) (fun c hc x hx => ((hCir c hc).nat x hx).1) C.length 0 0 0 0 [] [] [] (by omega) (by omega) (fun _ => rfl) (by simp) rfl
    have hb : bump [] 0 (([],0) : List (List Int) × Nat) = ([],0) := rfl
    rw [hb,List.drop_zero] at ih
    have hA : loopR C 0 [] 0 ([],0) = swapsA C := rfl
    rw [hA] at ih
    simp only [go_sem,Nat.reduceEqDiff,Nat.reduceAdd,Nat.reduceLT,Nat.reduceLeDiff,reduceIte,reduceCtorEq]
    refine CallK.by (R := fun v H' => v = .tup [] ∧ ∃ E' : List (List Int),H' = Hn C (swapsA C).1 5 0 (swapsA C).2 [.cells (mS E')]) (CallV.of_spec (Spec.renum (ρ := [some 0,some 1,some 2,some 3,some 4,none]) ih rfl (Wk.mk0 rfl (by simp [imgs,Blk.alive,Hn]) (by simp [hle,csle,vle,vle.vleL,fn72v,mS_bnd,mS_nil,bndL,AVal.bnd,imgs,Blk.alive,Hn]) (by simp [fle,vle,Fr.get,imgs,Blk.alive,Hn,entryFr])) ?_)) ?_
    · rintro v H2 ⟨rfl,E',hE',rfl⟩
      refine ⟨[some 0,some 1,some 2,some 3,some 4,some 6],.tup [],_,Wk.mk0 rfl ?_ ?_ ?_,⟨rfl,E',rfl⟩,?_,?_⟩
      · simp [imgs,Blk.alive,Hn]
      · simp [hle,csle,vle,vle.vleL,fn72v,mS_bnd,bndL,AVal.bnd,imgs,Blk.alive,Hn]
      · simp [fle,vle,vle.vleL,Fr.get]
      · simp [Hn]
      · intro k hk
        rw [show (List.length _) = 5 from rfl] at hk
        rcases k with _ | _ | _ | _ | _ | k
        all_goals first | exact .inr ⟨_,rfl,by simp [Hn],rfl⟩ | omega
    · rintro v H' ⟨rfl,E',rfl⟩
      simp only [Hn,go_sem,Nat.reduceEqDiff,Nat.reduceAdd,Nat.reduceLT,Nat.reduceLeDiff,reduceIte,reduceCtorEq]
      exact leaf2 (.tup [.sl false false (mS (swapsA C).1),I 0]) ⟨⟨mS_bnd,fun h => (by cases h),fun h => (by cases h),rfl⟩,rfl,trivial⟩ ⟨rfl,rfl⟩
open Go.Abs AVal
set_option maxRecDepth 100000 in
theorem add_dec : ∀ u : Nat,u < 64 → ∀ m : Nat,m < 64 → and2 m u = 0 → Sp.pc (Sp.orI u m) = Sp.pc u + Sp.pc m ∧ 0 ≤ Sp.orI u m ∧ Sp.orI u m < 64 := by decide +kernel
theorem pc_add {u m : Int} (hu : Sp.isSet u) (hm : Sp.isSet m) (h : and2 m u = 0) : Sp.pc (Sp.orI u m) = Sp.pc u + Sp.pc m ∧ Sp.isSet (Sp.orI u m) := by
  have := add_dec u.toNat (by have := hu.1; have := hu.2; omega) m.toNat (by have := hm.1; have := hm.2; omega)
  rw [Int.toNat_of_nonneg hu.1,Int.toNat_of_nonneg hm.1] at this
  exact this h
theorem pc_six {u : Int} (hu : Sp.isSet u) : Sp.pc u ≤ 6 := by
  unfold Sp.pc
  have := List.countP_le_length (p := fun j => Sp.has u j) (l := List.range 6)
  simpa using this
set_option maxRecDepth 100000 in
theorem two_dec : ∀ a : Nat,a < 6 → ∀ b : Nat,b < 6 → a ≠ b → Sp.pc (setL [(a : Int),b]) = 2 ∧ 0 ≤ setL [(a : Int),b] ∧ setL [(a : Int),b] < 64 := by decide +kernel
set_option synthInstance.maxSize 2000 in
set_option synthInstance.maxHeartbeats 400000 in
set_option maxRecDepth 100000 in
theorem three_dec : ∀ a : Nat,a < 6 → ∀ b : Nat,b < 6 → ∀ c : Nat,c < 6 → (a ≠ b ∧ a ≠ c ∧ b ≠ c) → Sp.pc (setL [(a : Int),b,c]) = 3 ∧ 0 ≤ setL [(a : Int),b,c] ∧ setL [(a : Int),b,c] < 64 := by decide +kernel
theorem Cir.set {g x : List Int} (h6 : g.length ≤ 6) (h : Cir g x) : Sp.pc (setL x) = x.length ∧ Sp.isSet (setL x) := by
  rcases h with ⟨a,b,h1,h2,-,-,rfl⟩ | ⟨a,b,c,h1,h2,h3,h4,h5,-,-,-,rfl⟩
  · exact two_dec a (by omega) b (by omega) (by omega)
  · exact three_dec a (by omega) b (by omega) c (by omega) ⟨by omega,by omega,by omega⟩
theorem chk_set {g : List Int} (h6 : g.length ≤ 6) : ∀ (l : List (List Int)) {u u' : Int} {h h' : Nat} {k k' : Int},Sp.isSet u → Sp.pc u = h → -1 ≤ k → chkG (circs g) l (some (u,h,k)) = some (u',h',k') → Sp.isSet u' ∧ Sp.pc u' = h' ∧ h + 2 * l.length ≤ h' ∧ ∀ c ∈ l,Cir g c
  | [],u,u',h,h',k,k',hu,hp,_,e => by
    have : (u,h,k) = (u',h',k') := Option.some.inj e
    simp at this
    obtain ⟨rfl,rfl,rfl⟩ := this
    exact ⟨hu,hp,by simp,by simp⟩
  | c :: l,u,u',h,h',k,k',hu,hp,hk,e => by
    have e' : chkG (circs g) l (stepC (circs g) (some (u,h,k)) c) = some (u',h',k') := e
    unfold stepC at e'
    dsimp only at e'
    split at e'
    · rw [chkG_none] at e'; cases e'
    · rename_i h1
      split at e'
      · rename_i h2
        obtain ⟨i,x,hi,hx,hp',-⟩ := idx_at2 (p := fun x => x == c) (xs := circs g) (by omega)
        have hxc : x = c := by simpa using hp'
        subst hxc
        have hc := circs_mem.1 (List.mem_of_getElem? hx)
        obtain ⟨p1,p2⟩ := hc.set h6
        obtain ⟨q1,q2⟩ := pc_add hu p2 h2
        have hl := hc.len
        obtain ⟨r1,r2,r3,r4⟩ := chk_set h6 l q2 (by rw [q1,hp,p1]) (by omega) e'
        refine ⟨r1,r2,by rw [List.length_cons]; omega,fun y hy => ?_⟩
        rcases List.mem_cons.1 hy with rfl | hy
        · exact hc
        · exact r4 y hy
      · rw [chkG_none] at e'; cases e'
theorem chk_small {g : List Int} (h6 : g.length ≤ 6) {l : List (List Int)} {u : Int} {h : Nat} {k : Int} (e : chk (circs g) l = some (u,h,k)) : h ≤ 6 ∧ 2 * l.length ≤ h ∧ ∀ c ∈ l,Cir g c := by
  obtain ⟨r1,r2,r3,r4⟩ := chk_set h6 l (u := 0) (h := 0) (k := -1) ⟨by omega,by omega⟩ rfl (by omega) e
  have := pc_six r1
  exact ⟨by omega,by omega,r4⟩
theorem table_of {l : List (List Int)} (h : l.length ≤ 9) (h2 : ∀ c ∈ l,c.length ≤ 9) : Sp.table l = l := by
  unfold Sp.table
  rw [List.take_of_length_le h]
  conv => rhs; rw [← List.map_id l]
  exact List.map_congr_left fun c hc => List.take_of_length_le (h2 c hc)
theorem netV_take (g : List Int) : netV (g.take 9) = netV g := by
  by_cases h : g.length ≤ 9
  · rw [List.take_of_length_le h]
  · unfold netV
    rw [decide_eq_false (show ¬ g.length ≤ 6 by omega),decide_eq_false (show ¬ (g.take 9).length ≤ 6 by rw [List.length_take]; omega)]
    simp
def moreN (g : List Int) (i j : Nat) : List Int := g.set i (Sp.orI (g.getD i 0) (Sp.shl1 j))
set_option maxRecDepth 100000 in
theorem more_dec : ∀ n : Nat,n < 7 → ∀ k : Nat,k < 2 ^ n → ∀ j : Nat,j < n → Sp.orI k (Sp.shl1 j) < (2 ^ n : Nat) := by decide +kernel
theorem netV_at {g : List Int} (h : netV g = true) {k : Nat} (hk : k < g.length) : 0 ≤ g.getD k 0 ∧ g.getD k 0 < (2 ^ g.length : Nat) ∧ hp g k k = false ∧ Sp.isSet (g.getD k 0) := by
  have h6 := (netV_len h).2
  unfold netV at h
  simp only [Bool.and_eq_true,List.all_eq_true,List.mem_range] at h
  have := h.2.2 k hk
  unfold netAt at this
  simp only [Bool.and_eq_true,decide_eq_true_eq,Bool.not_eq_true'] at this
  have h64 := (two_pow6 h6).2.1
  exact ⟨this.1,this.2.1,this.2.2,this.1,by omega⟩
theorem more_get (g : List Int) (i j a : Nat) : (moreN g i j).getD a 0 = if i = a ∧ a < g.length then Sp.orI (g.getD i 0) (Sp.shl1 j) else g.getD a 0 := by
  unfold moreN
  rw [List.getD_eq_getElem?_getD,List.getElem?_set]
  by_cases h : i = a
  · subst h
    by_cases hl : i < g.length
    · rw [if_pos rfl,if_pos hl,if_pos ⟨rfl,hl⟩]; rfl
    · rw [if_pos rfl,if_neg hl,if_neg fun h => hl h.2,List.getD_eq_getElem?_getD,List.getElem?_eq_none (by omega)]
  · rw [if_neg h,if_neg fun h' => h h'.1,List.getD_eq_getElem?_getD]
theorem more_hp {g : List Int} (h : netV g = true) {i j : Nat} (hi : i < g.length) (hj : j < g.length) {a b : Nat} (ha : a < g.length) (hb : b < g.length) : hp (moreN g i j) a b = (hp g a b || (decide (i = a) && decide (b = j))) := by
  have h6 := (netV_len h).2
  unfold hp
  rw [more_get]
  by_cases hia : i = a
  · subst hia
    rw [if_pos ⟨rfl,hi⟩,Sp.has_or (netV_at h hi).2.2.2 (by omega) (by omega)]
    simp
  · rw [if_neg fun h => hia h.1]; simp [hia]
theorem more_net {g : List Int} (h : netV g = true) {i j : Nat} (hi : i < g.length) (hj : j < g.length) (hij : i ≠ j) : netV (moreN g i j) = true := by
  obtain ⟨h1,h6⟩ := netV_len h
  have hl : (moreN g i j).length = g.length := by unfold moreN; rw [List.length_set]
  unfold netV
  rw [hl,decide_eq_true h1,decide_eq_true h6,Bool.true_and,Bool.true_and,List.all_eq_true]
  intro a ha
  have ha := List.mem_range.1 ha
  obtain ⟨n1,n2,n3,n4⟩ := netV_at h ha
  unfold netAt
  rw [more_hp h hi hj ha ha,n3,more_get,hl]
  have : (decide (i = a) && decide (a = j)) = false := by simp; omega
  rw [this]
  by_cases hia : i = a
  · subst hia
    rw [if_pos ⟨rfl,ha⟩]
    obtain ⟨o1,o2⟩ := Sp.or_set n4 (show j < 6 by omega)
    have := more_dec g.length (by omega) (g.getD i 0).toNat (by omega) j hj
    rw [Int.toNat_of_nonneg n1] at this
    rw [decide_eq_true o1,decide_eq_true this]; rfl
  · rw [if_neg fun h => hia h.1,decide_eq_true n1,decide_eq_true n2]; rfl
theorem more_cir {g : List Int} (h : netV g = true) {i j : Nat} (hi : i < g.length) (hj : j < g.length) {x : List Int} (hx : Cir g x) : Cir (moreN g i j) x := by
  have hl : (moreN g i j).length = g.length := by unfold moreN; rw [List.length_set]
  rcases hx with ⟨a,b,h1,h2,h3,h4,rfl⟩ | ⟨a,b,c,h1,h2,h3,h4,h5,h6,h7,h8,rfl⟩
  · exact .inl ⟨a,b,h1,by omega,by rw [more_hp h hi hj (by omega) h2,h3]; rfl,by rw [more_hp h hi hj h2 (by omega),h4]; rfl,rfl⟩
  · exact .inr ⟨a,b,c,h1,by omega,h3,by omega,h5,by rw [more_hp h hi hj (by omega) h2,h6]; rfl,by rw [more_hp h hi hj h2 h4,h7]; rfl,by rw [more_hp h hi hj h4 (by omega),h8]; rfl,rfl⟩
set_option maxHeartbeats 1000000 in
theorem s49 (nn t : Bool) (g : List Int) (hl : g.length < 9223372036854775808) : Abs.Spec Try.prog 49 [.sl nn t (mI g)] [] fun v H' => H' = [] ∧ v = B (netV g) := by
  refine Abs.Spec.walk mixed fn49 nn49 t49 q49 nt49 (by simp) ?_
  have hV : g.length ≤ 6 → 1 ≤ g.length → netV g = (List.range g.length).all (netAt g) := fun h h1 => by unfold netV; rw [decide_eq_true h,decide_eq_true h1]; rfl
  have hF : ¬ g.length ≤ 6 → netV g = false := fun h => by unfold netV; rw [decide_eq_false h]; simp
  simp only [w49,go_sem,Nat.reduceEqDiff,Nat.reduceAdd,Nat.reduceLT,Nat.reduceLeDiff,reduceIte,reduceCtorEq]
  refine W_loop (fun q : { i : Nat // i ≤ g.length ∧ (g.length ≤ 6 → (List.range i).all (netAt g) = true) } => ([(0,.sl nn t (mI g)),(5,.sl nn t (mI g)),(6,I g.length),(7,I q.1)],[])) (fun q => g.length - q.1) ⟨0,by omega,fun _ => rfl⟩ [] (Wk.nil (by simp [fle,vle,Fr.get,mI_bnd])) ?_
  rintro ⟨i,hi,hinv⟩
  dsimp only
  by_cases hil : i < g.length
  · have d3 : (i : Int) < g.length := by omega
    have hwk : IntKind.i64.wrap ((i : Int) + 1) = ((i + 1 : Nat) : Int) := by rw [wrap64 (by omega) (by omega)]; rfl
    obtain ⟨x,hx⟩ : ∃ x,g.getD i 0 = x := ⟨_,rfl⟩
    have hat : netAt g i = (decide (0 ≤ x) && (decide (x < (2 ^ g.length : Nat)) && !Sp.has x i)) := by unfold netAt hp; rw [hx]
    have bad : (g.length ≤ 6 → netAt g i = false) → netV g = false := fun h => by
      by_cases h6 : g.length ≤ 6
      · rw [hV h6 (by omega)]; exact all_bad hil (h h6)
      · exact hF h6
    obtain ⟨M,hM⟩ : ∃ M,IntKind.i64.wrap (1 * 2 ^ min g.length 64) = M := ⟨_,rfl⟩
    have hM6 : g.length ≤ 6 → M = ((2 ^ g.length : Nat) : Int) := fun h => by rw [← hM]; exact (two_pow6 h).2.2
    by_cases x0 : x < 0
    · have e1 : decide (x < 0) = true := decide_eq_true x0
      simp only [w49L0,d3,decide_true,mI_get,hil,hx,mI_hd,e1,go_sem,Nat.reduceEqDiff,Nat.reduceAdd,Nat.reduceLT,Nat.reduceLeDiff,reduceIte,reduceCtorEq]
      exact leaf (B false) rfl ⟨rfl,by rw [bad fun _ => by rw [hat,decide_eq_false (by omega)]; rfl]⟩
    have e1 : decide (x < 0) = false := decide_eq_false x0
    by_cases x1 : x ≥ M
    · have e2 : decide (x ≥ M) = true := decide_eq_true x1
      simp only [w49L0,d3,decide_true,mI_get,hil,hx,mI_hd,e1,hM,e2,go_sem,Nat.reduceEqDiff,Nat.reduceAdd,Nat.reduceLT,Nat.reduceLeDiff,reduceIte,reduceCtorEq]
      repeat (refine ⟨by omega,?_⟩)
      exact leaf (B false) rfl ⟨rfl,by rw [bad fun h => by have := hM6 h; rw [hat,decide_eq_false (show ¬ x < _ by omega)]; simp]⟩
    have e2 : decide (x ≥ M) = false := decide_eq_false x1
    have eb : (bitsI .and .i64 (x.fdiv (2 ^ min i 64)) 1 == 1) = Sp.has x i := rfl
    cases hh : Sp.has x i with
    | true =>
      rw [hh] at eb
      simp only [w49L0,d3,decide_true,mI_get,hil,hx,mI_hd,e1,hM,e2,eb,go_sem,Nat.reduceEqDiff,Nat.reduceAdd,Nat.reduceLT,Nat.reduceLeDiff,reduceIte,reduceCtorEq]
      repeat (refine ⟨by omega,?_⟩)
      exact leaf (B false) rfl ⟨rfl,by rw [bad fun _ => by rw [hat,hh]; simp]⟩
    | false =>
      rw [hh] at eb
      simp only [w49L0,d3,decide_true,mI_get,hil,hx,mI_hd,e1,hM,e2,eb,hwk,go_sem,Nat.reduceEqDiff,Nat.reduceAdd,Nat.reduceLT,Nat.reduceLeDiff,reduceIte,reduceCtorEq]
      repeat (refine ⟨by omega,?_⟩)
      exact round0 rfl ⟨i + 1,hil,fun h => by have := hM6 h; rw [range_all_snoc,hinv h,hat,hh,decide_eq_true (by omega),decide_eq_true (by omega)]; rfl⟩ (by dsimp only; omega) rfl (by simp [fle,vle,Fr.get,mI_bnd])
  · have d3 : ¬ (i : Int) < g.length := by omega
    obtain rfl : i = g.length := by omega
    by_cases h1 : 1 ≤ g.length
    · have d1 : decide ((g.length : Int) ≥ 1) = true := decide_eq_true (by omega)
      by_cases h6 : g.length ≤ 6
      · have d6 : decide ((g.length : Int) ≤ 6) = true := decide_eq_true (by omega)
        simp only [w49L0,d3,decide_false,w49T1,d1,d6,go_sem,Nat.reduceEqDiff,Nat.reduceAdd,Nat.reduceLT,Nat.reduceLeDiff,reduceIte,reduceCtorEq]
        exact leaf (B true) rfl ⟨rfl,by rw [hV h6 h1,hinv h6]⟩
      · have d6 : decide ((g.length : Int) ≤ 6) = false := decide_eq_false (by omega)
        simp only [w49L0,d3,decide_false,w49T1,d1,d6,go_sem,Nat.reduceEqDiff,Nat.reduceAdd,Nat.reduceLT,Nat.reduceLeDiff,reduceIte,reduceCtorEq]
        exact leaf (B false) rfl ⟨rfl,by rw [hF h6]⟩
    · have d1 : decide ((g.length : Int) ≥ 1) = false := decide_eq_false (by omega)
      simp only [w49L0,d3,decide_false,w49T1,d1,go_sem,Nat.reduceEqDiff,Nat.reduceAdd,Nat.reduceLT,Nat.reduceLeDiff,reduceIte,reduceCtorEq]
      exact leaf (B false) rfl ⟨rfl,by unfold netV; rw [decide_eq_false (by omega)]; rfl⟩
open Go.Abs AVal
theorem s27o (t : Bool) (xs : List Int) (h1 : 1 ≤ xs.length) (h9 : xs.length ≤ 9) : Abs.Spec Try.prog 27 [.sl false t (mI xs)] [] fun v H' => v = .own 0 0 xs.length xs.length 1 ∧ H' = [.cells (mI xs)] := by
  refine Abs.Spec.walk mixed fn27 nn27 t27 q27 nt27 (by simp) ?_
  simp only [w27,W_skip,W_keep,KQ_canon,canon,Fr.norm,W_seq,W_block,W_scope,W_cond,W_exit,W_ret,W_ops,W_draw,KQ_nil,KQ_norm_seq,KQ_exit_seq,KQ_ret_seq,KQ_norm_block,KQ_ret_block,KQ_exit_block,KQ_exit_loop,KQ_ret_loop,O_nil,O_cons,O_guard',S_call,S_mv,SE_mv,SD_mv,S_pick,SE_pick,SD_pick,S_bin,SE_bin,SD_bin,S_eqb,SE_eqb,SD_eqb,S_eqv,SE_eqv,SD_eqv,S_eqnil,SE_eqnil,SD_eqnil,S_un,SE_un,SD_un,S_conv,SE_conv,SD_conv,S_mkfn,SE_mkfn,SD_mkfn,S_load,SE_load,SD_load,S_nilck,SE_nilck,SD_nilck,S_slS,SE_slS,SD_slS,S_slP,SE_slP,SD_slP,S_fldA,SE_fldA,SD_fldA,S_fld,SE_fld,SD_fld,S_ixS,SE_ixS,SD_ixS,S_ixP,SE_ixP,SD_ixP,S_ixV,SE_ixV,SD_ixV,S_ixStr,SE_ixStr,SD_ixStr,S_ext,SE_ext,SD_ext,S_len,SE_len,SD_len,S_lenStr,SE_lenStr,SD_lenStr,S_lenc,SE_lenc,SD_lenc,S_mn,SE_mn,SD_mn,S_mx,SE_mx,SD_mx,S_build,SE_build,SD_build,S_alloc,SD_alloc,S_box,SD_box,S_bslice,SD_bslice,S_mksl,SD_mksl,S_store,SD_store,S_append,SD_append,S_copy,SD_copy,S_clr,SD_clr,S_mlen,SE_mlen,SD_mlen,S_mget,SE_mget,SD_mget,S_mval,SE_mval,SD_mval,S_mentry,SE_mentry,SD_mentry,S_mkmap,SD_mkmap,S_mset,SD_mset,S_mrange,SD_mrange,S_mnext,mlenA,mgetA,mvalA,mentryA,msetA,mrangeA,cells_mp,isCell_mp,cellsOk_mp,aq_some,aa_some,al_some,alA_some,aqd_some,aad_some,ald_some,ape_some,D_done,D_both,D_early,D_earlyG',D_step,D_stepG',SE_call,SD_call,G_bool,GE_bool,GS_bool,icond_bool,IOpd.ev,Fr.get,Fr.put,Fr.putd,entryFr,pickA,binA,binI,isSh,shI,eqbA,eqvA,ints,ints_mI,Option.map_some,eqnilA,unA,convA,loadA,nilckA,intA,slSA,slPA,fldAA,fldVA,ixSA,ixPA,ixVA,ixStrA,extA,lenA,lenStrA,mnA,mxA,AVal.fits,fillA,fillOk,buildA,opa,srcA,appA,stoA,copA,clrA,rdFree,zeros,List.length_nil,List.length_cons,List.length_map,List.map_cons,List.map_nil,Option.map_some,Option.map_none,if_true,if_false,ite_true,ite_false,true_and,and_true,and_self,implies_true,forall_const,true_implies,Nat.reduceEqDiff,Nat.reduceAdd,Nat.reduceLT,Nat.reduceLeDiff,reduceIte,reduceCtorEq,Bool.false_eq_true,Bool.not_true,Bool.not_false,decide_eq_true_eq,decide_eq_false_iff_not,eq_self,List.getElem?_cons_zero,List.getElem?_cons_succ,List.getElem?_nil,List.set_cons_zero,List.set_cons_succ,List.nil_append,List.cons_append,List.append_nil,List.replicate_zero,List.replicate_succ,Nat.zero_add,false_implies,rng_lt,rng_end,rng_get,cells_I,cells_B,cells_sl,cut_one,Int.toNat_natCast,Int.natCast_nonneg,List.headD_cons,Int.lt_irrefl,not_false_eq_true,decide_false,decide_true,mI_length,mI_cells,mI_sz,mI_isCell,mI_mid,mI_append,mI_take,mI_drop,cells_val,cells_own,cells_agg,isCell_I,isCell_B,isCell_nil,isCell_sl,isCell_own,isCell_ptr,isCell_fn,isCell_rp,isCell_yld,cellsOk_I,cellsOk_B,cellsOk_nil,cellsOk_sl,cellsOk_own,cellsOk_ptr,cellsOk_fn,cellsOk_rp,cellsOk_yld,cellsOk_agg,cells_nil,cells_ptr,cells_fn,cells_rp,List.all_cons,List.all_nil,Bool.and_true,Nat.mul_one,Nat.zero_mul,Nat.one_mul,List.take_zero,List.take_nil,List.drop_nil,List.drop_zero,List.not_mem_nil,Nat.le_refl,Nat.zero_le,mS_length,mS_cells,mS_sz,mS_isCell,mS_mid,mS_append,mS_take,mS_drop,cells_sI,isCell_sI,cellsOk_sI,sI_eq,succ_le_self',List.take_succ_cons,List.drop_succ_cons,List.take_length,beq_self_eq_true,List.mem_cons,or_false,forall_eq,mI_put,mI_rep]
  have e : List.drop (Int.toNat 0) (List.take (if (9 : Int) < xs.length then (9 : Int) else xs.length).toNat xs) = xs := by
    rw [if_neg (by omega)]
    show List.drop 0 _ = _
    rw [List.drop_zero,Int.toNat_natCast,List.take_length]
  rw [e]
  refine ⟨⟨Int.le_refl _,?_,?_⟩,?_⟩
  · split <;> omega
  · split <;> omega
  · refine CallK.by (CallV.of_spec (s43o false xs h1 (by omega))) fun v H' ⟨h1,h2⟩ => ?_
    subst h1 h2
    simp only [W_skip,W_keep,KQ_canon,canon,Fr.norm,W_seq,W_block,W_scope,W_cond,W_exit,W_ret,W_ops,W_draw,KQ_nil,KQ_norm_seq,KQ_exit_seq,KQ_ret_seq,KQ_norm_block,KQ_ret_block,KQ_exit_block,KQ_exit_loop,KQ_ret_loop,O_nil,O_cons,O_guard',S_call,S_mv,SE_mv,SD_mv,S_pick,SE_pick,SD_pick,S_bin,SE_bin,SD_bin,S_eqb,SE_eqb,SD_eqb,S_eqv,SE_eqv,SD_eqv,S_eqnil,SE_eqnil,SD_eqnil,S_un,SE_un,SD_un,S_conv,SE_conv,SD_conv,S_mkfn,SE_mkfn,SD_mkfn,S_load,SE_load,SD_load,S_nilck,SE_nilck,SD_nilck,S_slS,SE_slS,SD_slS,S_slP,SE_slP,SD_slP,S_fldA,SE_fldA,SD_fldA,S_fld,SE_fld,SD_fld,S_ixS,SE_ixS,SD_ixS,S_ixP,SE_ixP,SD_ixP,S_ixV,SE_ixV,SD_ixV,S_ixStr,SE_ixStr,SD_ixStr,S_ext,SE_ext,SD_ext,S_len,SE_len,SD_len,S_lenStr,SE_lenStr,SD_lenStr,S_lenc,SE_lenc,SD_lenc,S_mn,SE_mn,SD_mn,S_mx,SE_mx,SD_mx,S_build,SE_build,SD_build,S_alloc,SD_alloc,S_box,SD_box,S_bslice,SD_bslice,S_mksl,SD_mksl,S_store,SD_store,S_append,SD_append,S_copy,SD_copy,S_clr,SD_clr,S_mlen,SE_mlen,SD_mlen,S_mget,SE_mget,SD_mget,S_mval,SE_mval,SD_mval,S_mentry,SE_mentry,SD_mentry,S_mkmap,SD_mkmap,S_mset,SD_mset,S_mrange,SD_mrange,S_mnext,mlenA,mgetA,mvalA,mentryA,msetA,mrangeA,cells_mp,isCell_mp,cellsOk_mp,aq_some,aa_some,al_some,alA_some,aqd_some,aad_some,ald_some,ape_some,D_done,D_both,D_early,D_earlyG',D_step,D_stepG',SE_call,SD_call,G_bool,GE_bool,GS_bool,icond_bool,IOpd.ev,Fr.get,Fr.put,Fr.putd,entryFr,pickA,binA,binI,isSh,shI,eqbA,eqvA,ints,ints_mI,Option.map_some,eqnilA,unA,convA,loadA,nilckA,intA,slSA,slPA,fldAA,fldVA,ixSA,ixPA,ixVA,ixStrA,extA,lenA,lenStrA,mnA,mxA,AVal.fits,fillA,fillOk,buildA,opa,srcA,appA,stoA,copA,clrA,rdFree,zeros,List.length_nil,List.length_cons,List.length_map,List.map_cons,List.map_nil,Option.map_some,Option.map_none,if_true,if_false,ite_true,ite_false,true_and,and_true,and_self,implies_true,forall_const,true_implies,Nat.reduceEqDiff,Nat.reduceAdd,Nat.reduceLT,Nat.reduceLeDiff,reduceIte,reduceCtorEq,Bool.false_eq_true,Bool.not_true,Bool.not_false,decide_eq_true_eq,decide_eq_false_iff_not,eq_self,List.getElem?_cons_zero,List.getElem?_cons_succ,List.getElem?_nil,List.set_cons_zero,List.set_cons_succ,List.nil_append,List.cons_append,List.append_nil,List.replicate_zero,List.replicate_succ,Nat.zero_add,false_implies,rng_lt,rng_end,rng_get,cells_I,cells_B,cells_sl,cut_one,Int.toNat_natCast,Int.natCast_nonneg,List.headD_cons,Int.lt_irrefl,not_false_eq_true,decide_false,decide_true,mI_length,mI_cells,mI_sz,mI_isCell,mI_mid,mI_append,mI_take,mI_drop,cells_val,cells_own,cells_agg,isCell_I,isCell_B,isCell_nil,isCell_sl,isCell_own,isCell_ptr,isCell_fn,isCell_rp,isCell_yld,cellsOk_I,cellsOk_B,cellsOk_nil,cellsOk_sl,cellsOk_own,cellsOk_ptr,cellsOk_fn,cellsOk_rp,cellsOk_yld,cellsOk_agg,cells_nil,cells_ptr,cells_fn,cells_rp,List.all_cons,List.all_nil,Bool.and_true,Nat.mul_one,Nat.zero_mul,Nat.one_mul,List.take_zero,List.take_nil,List.drop_nil,List.drop_zero,List.not_mem_nil,Nat.le_refl,Nat.zero_le,mS_length,mS_cells,mS_sz,mS_isCell,mS_mid,mS_append,mS_take,mS_drop,cells_sI,isCell_sI,cellsOk_sI,sI_eq,succ_le_self',List.take_succ_cons,List.drop_succ_cons,List.take_length,beq_self_eq_true,List.mem_cons,or_false,forall_eq,mI_put,mI_rep]
    exact leafO _ _ [some 0] (Wk.mk0 rfl (by simp [imgs,Blk.alive]) (by simp [hle,csle,mI_bnd]) (by simp [fle,vle,Fr.get])) ⟨rfl,rfl⟩
theorem wrapU (n : Int) : IntKind.u64.wrap n = n % 18446744073709551616 := by simp [IntKind.wrap,IntKind.bits,IntKind.signed]
theorem pick_mod (x : Int) {n : Nat} (h1 : 1 ≤ n) (h4 : n ≤ 6) : ∃ i : Nat,i < n ∧ IntKind.i64.wrap ((IntKind.u64.wrap x).tmod (IntKind.u64.wrap (n : Int))) = i := by
  have hu : IntKind.u64.wrap (n : Int) = n := by rw [wrapU]; omega
  have hk0 : 0 ≤ IntKind.u64.wrap x := by rw [wrapU]; omega
  have e1 : (IntKind.u64.wrap x).tmod n = IntKind.u64.wrap x % n := Int.tmod_eq_emod_of_nonneg hk0
  have e2 := Int.emod_nonneg (IntKind.u64.wrap x) (show (n : Int) ≠ 0 by omega)
  have e3 := Int.emod_lt_of_pos (IntKind.u64.wrap x) (show (0 : Int) < n by omega)
  refine ⟨(IntKind.u64.wrap x % n).toNat,by omega,?_⟩
  rw [hu,e1,wrap64 (by omega) (by omega)]; omega
set_option maxRecDepth 100000 in
theorem and0_dec : ∀ m : Nat,m < 64 → and2 m 0 = 0 := by decide +kernel
theorem and0 {m : Int} (h : Sp.isSet m) : and2 m 0 = 0 := Sp.allSets (p := fun m => and2 m 0 = 0) and0_dec h
def chkA (C l : List (List Int)) : AVal := match chk C l with | none => .tup [I 0,B false,I 0] | some (_,h,_) => .tup [I h,B true,I 0]
theorem chkA_flat (C l : List (List Int)) : (chkA C l).flat = true := by unfold chkA; split <;> rfl
theorem chkA_bnd (C l : List (List Int)) : (chkA C l).bnd 0 = true := by unfold chkA; split <;> rfl
theorem s50' {g : List Int} (hv : netV g = true) (l : List (List Int)) (hll : l.length < 9223372036854775808) : Abs.Spec Try.prog 50 [.sl false false (mI g),.sl false false (mS l)] [] fun v H' => H' = [] ∧ v = chkA (circs g) l := by
  have := s50 g l (by have := (netV_len hv).2; omega) hll
  rw [hv,if_pos rfl] at this
  exact this
theorem s48' {g : List Int} (hv : netV g = true) : Abs.Spec Try.prog 48 [.sl false false (mI g)] [] fun v H' => H' = [] ∧ v = .tup [.sl false false (mS (swapsA (circs g)).1),I 0] := by
  have := s48 g (by have := (netV_len hv).2; omega)
  rw [hv,if_pos rfl] at this
  exact this
set_option maxRecDepth 20000 in
set_option maxHeartbeats 4000000 in
theorem law13 (g : List Int) (l : List (List Int)) (x y : Int) (hg : g.length < 9223372036854775808) (hw : ∀ s ∈ l,s.length < 9223372036854775808) (hl : l.length < 9223372036854775808) :
    Abs.Spec Try.prog 13 [.sl false false (mI g),.sl false false (mS l),I x,I y] [] fun v H' => H' = [] ∧ v = B true := by
  obtain ⟨hw',hl'⟩ := tab_len hw hl
  have e19 : ∀ H,CallV Try.prog (.fn (.func 19) [] []) [] H fun v H' => v = B true ∧ H' = H := fun H => liftV s19 rfl rfl H
  have e16 : ∀ H,CallV Try.prog (.fn (.func 16) [] []) [.sl false false (mS l)] H fun v H' => v = .sl false false (mS (Sp.table l)) ∧ H' = H := fun H => liftV (s16 false false l hw hl) (by simp [bndL,AVal.bnd,mS_bnd]) (by simp [AVal.bnd,mS_bnd]) H
  refine Abs.Spec.walk mixed fn13 nn13 t13 q13 nt13 (by simp) ?_
  have z22 : ((2 : Int) != 0) = true := rfl
  have z23 : ((2 : Int) == 2) = true := rfl
  have z02 : ((0 : Int) != 0) = false := rfl
  simp only [w13,go_sem,Nat.reduceEqDiff,Nat.reduceAdd,Nat.reduceLT,Nat.reduceLeDiff,reduceIte,reduceCtorEq]
  refine CallK.pure (liftV (s27 false false g hg) (by simp [bndL,AVal.bnd,mI_bnd]) (by simp [AVal.bnd,mI_bnd]) _) ?_
  simp only [go_sem,Nat.reduceEqDiff,Nat.reduceAdd,Nat.reduceLT,Nat.reduceLeDiff,reduceIte,reduceCtorEq]
  have h48 := s48 (g.take 9) (by rw [List.length_take]; omega)
  rw [netV_take] at h48
  cases hv : netV g with
  | false =>
    rw [hv,if_neg (by simp)] at h48
    refine CallK.pure (liftV h48 (by simp [bndL,AVal.bnd,mI_bnd]) (by simp [AVal.bnd,bndL,mS_bnd]) _) ?_
    simp only [List.getD_cons_zero,List.getD_cons_succ,z22,z23,go_sem,Nat.reduceEqDiff,Nat.reduceAdd,Nat.reduceLT,Nat.reduceLeDiff,reduceIte,reduceCtorEq]
    refine CallK.pure (e19 _) ?_
    simp only [go_sem,Nat.reduceEqDiff,Nat.reduceAdd,Nat.reduceLT,Nat.reduceLeDiff,reduceIte,reduceCtorEq]
    exact leaf (B true) rfl ⟨rfl,rfl⟩
  | true =>
  rw [hv,if_pos rfl] at h48
  obtain ⟨g1,g6⟩ := netV_len hv
  have hgt : g.take 9 = g := List.take_of_length_le (by omega)
  rw [hgt] at h48 ⊢
  have e27 : ∀ H,CallV Try.prog (.fn (.func 27) [] []) [.sl false false (mI g)] H fun v H' => v = .sl false false (mI g) ∧ H' = H := fun H => by
    have := s27 false false g hg
    rw [hgt] at this
    exact liftV this (by simp [bndL,AVal.bnd,mI_bnd]) (by simp [AVal.bnd,mI_bnd]) H
  have e49 : ∀ H,CallV Try.prog (.fn (.func 49) [] []) [.sl false false (mI g)] H fun v H' => v = B true ∧ H' = H := fun H => by
    have := s49 false false g hg
    rw [hv] at this
    exact liftV this (by simp [bndL,AVal.bnd,mI_bnd]) rfl H
  obtain ⟨⟨u0,k0,hS⟩,hS2⟩ := swapsA_ok (circs_nodup g)
  obtain ⟨hn6,hS3,hSc⟩ := chk_small g6 hS
  generalize hSv : (swapsA (circs g)).1 = S at h48 hS hS3 hSc
  have hTS : Sp.table S = S := table_of (by omega) fun c hc => by have := (hSc c hc).len; omega
  have e16S : ∀ H,CallV Try.prog (.fn (.func 16) [] []) [.sl false false (mS S)] H fun v H' => v = .sl false false (mS S) ∧ H' = H := fun H => by
    have := s16 false false S (fun c hc => by have := (hSc c hc).len; omega) (by omega)
    rw [hTS] at this
    exact liftV this (by simp [bndL,AVal.bnd,mS_bnd]) (by simp [AVal.bnd,mS_bnd]) H
  have e50 : ∀ l : List (List Int),l.length < 9223372036854775808 → ∀ H,CallV Try.prog (.fn (.func 50) [] []) [.sl false false (mI g),.sl false false (mS l)] H fun v H' => v = chkA (circs g) l ∧ H' = H := fun l hl H => liftV (s50' hv l hl) (by simp [bndL,AVal.bnd,mI_bnd,mS_bnd]) (chkA_bnd _ _) H
  have hmost : ∀ (l : List (List Int)) {u k : Int} {h : Nat},chk (circs g) l = some (u,h,k) → h ≤ mostR (circs g) 0 := fun l u k h e => by
    have := chk_most (circs_nodup g) l (by omega) e
    simpa using this
  have hmo : ∀ c,c ∈ circs g → ∃ u k : Int,chk (circs g) [c] = some (u,c.length,k) := fun c hc => chk_one hc (and0 ((circs_mem.1 hc).set g6).2)
  obtain ⟨N,hN⟩ : ∃ N,mostR (circs g) 0 = N := ⟨_,rfl⟩
  rw [hN] at hS hn6 hmost
  refine CallK.pure (liftV h48 (by simp [bndL,AVal.bnd,mI_bnd]) (by simp [AVal.bnd,bndL,mS_bnd]) _) ?_
  simp only [List.getD_cons_zero,List.getD_cons_succ,z02,go_sem,Nat.reduceEqDiff,Nat.reduceAdd,Nat.reduceLT,Nat.reduceLeDiff,reduceIte,reduceCtorEq]
  refine CallK.pure (e49 _) ?_
  simp only [w13T0,go_sem,Nat.reduceEqDiff,Nat.reduceAdd,Nat.reduceLT,Nat.reduceLeDiff,reduceIte,reduceCtorEq]
  refine CallK.pure (e27 _) ?_
  simp only [go_sem,Nat.reduceEqDiff,Nat.reduceAdd,Nat.reduceLT,Nat.reduceLeDiff,reduceIte,reduceCtorEq]
  refine CallK.pure (e16S _) ?_
  simp only [go_sem,Nat.reduceEqDiff,Nat.reduceAdd,Nat.reduceLT,Nat.reduceLeDiff,reduceIte,reduceCtorEq]
  refine CallK.pure (e50 S (by omega) _) ?_
  rw [chkA,hS]
  dsimp only
  simp only [List.getD_cons_zero,List.getD_cons_succ,go_sem,Nat.reduceEqDiff,Nat.reduceAdd,Nat.reduceLT,Nat.reduceLeDiff,reduceIte,reduceCtorEq]
  refine CallK.pure (e27 _) ?_
  simp only [go_sem,Nat.reduceEqDiff,Nat.reduceAdd,Nat.reduceLT,Nat.reduceLeDiff,reduceIte,reduceCtorEq]
  refine CallK.pure (e16 _) ?_
  simp only [go_sem,Nat.reduceEqDiff,Nat.reduceAdd,Nat.reduceLT,Nat.reduceLeDiff,reduceIte,reduceCtorEq]
  refine CallK.pure (e50 _ hl' _) ?_
  have tail : ∀ fr : Fr,fr.get 0 = .sl false false (mI g) → fr.get 2 = I x → fr.get 3 = I y → fr.get 11 = I N → W ⟨Try.prog,0,187,true⟩ (retA 0 r13 fun v H' => H' = [] ∧ v = B true) c13T1 [] fr [] [] := by
    intro fr f0 f2 f3 f11
    have h51 := s51 g hg
    rw [hv,if_pos rfl] at h51
    simp only [w13T1,f0,f2,f3,f11,go_sem,Nat.reduceEqDiff,Nat.reduceAdd,Nat.reduceLT,Nat.reduceLeDiff,reduceIte,reduceCtorEq]
    refine CallK.pure (e27 _) ?_
    simp only [go_sem,Nat.reduceEqDiff,Nat.reduceAdd,Nat.reduceLT,Nat.reduceLeDiff,reduceIte,reduceCtorEq]
    refine CallK.pure (liftV h51 (by simp [bndL,AVal.bnd,mI_bnd]) (by simp [AVal.bnd,bndL,mS_bnd]) _) ?_
    have hCl := circs_len g6
    have hCir : ∀ c ∈ circs g,Cir g c := fun c hc => circs_mem.1 hc
    have hone : ∀ c ∈ circs g,CallV Try.prog (.fn (.func 50) [] []) [.sl false false (mI g),.own 0 0 1 1 1] [.cells (mS [c])] (fun v H' => v = .tup [I c.length,B true,I 0] ∧ H' = [.cells (mS [c])]) ∧ c.length ≤ N := fun c hc => by
      obtain ⟨u,k,e⟩ := hmo c hc
      have e2 : chkA (circs g) [c] = .tup [I c.length,B true,I 0] := by rw [chkA,e]
      rw [← e2]
      exact ⟨CallV.of_spec (first := []) (cap := []) (Spec.lend (s50' hv [c] (by simp)) (chkA_flat _ _) ⟨⟨mI_bnd,fun h => h,fun h => h,rfl⟩,vle_mS (cs := mS [c]) rfl (by simp) rfl rfl,trivial⟩),hmost _ e⟩
    generalize circs g = C at hCl hCir hone ⊢
    simp only [List.getD_cons_zero,List.getD_cons_succ,z02,w13T2,go_sem,Nat.reduceEqDiff,Nat.reduceAdd,Nat.reduceLT,Nat.reduceLeDiff,reduceIte,reduceCtorEq]
    refine W_loop (fun q : { i : Nat // i ≤ C.length } => ([(0,.sl false false (mI g)),(2,I x),(3,I y),(11,I N),(95,.sl false false (mS C)),(96,I C.length),(97,I q.1)],[])) (fun q => C.length - q.1) ⟨0,by omega⟩ [] (Wk.nil (by simp [fle,vle,Fr.get,mI_bnd,mS_bnd])) ?_
    rintro ⟨i,hi⟩
    dsimp only
    by_cases hil : i < C.length
    · have d1 : (i : Int) < C.length := by omega
      have hwk : IntKind.i64.wrap ((i : Int) + 1) = ((i + 1 : Nat) : Int) := by rw [wrap64 (by omega) (by omega)]; rfl
      obtain ⟨c,hc⟩ : ∃ c,C.getD i [] = c := ⟨_,rfl⟩
      have hc' : C[i] = c := by rw [← hc,List.getD_eq_getElem?_getD,List.getElem?_eq_getElem hil]; rfl
      have hcC : c ∈ C := by rw [← hc']; exact List.getElem_mem _
      have hc3 := (hCir c hcC).len
      have e27c := s27 false false c (by omega)
      rw [List.take_of_length_le (by omega)] at e27c
      simp only [w13L3,d1,decide_true,w13T4,mS_get,hil,hc,go_sem,Nat.reduceEqDiff,Nat.reduceAdd,Nat.reduceLT,Nat.reduceLeDiff,reduceIte,reduceCtorEq]
      refine CallK.pure (e27 _) ?_
      simp only [go_sem,Nat.reduceEqDiff,Nat.reduceAdd,Nat.reduceLT,Nat.reduceLeDiff,reduceIte,reduceCtorEq]
      refine CallK.pure (liftV e27c (by simp [bndL,AVal.bnd,mI_bnd]) (by simp [AVal.bnd,mI_bnd]) _) ?_
      simp only [go_sem,Nat.reduceEqDiff,Nat.reduceAdd,Nat.reduceLT,Nat.reduceLeDiff,reduceIte,reduceCtorEq]
      obtain ⟨o1,o2⟩ := hone c hcC
      refine CallK.pure o1 ?_
      have b1 : ((c.length : Int) != c.length) = false := bne_self_eq_false _
      have b2 : decide ((c.length : Int) > N) = false := decide_eq_false (by omega)
      simp only [List.getD_cons_zero,List.getD_cons_succ,z02,b1,b2,w13T5,hwk,go_sem,Nat.reduceEqDiff,Nat.reduceAdd,Nat.reduceLT,Nat.reduceLeDiff,reduceIte,reduceCtorEq]
      exact KQ_round rfl ⟨i + 1,hil⟩ [] (by dsimp only; omega) (Wk.nil (by simp [fle,vle,Fr.get,mI_bnd,mS_bnd]))
    · have d1 : ¬ (i : Int) < C.length := by omega
      obtain rfl : i = C.length := by omega
      obtain ⟨i,hi,ei⟩ := pick_mod x g1 g6
      obtain ⟨j,hj,ej⟩ := pick_mod y g1 g6
      have hu : IntKind.u64.wrap (g.length : Int) ≠ 0 := by rw [wrapU]; omega
      simp only [w13L3,d1,decide_false,w13T6,ei,ej,go_sem,Nat.reduceEqDiff,Nat.reduceAdd,Nat.reduceLT,Nat.reduceLeDiff,reduceIte,reduceCtorEq]
      refine ⟨hu,hu,?_⟩
      by_cases hij : i = j
      · have b1 : ((i : Int) == j) = true := by rw [hij]; exact beq_self_eq_true _
        simp only [b1,go_sem,Nat.reduceEqDiff,Nat.reduceAdd,Nat.reduceLT,Nat.reduceLeDiff,reduceIte,reduceCtorEq]
        refine CallK.pure (e19 _) ?_
        simp only [go_sem,Nat.reduceEqDiff,Nat.reduceAdd,Nat.reduceLT,Nat.reduceLeDiff,reduceIte,reduceCtorEq]
        exact leaf (B true) rfl ⟨rfl,rfl⟩
      have b1 : ((i : Int) == j) = false := by rw [beq_eq_false_iff_ne]; omega
      simp only [b1,w13T7,go_sem,Nat.reduceEqDiff,Nat.reduceAdd,Nat.reduceLT,Nat.reduceLeDiff,reduceIte,reduceCtorEq]
      refine CallK.by (CallV.of_spec (s27o false g g1 (by omega))) fun v H' ⟨h1,h2⟩ => ?_
      subst h1 h2
      have dj : (i : Int) < g.length := by omega
      have hM : bitsI .or .i64 (g.getD i 0) (IntKind.i64.wrap (1 * 2 ^ min j 64)) = Sp.orI (g.getD i 0) (Sp.shl1 j) := rfl
      have hset : g.set i (Sp.orI (g.getD i 0) (Sp.shl1 j)) = moreN g i j := rfl
      simp only [mI_get,hi,dj,mI_hd,hM,Sp.put_set,hset,go_sem,Nat.reduceEqDiff,Nat.reduceAdd,Nat.reduceLT,Nat.reduceLeDiff,reduceIte,reduceCtorEq]
      have hv2 := more_net hv hi hj hij
      have hml : (moreN g i j).length = g.length := by unfold moreN; rw [List.length_set]
      have hsub := mostR_sub (circs_sub (g := g) (g' := moreN g i j) fun c hc => more_cir hv hi hj hc) 0
      obtain ⟨⟨u2,k2,hS2⟩,-⟩ := swapsA_ok (circs_nodup (moreN g i j))
      obtain ⟨hn62,hS32,hSc2⟩ := chk_small (by rw [hml]; exact g6) hS2
      have h48b := s48' hv2
      generalize moreN g i j = m at hv2 hml hsub hS2 hn62 hS32 hSc2 h48b ⊢
      generalize (swapsA (circs m)).1 = S2 at h48b hS2 hS32 hSc2
      rw [hN] at hsub
      generalize mostR (circs m) 0 = N2 at hsub hS2 hn62 hS32
      have hlend : vle.vleL [.cells (mI m)] [] [] 3 [.own 0 0 g.length g.length 1] [.sl false false (mI m)] := ⟨vle_mI rfl (by simp) hml.symm (by rw [← hml,take_mI]),trivial⟩
      refine ⟨hi,hi,?_⟩
      refine CallK.pure (CallV.of_spec (first := []) (cap := []) (Spec.lendInts (s43o false m (by omega) (by omega)) hlend)) ?_
      simp only [go_sem,Nat.reduceEqDiff,Nat.reduceAdd,Nat.reduceLT,Nat.reduceLeDiff,reduceIte,reduceCtorEq]
      refine CallK.pure (liftV h48b (by simp [bndL,AVal.bnd,mI_bnd]) (by simp [AVal.bnd,bndL,mS_bnd]) _) ?_
      simp only [List.getD_cons_zero,List.getD_cons_succ,go_sem,Nat.reduceEqDiff,Nat.reduceAdd,Nat.reduceLT,Nat.reduceLeDiff,reduceIte,reduceCtorEq]
      refine CallK.pure (CallV.of_spec (first := []) (cap := []) (Spec.lend (s50' hv2 S2 (by omega)) (chkA_flat _ _) ⟨hlend.1,⟨mS_bnd,fun h => h,fun h => h,rfl⟩,trivial⟩)) ?_
      rw [chkA,hS2]
      dsimp only
      have b3 : decide ((N2 : Int) ≥ N) = true := decide_eq_true (by omega)
      have z00 : ((0 : Int) == 0) = true := rfl
      simp only [List.getD_cons_zero,List.getD_cons_succ,z00,b3,go_sem,Nat.reduceEqDiff,Nat.reduceAdd,Nat.reduceLT,Nat.reduceLeDiff,reduceIte,reduceCtorEq]
      refine CallK.pure (e19 _) ?_
      simp only [go_sem,Nat.reduceEqDiff,Nat.reduceAdd,Nat.reduceLT,Nat.reduceLeDiff,reduceIte,reduceCtorEq]
      exact leaf (B true) rfl ⟨rfl,rfl⟩
  cases hA : chk (circs g) (Sp.table l) with
  | none =>
    rw [chkA,hA]
    simp only [List.getD_cons_zero,List.getD_cons_succ,z02,go_sem,Nat.reduceEqDiff,Nat.reduceAdd,Nat.reduceLT,Nat.reduceLeDiff,reduceIte,reduceCtorEq]
    exact tail _ rfl rfl rfl rfl
  | some r =>
    obtain ⟨u,h,k⟩ := r
    have := hmost _ hA
    have d1 : ¬ (h : Int) > N := by omega
    rw [chkA,hA]
    dsimp only
    simp only [List.getD_cons_zero,List.getD_cons_succ,z02,d1,decide_false,go_sem,Nat.reduceEqDiff,Nat.reduceAdd,Nat.reduceLT,Nat.reduceLeDiff,reduceIte,reduceCtorEq]
    exact tail _ rfl rfl rfl rfl
end Go.Proofs.Ytkmmngphcodjjaa
