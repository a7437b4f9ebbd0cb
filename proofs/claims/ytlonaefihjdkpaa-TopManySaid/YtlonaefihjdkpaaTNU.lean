/- Contracts: a task is opened; Contracts: the vectors one move away,for any client; Contracts: what is reached; Contracts: families,and how many there are. -/
import Derived.Test.YtlonaefihjdkpaaTKC
import Derived.Test.YtlonaefihjdkpaaTNP
import Derived.Test.YtlonaefihjdkpaaTNA
namespace Go.Proofs.Ytlonaefihjdkpaa
open Go.Abs AVal
set_option linter.unusedSimpArgs false
attribute [local go_sem] W_skip W_keep KQ_canon canon Fr.norm W_seq W_block W_scope W_exit W_ret W_ops W_draw KQ_nil KQ_norm_seq KQ_exit_seq KQ_ret_seq KQ_norm_block KQ_ret_block KQ_exit_block KQ_exit_loop KQ_ret_loop O_nil O_cons S_call S_mv SE_mv SD_mv S_pick SE_pick SD_pick S_bin SE_bin SD_bin S_eqb SE_eqb SD_eqb S_eqv SE_eqv SD_eqv S_eqnil SE_eqnil SD_eqnil S_un SE_un SD_un S_conv SE_conv SD_conv S_mkfn SE_mkfn SD_mkfn S_load SE_load SD_load S_nilck SE_nilck SD_nilck S_slS SE_slS SD_slS S_slP SE_slP SD_slP S_fldA SE_fldA SD_fldA S_fld SE_fld SD_fld S_ixS SE_ixS SD_ixS S_ixP SE_ixP SD_ixP S_ixV SE_ixV SD_ixV S_ixStr SE_ixStr SD_ixStr S_ext SE_ext SD_ext S_len SE_len SD_len S_lenStr SE_lenStr SD_lenStr S_lenc SE_lenc SD_lenc S_mn SE_mn SD_mn S_mx SE_mx SD_mx S_build SE_build SD_build S_alloc SD_alloc S_box SD_box S_bslice SD_bslice S_mksl SD_mksl S_store SD_store S_append SD_append S_copy SD_copy S_clr SD_clr S_mlen SE_mlen SD_mlen S_mget SE_mget SD_mget S_mval SE_mval SD_mval S_mentry SE_mentry SD_mentry S_mkmap SD_mkmap S_mset SD_mset S_mrange SD_mrange S_mnext mlenA mgetA mvalA mentryA msetA mrangeA cells_mp isCell_mp cellsOk_mp aq_some aa_some al_some alA_some aqd_some aad_some ald_some ape_some D_done D_both D_early D_step SE_call SD_call IOpd.ev Fr.get Fr.put Fr.putd entryFr pickA binA binI isSh shI eqbA eqvA ints ints_mI Option.map_some eqnilA unA convA loadA nilckA intA slSA slPA fldAA fldVA ixSA ixPA ixVA ixStrA extA lenA lenStrA mnA mxA AVal.fits fillA fillOk buildA opa srcA appA stoA copA clrA rdFree zeros List.length_nil List.length_cons List.length_map List.map_cons List.map_nil Option.map_some Option.map_none if_true if_false ite_true ite_false true_and and_true and_self implies_true forall_const true_implies Bool.false_eq_true Bool.not_true Bool.not_false decide_eq_true_eq decide_eq_false_iff_not eq_self List.getElem?_cons_zero List.getElem?_cons_succ List.getElem?_nil List.set_cons_zero List.set_cons_succ List.nil_append List.cons_append List.append_nil List.replicate_zero List.replicate_succ Nat.zero_add false_implies rng_lt rng_end rng_get cells_I cells_B cells_sl cut_one Int.toNat_natCast Int.natCast_nonneg List.headD_cons Int.lt_irrefl not_false_eq_true decide_false decide_true mI_length mI_cells mI_sz mI_isCell mI_mid mI_append mI_take mI_drop cells_val cells_own cells_agg isCell_I isCell_B isCell_nil isCell_sl isCell_own isCell_ptr isCell_fn isCell_rp isCell_yld cellsOk_I cellsOk_B cellsOk_nil cellsOk_sl cellsOk_own cellsOk_ptr cellsOk_fn cellsOk_rp cellsOk_yld cellsOk_agg cells_nil cells_ptr cells_fn cells_rp List.all_cons List.all_nil Bool.and_true Nat.mul_one Nat.zero_mul Nat.one_mul List.take_zero List.take_nil List.drop_nil List.drop_zero List.not_mem_nil Nat.le_refl Nat.zero_le mS_length mS_cells mS_sz mS_isCell mS_mid mS_append mS_take mS_drop cells_sI isCell_sI cellsOk_sI sI_eq succ_le_self' List.take_succ_cons List.drop_succ_cons List.take_length beq_self_eq_true List.mem_cons or_false forall_eq mI_put mI_rep O_guard' D_earlyG' D_stepG' W_cond' G_tt G_tf G_ft G_ff GE_tt GE_tf GE_ft GE_ff GS_tt GS_tf GS_ft GS_ff G_u GE_u GS_u IC_t IC_f xft xff xtt xtf z00 z20 z22 z02 zz tn0
def nearL (X : List Int) (bs : List (List Int)) : List (List Int) := (bs.map (plusV 1 X)).filter posV
theorem nearL_snoc (X : List Int) (l : List (List Int)) (m : List Int) : nearL X (l ++ [m]) = nearL X l ++ (if posV (plusV 1 X m) then [plusV 1 X m] else []) := by
  unfold nearL; rw [List.map_append,List.filter_append]; simp [List.filter_cons]
def taskV (rows : List (List Int)) (n : Int) (bs : List (List Int)) (X : List Int) : AVal := .agg (.sl false false (mV rows) :: I n :: .sl false false (mV bs) :: mI X)
theorem taskV_eq (rows : List (List Int)) (n : Int) (bs : List (List Int)) (X : List Int) : taskV rows n bs X = .agg (.sl false false (mV rows) :: I n :: .sl false false (mV bs) :: mI X) := rfl
def zT : AVal := .agg [nilSl,I 0,nilSl,I 0,I 0,I 0,I 0]
def openR (a : List (List Int)) (x : List Int) (most : Int) (v : AVal) : Prop :=
  (Sp.vecOk a x 0 most = false ∧ v = .tup [zT,I 2]) ∨
  (Sp.vecOk a x 0 most = true ∧ ∃ bs,IsB (a.map Sp.pad) (a.getD 0 []).length bs ∧ v = .tup [taskV (a.map Sp.pad) (a.getD 0 []).length bs (Sp.pad x),I (if bs.any posV then 5 else 0)])
set_option maxRecDepth 20000 in
set_option maxHeartbeats 4000000 in
theorem s31 (a : List (List Int)) (x : List Int) (most : Int) (ha : ∀ l ∈ a,l.length < 9223372036854775808) (hl : a.length < 9223372036854775808) (hx : x.length < 9223372036854775808) :
    Abs.Spec Try.prog 31 [.sl false false (mS a),.sl false false (mI x),I most] [] fun v H' => H' = [] ∧ openR a x most v := by
  refine Abs.Spec.walk mixed fn31 nn31 t31 q31 nt31 (by simp) ?_
  simp only [w31,go_sem,Nat.reduceEqDiff,Nat.reduceAdd,Nat.reduceLT,Nat.reduceLeDiff,reduceIte,reduceCtorEq]
  refine CallK.by (CallV.of_spec (first := []) (cap := []) (Spec.liftE (s53 false false a ha hl) (by simp [bndL,AVal.bnd,mS_bnd]) (fun v hr => ?_) _)) fun v H' ⟨hr,hH⟩ => ?_
  · rcases hr with ⟨-,rfl⟩ | ⟨-,vs,n,rfl⟩ <;> simp [AVal.bnd,bndL,matV,mV_bnd]
  subst hH
  rcases hr with ⟨hm,hv⟩ | ⟨hm,vs,n,hv⟩
  rotate_left
  · subst hv
    simp only [matV_eq,List.getD_cons_zero,List.getD_cons_succ,go_sem,Nat.reduceEqDiff,Nat.reduceAdd,Nat.reduceLT,Nat.reduceLeDiff,reduceIte,reduceCtorEq]
    exact leafCT (cut true 7 [nilSl,I 0,nilSl,I 0,I 0,I 0,I 0]) (.tup [zT,I 2]) rfl ⟨by decide,fun h => by cases h⟩ ⟨.inl ⟨rfl,rfl⟩,rfl,trivial⟩ ⟨rfl,.inl ⟨by unfold Sp.vecOk; rw [hm]; rfl,rfl⟩⟩
  · subst hv
    obtain ⟨r1,r2,n1,n4⟩ := mat_rows hm
    obtain ⟨n,hn⟩ : ∃ n,(a.getD 0 []).length = n := ⟨_,rfl⟩
    have hmc : cut true 2 [sl false false (mV (a.map Sp.pad)),I (n : Int)] = matV (a.map Sp.pad) n := rfl
    have h63 := s54 false false (.sl false false (mV (a.map Sp.pad))) rfl n x 0 most (by omega) (by omega) hx
    have hvo : Sp.vecOk a x 0 most = (decide (x.length = n) && Sp.numbers x 0 most) := by unfold Sp.vecOk; rw [hm,hn,Bool.true_and]
    rw [hn] at n1 n4 ⊢
    simp only [matV_eq,List.getD_cons_zero,List.getD_cons_succ,hmc,go_sem,Nat.reduceEqDiff,Nat.reduceAdd,Nat.reduceLT,Nat.reduceLeDiff,reduceIte,reduceCtorEq]
    cases hb : (decide (x.length = n) && Sp.numbers x 0 most) with
    | false =>
      rw [hb,if_neg (by decide)] at h63
      refine CallK.pure (liftV h63 (by simp [bndL,AVal.bnd,mV_bnd,mI_bnd]) (by simp [AVal.bnd,bndL,vec,mI_bnd]) _) ?_
      simp only [vec_eq,List.getD_cons_zero,List.getD_cons_succ,go_sem,Nat.reduceEqDiff,Nat.reduceAdd,Nat.reduceLT,Nat.reduceLeDiff,reduceIte,reduceCtorEq]
      exact ⟨rfl,leafCT (cut true 7 [nilSl,I 0,nilSl,I 0,I 0,I 0,I 0]) (.tup [zT,I 2]) rfl ⟨by decide,fun h => by cases h⟩ ⟨.inl ⟨rfl,rfl⟩,rfl,trivial⟩ ⟨rfl,.inl ⟨by rw [hvo]; exact hb,rfl⟩⟩⟩
    | true =>
      rw [hb,if_pos rfl] at h63
      have xl : x.length = n := by rw [Bool.and_eq_true,decide_eq_true_eq] at hb; exact hb.1
      have Xl : (Sp.pad x).length = 4 := Sp.pad_len (by omega)
      obtain ⟨X,hX⟩ : ∃ X,Sp.pad x = X := ⟨_,rfl⟩
      rw [hX] at h63 Xl
      have Xm : (mI X).length = 4 := by rw [mI_length,Xl]
      have Xc : cut true 4 (mI X) = vec X := cut_vec Xl
      have acX := allI_cell X
      have h85 : ∀ H,CallV Try.prog (.fn (.func 55) [] []) [matV (a.map Sp.pad) n] H fun v H' => (∃ bs,IsB (a.map Sp.pad) n bs ∧ v = .sl false false (mV bs)) ∧ H' = H := fun H =>
        CallV.of_spec (first := []) (cap := []) (Spec.liftE (s55f (a.map Sp.pad) n (by omega) r2 r1) (by simp [bndL,matV,AVal.bnd,mV_bnd]) (fun v ⟨bs,_,h⟩ => by subst h; simp [AVal.bnd,mV_bnd]) H)
      refine CallK.pure (liftV h63 (by simp [bndL,AVal.bnd,mV_bnd,mI_bnd]) (by simp [AVal.bnd,bndL,vec,mI_bnd]) _) ?_
      simp only [vec_eq,List.getD_cons_zero,List.getD_cons_succ,Xm,Xc,hmc,go_sem,Nat.reduceEqDiff,Nat.reduceAdd,Nat.reduceLT,Nat.reduceLeDiff,reduceIte,reduceCtorEq]
      refine ⟨acX,CallKD.grow (h85 _) fun v H' ⟨⟨bs,hB,hv⟩,hH⟩ => ?_,CallKD.grow (h85 _) fun v H' ⟨⟨bs,hB,hv⟩,hH⟩ => ?_⟩
      all_goals
        subst hv hH
        refine ⟨.refl _,?_⟩
        simp only [matV_eq,vec_eq,List.getD_cons_zero,List.getD_cons_succ,Xm,Xc,hmc,List.set_cons_succ,List.set_cons_zero,go_sem,Nat.reduceEqDiff,Nat.reduceAdd,Nat.reduceLT,Nat.reduceLeDiff,reduceIte,reduceCtorEq]
        have gT : cut true 7 (.sl false false (mV (a.map Sp.pad)) :: I n :: .sl false false (mV bs) :: mI X) = taskV (a.map Sp.pad) n bs X := by
          show AVal.agg (List.take 7 _) = _
          rw [List.take_of_length_le (by simp [Xm])]; rfl
        have hB4 : ∀ y ∈ bs,y.length = 4 := fun y hy => (hB.ok y hy).1
        have hBl := hB.len (by omega)
        have hk := s56 false false bs hB4 (.fn (.func 57) [] []) posV (fun y hy => (CallV.of_spec (first := []) (cap := []) (s57 y (hB4 y hy))).mono fun v H' ⟨a,b⟩ => ⟨b,a⟩) (fun H => by simp [vle,vle.vleL]) (by omega)
        refine ⟨by simp [acX],CallK.pure (liftV hk (by simp [bndL,AVal.bnd,mV_bnd]) rfl _) ?_⟩
        have tc : (taskV (a.map Sp.pad) n bs X).cells = .sl false false (mV (a.map Sp.pad)) :: I n :: .sl false false (mV bs) :: mI X := rfl
        have hres : (mI X).length + 1 + 1 + 1 = 7 := by omega
        have e1 : ∀ e,(∀ v,v = (AVal.tup [taskV (a.map Sp.pad) n bs X,I e]) → e = (if bs.any posV then 5 else 0) → openR a x most v) := fun e v hv he => .inr ⟨by rw [hvo]; exact hb,bs,by rw [hn]; exact hB,by rw [hn,hX,← he]; exact hv⟩
        have tb : bndL 0 (AVal.sl false false (mV (a.map Sp.pad)) :: I n :: .sl false false (mV bs) :: mI X) = true := by simp [bndL,AVal.bnd,mV_bnd,mI_bnd]
        cases hp : bs.any posV with
        | true =>
          simp only [gT,Xm,tc,go_sem,Nat.reduceEqDiff,Nat.reduceAdd,Nat.reduceLT,Nat.reduceLeDiff,reduceIte,reduceCtorEq]
          exact ⟨by show (true && (true && (true && (mI X).all AVal.isCell))) = true; rw [acX]; rfl,leafCT (cut true 7 (.sl false false (mV (a.map Sp.pad)) :: I n :: .sl false false (mV bs) :: mI X)) (.tup [taskV (a.map Sp.pad) n bs X,I 5]) rfl ⟨by simp [Xm],fun h => by cases h⟩ ⟨by rw [gT]; exact .inl ⟨rfl,tb⟩,rfl,trivial⟩ ⟨rfl,e1 5 _ rfl (by rw [hp]; rfl)⟩⟩
        | false =>
          simp only [gT,Xm,tc,go_sem,Nat.reduceEqDiff,Nat.reduceAdd,Nat.reduceLT,Nat.reduceLeDiff,reduceIte,reduceCtorEq]
          exact ⟨by show (true && (true && (true && (mI X).all AVal.isCell))) = true; rw [acX]; rfl,leafCT (cut true 7 (.sl false false (mV (a.map Sp.pad)) :: I n :: .sl false false (mV bs) :: mI X)) (.tup [taskV (a.map Sp.pad) n bs X,I 0]) rfl ⟨by simp [Xm],fun h => by cases h⟩ ⟨by rw [gT]; exact .inl ⟨rfl,tb⟩,rfl,trivial⟩ ⟨rfl,e1 0 _ rfl (by rw [hp]; rfl)⟩⟩
theorem any_pure {a : List (List Int)} {bs : List (List Int)} (hm : Sp.mat a = true) (hB : IsB (a.map Sp.pad) (a.getD 0 []).length bs) : bs.any posV = (Sp.basL a).any posV := by
  obtain ⟨-,-,-,n4⟩ := mat_rows hm
  rw [Bool.eq_iff_iff,List.any_eq_true,List.any_eq_true]
  constructor
  · rintro ⟨y,hy,hp⟩
    have hM := (Sp.mem_bs hm hB).1 hy
    have e := Sp.take_pad n4 hM.mv.len hM.mv.pad
    refine ⟨y.take (a.getD 0 []).length,(Sp.mem_basL hm).2 ⟨by rw [List.length_take,hM.mv.len]; omega,by rw [e]; exact hM⟩,?_⟩
    rw [← Sp.posV_pad,e]; exact hp
  · rintro ⟨y,hy,hp⟩
    obtain ⟨yl,hM⟩ := (Sp.mem_basL hm).1 hy
    exact ⟨Sp.pad y,(Sp.mem_bs hm hB).2 hM,by rw [Sp.posV_pad]; exact hp⟩
end Go.Proofs.Ytlonaefihjdkpaa
namespace Go.Abs
open AVal
def FOk (P : Program) (c : Cl) (fv : AVal) (dom : c.σ → List Int → Prop) : Prop := ∀ (γ : c.Γ) (H : AHeap) (D : List Int),c.ok γ H → HOk (LPb H.length) H → dom (c.val γ) D →
  CallV P fv [.agg (mI D)] H fun v H' => v = .tup [] ∧ ∃ γ',c.val γ' = c.upd (c.val γ) D ∧ c.To H.length γ H γ' H'
theorem Cl.To.wr {c : Cl} {b0 : Nat} {γ : c.Γ} {H H' : AHeap} (h : c.ok γ H) (hl : H.length ≤ H'.length) (hb : ∀ j,j < H.length → H'[j]? = H[j]?) (hb0 : b0 ≤ H.length) (hok : ∀ LP,HOk LP H → HOk LP H') : c.To b0 γ H γ H' :=
  ⟨c.frame γ H H' h fun j hj => hb j (c.lt γ H j h hj),hok,hl,fun j hj _ => hb j (by omega),fun j hj => .inl hj⟩
end Go.Abs
namespace Go.Proofs.Ytlonaefihjdkpaa
open Go.Abs AVal
set_option linter.unusedSimpArgs false
attribute [local go_sem] W_skip W_keep KQ_canon canon Fr.norm W_seq W_block W_scope W_exit W_ret W_ops W_draw KQ_nil KQ_norm_seq KQ_exit_seq KQ_ret_seq KQ_norm_block KQ_ret_block KQ_exit_block KQ_exit_loop KQ_ret_loop O_nil O_cons S_call S_mv SE_mv SD_mv S_pick SE_pick SD_pick S_bin SE_bin SD_bin S_eqb SE_eqb SD_eqb S_eqv SE_eqv SD_eqv S_eqnil SE_eqnil SD_eqnil S_un SE_un SD_un S_conv SE_conv SD_conv S_mkfn SE_mkfn SD_mkfn S_load SE_load SD_load S_nilck SE_nilck SD_nilck S_slS SE_slS SD_slS S_slP SE_slP SD_slP S_fldA SE_fldA SD_fldA S_fld SE_fld SD_fld S_ixS SE_ixS SD_ixS S_ixP SE_ixP SD_ixP S_ixV SE_ixV SD_ixV S_ixStr SE_ixStr SD_ixStr S_ext SE_ext SD_ext S_len SE_len SD_len S_lenStr SE_lenStr SD_lenStr S_lenc SE_lenc SD_lenc S_mn SE_mn SD_mn S_mx SE_mx SD_mx S_build SE_build SD_build S_alloc SD_alloc S_box SD_box S_bslice SD_bslice S_mksl SD_mksl S_store SD_store S_append SD_append S_copy SD_copy S_clr SD_clr S_mlen SE_mlen SD_mlen S_mget SE_mget SD_mget S_mval SE_mval SD_mval S_mentry SE_mentry SD_mentry S_mkmap SD_mkmap S_mset SD_mset S_mrange SD_mrange S_mnext mlenA mgetA mvalA mentryA msetA mrangeA cells_mp isCell_mp cellsOk_mp aq_some aa_some al_some alA_some aqd_some aad_some ald_some ape_some D_done D_both D_early D_step SE_call SD_call IOpd.ev Fr.get Fr.put Fr.putd entryFr pickA binA binI isSh shI eqbA eqvA ints ints_mI Option.map_some eqnilA unA convA loadA nilckA intA slSA slPA fldAA fldVA ixSA ixPA ixVA ixStrA extA lenA lenStrA mnA mxA AVal.fits fillA fillOk buildA opa srcA appA stoA copA clrA rdFree zeros List.length_nil List.length_cons List.length_map List.map_cons List.map_nil Option.map_some Option.map_none if_true if_false ite_true ite_false true_and and_true and_self implies_true forall_const true_implies Bool.false_eq_true Bool.not_true Bool.not_false decide_eq_true_eq decide_eq_false_iff_not eq_self List.getElem?_cons_zero List.getElem?_cons_succ List.getElem?_nil List.set_cons_zero List.set_cons_succ List.nil_append List.cons_append List.append_nil List.replicate_zero List.replicate_succ Nat.zero_add false_implies rng_lt rng_end rng_get cells_I cells_B cells_sl cut_one Int.toNat_natCast Int.natCast_nonneg List.headD_cons Int.lt_irrefl not_false_eq_true decide_false decide_true mI_length mI_cells mI_sz mI_isCell mI_mid mI_append mI_take mI_drop cells_val cells_own cells_agg isCell_I isCell_B isCell_nil isCell_sl isCell_own isCell_ptr isCell_fn isCell_rp isCell_yld cellsOk_I cellsOk_B cellsOk_nil cellsOk_sl cellsOk_own cellsOk_ptr cellsOk_fn cellsOk_rp cellsOk_yld cellsOk_agg cells_nil cells_ptr cells_fn cells_rp List.all_cons List.all_nil Bool.and_true Nat.mul_one Nat.zero_mul Nat.one_mul List.take_zero List.take_nil List.drop_nil List.drop_zero List.not_mem_nil Nat.le_refl Nat.zero_le mS_length mS_cells mS_sz mS_isCell mS_mid mS_append mS_take mS_drop cells_sI isCell_sI cellsOk_sI sI_eq succ_le_self' List.take_succ_cons List.drop_succ_cons List.take_length beq_self_eq_true List.mem_cons or_false forall_eq mI_put mI_rep O_guard' D_earlyG' D_stepG' W_cond' G_tt G_tf G_ft G_ff GE_tt GE_tf GE_ft GE_ff GS_tt GS_tf GS_ft GS_ff G_u GE_u GS_u IC_t IC_f xft xff xtt xtf z00 z20 z22 z02 zz tn0
set_option maxRecDepth 20000 in
set_option maxHeartbeats 4000000 in
theorem s92c {c : Cl} {fv : AVal} {dom : c.σ → List Int → Prop} (F : FOk Try.prog c fv dom) (H : AHeap) (γ : c.Γ) (rows : List (List Int)) (n : Int) (bs : List (List Int)) (X X0 : List Int) (hX : X.length = 4) (hX0 : X0.length = 4) (h4 : ∀ m ∈ bs,m.length = 4) (hbl : bs.length ≤ 2000000) (bX : Sp.inB 90000 X) (bb : ∀ m ∈ bs,Sp.inB 16 m)
    (hc : c.ok γ H) (hfv : vid H.length 3 fv = true) (hok : HOk (LPb H.length) H) (hdom : ∀ pre y post,nearL X bs = pre ++ y :: post → dom (pre.foldl c.upd (c.val γ)) y) :
    Abs.Spec Try.prog 92 [taskV rows n bs X0,vec X,fv] H fun v H' => v = .tup [] ∧ ∃ γ',c.val γ' = (nearL X bs).foldl c.upd (c.val γ) ∧ c.To H.length γ H γ' H' := by
  refine Abs.Spec.walk mixed fn92 nn92 t92 q92 nt92 (by simp) ?_
  have hXl : (mI X).length = 4 := by rw [mI_length,hX]
  have hX0l : (mI X0).length = 4 := by rw [mI_length,hX0]
  have acX := allI_cell X
  have acX0 := allI_cell X0
  simp only [w92,taskV_eq,vec_eq,hXl,hX0l,mV_length,app_get,app_get0,app_set,app_set0,List.append_assoc,List.cons_append,List.nil_append,List.length_append,List.length_cons,List.length_nil,List.getElem?_cons_succ,List.getElem?_cons_zero,List.set_cons_succ,List.set_cons_zero,go_sem,Nat.reduceEqDiff,Nat.reduceAdd,Nat.reduceLT,Nat.reduceLeDiff,reduceIte,reduceCtorEq]
  obtain ⟨T,hT⟩ : ∃ T : AHeap,T = [Blk.cells (.sl false false (mV rows) :: I n :: .sl false false (mV bs) :: mI X0),Blk.cells (mI X)] := ⟨_,rfl⟩
  have hTl : T.length = 2 := by rw [hT]; rfl
  rw [← hT]
  have okT : ∀ {LP : Nat → Fr → Prop} {G : AHeap},HOk LP G → HOk LP (G ++ T) := fun {LP G} h => by
    rw [hT,show [Blk.cells (.sl false false (mV rows) :: I n :: .sl false false (mV bs) :: mI X0),Blk.cells (mI X)] = [Blk.cells (.sl false false (mV rows) :: I n :: .sl false false (mV bs) :: mI X0)] ++ [Blk.cells (mI X)] from rfl,← List.append_assoc]
    exact (h.push (by simp [blkN,bndL,AVal.bnd,mV_bnd,mI_bnd])).pushI X
  have to0 : c.To H.length γ H γ (H ++ T) := Cl.To.wr hc (by simp) (fun j hj => List.getElem?_append_left hj) (Nat.le_refl _) fun LP h => okT h
  have nm : ∀ j,H.length ≤ j → ¬ c.mine γ j := fun j hj hm => by have := c.lt γ H j hc hm; omega
  refine ⟨by simp [acX0],acX,?_⟩
  refine W_loop (fun i : { i : Nat × c.Γ × AHeap // i.1 ≤ bs.length ∧ c.To (H.length + 2) γ (H ++ T) i.2.1 i.2.2 ∧ c.val i.2.1 = (nearL X (bs.take i.1)).foldl c.upd (c.val γ) } => ([(2,fv),(4,.ptr (H.length + 1) 0),(10,.sl false false (mV bs)),(11,I bs.length),(12,I i.1.1)],i.1.2.2)) (fun i => bs.length - i.1.1) ⟨(0,γ,H ++ T),Nat.zero_le _,.refl to0.ok,rfl⟩ (idρ _) (Wk.ok (LP := LPb H.length) (okT hok) (fun _ _ h => h) (by simp) (by
      simp only [List.mem_cons,List.not_mem_nil,or_false,forall_eq_or_imp,forall_eq]
      refine ⟨⟨rfl,vid_mono (by simp) 3 _ hfv⟩,⟨rfl,?_⟩,⟨rfl,?_⟩,⟨rfl,rfl⟩,rfl,rfl⟩
      · simp [vid,hTl]
      · simp [vid,AVal.bnd,mV_bnd]) fun _ h => by cases h) ?_
  rintro ⟨⟨i,γ1,H1⟩,hi,hto,hval⟩
  dsimp only at hi hto hval ⊢
  have hl1 : H.length + 2 ≤ H1.length := by have := hto.len; rw [List.length_append,hTl] at this; exact this
  have hok1 : HOk (LPb H.length) H1 := hto.hok _ (okT hok)
  have toA : c.To H.length γ H γ1 H1 := to0.trans (hto.le (by omega))
  by_cases hib : i < bs.length
  · have d1 : (i : Int) < bs.length := by omega
    obtain ⟨m,hm⟩ : ∃ m,bs.getD i [] = m := ⟨_,rfl⟩
    have mb : m ∈ bs := by rw [← hm]; exact gd_mem' hib
    have ml := h4 m mb
    have gm : (mV bs).getD i any = vec m := by rw [← hm]; simp [mV,List.getD_eq_getElem?_getD,hib]
    have hml : (mI m).length = 4 := by rw [mI_length,ml]
    have g3 : cut true 4 (mI m) = vec m := cut_vec ml
    have gX : cut true 4 (mI X) = vec X := cut_vec hX
    have acm := allI_cell m
    have gT : (H ++ T)[H.length + 1]? = some (.cells (mI X)) := by rw [app_get,hT]; rfl
    have g1 : H1[H.length + 1]? = some (.cells (mI X)) := by rw [hto.kept _ (by omega) (nm _ (by omega))]; exact gT
    have g1a : ∀ L : AHeap,(H1 ++ L)[H.length + 1]? = some (.cells (mI X)) := fun L => by rw [List.getElem?_append_left (by omega)]; exact g1
    simp only [w92L0,d1,gm,vec_eq,g1,g1a,hml,hXl,g3,gX,app_get,app_get0,app_set,app_set0,List.append_assoc,List.cons_append,List.nil_append,List.length_append,List.length_cons,List.length_nil,List.getElem?_cons_succ,List.getElem?_cons_zero,List.set_cons_succ,List.set_cons_zero,go_sem,Nat.reduceEqDiff,Nat.reduceAdd,Nat.reduceLT,Nat.reduceLeDiff,reduceIte,reduceCtorEq]
    obtain ⟨y,hy⟩ : ∃ y,plusV 1 X m = y := ⟨_,rfl⟩
    have yl : y.length = 4 := by rw [← hy]; exact plusV_len hX ml
    have hyl : (mI y).length = 4 := by rw [mI_length,yl]
    have gy : cut true 4 (mI y) = vec y := cut_vec yl
    have acy := allI_cell y
    have h68 : ∀ H,CallV Try.prog (.fn (.func 118) [] []) [.agg (mI X),I 1,.agg (mI m)] H fun v H' => v = vec y ∧ H' = H := fun H => by
      rw [← hy]
      exact liftV (s118 X m 1 hX ml (.inl rfl) (Sp.inB_mono bX (by decide)) (Sp.inB_mono (bb m mb) (by decide))) (by simp [bndL,AVal.bnd,vec,mI_bnd]) (by simp [AVal.bnd,vec,mI_bnd]) H
    have btk : bs.take (i + 1) = bs.take i ++ [m] := by
      rw [List.take_add_one,List.getElem?_eq_getElem hib,← hm,List.getD_eq_getElem?_getD,List.getElem?_eq_getElem hib]; rfl
    have ei : IntKind.i64.wrap ((i : Int) + 1) = ((i + 1 : Nat) : Int) := by rw [wrap64 (by omega) (by omega)]; omega
    have hsn : nearL X (bs.take (i + 1)) = nearL X (bs.take i) ++ (if posV y then [y] else []) := by rw [btk,nearL_snoc,hy]
    have hmm : c.To (H.length + 2) γ1 H1 γ1 (H1 ++ [Blk.cells (mI m),Blk.cells (mI y)]) := Cl.To.wr hto.ok (by simp) (fun j hj => List.getElem?_append_left hj) hl1 fun LP h => by
      have := (h.pushI m).pushI y
      simpa [List.append_assoc] using this
    refine ⟨by rw [mV_length]; exact d1,acm,CallK.pure (h68 _) ?_⟩
    simp only [vec_eq,g1,g1a,hml,hyl,hXl,g3,gX,gy,app_get,app_get0,app_set,app_set0,List.append_assoc,List.cons_append,List.nil_append,List.length_append,List.length_cons,List.length_nil,List.getElem?_cons_succ,List.getElem?_cons_zero,List.set_cons_succ,List.set_cons_zero,go_sem,Nat.reduceEqDiff,Nat.reduceAdd,Nat.reduceLT,Nat.reduceLeDiff,reduceIte,reduceCtorEq]
    refine ⟨acy,CallK.pure (liftV (s57 y yl) (by simp [bndL,AVal.bnd,vec,mI_bnd]) rfl _) ?_⟩
    have fin : ∀ {γ2 : c.Γ} {H2 : AHeap} {fr : Fr},c.To (H.length + 2) γ (H ++ T) γ2 H2 → c.val γ2 = (nearL X (bs.take (i + 1))).foldl c.upd (c.val γ) → (∀ p ∈ ([(2,fv),(4,.ptr (H.length + 1) 0),(10,.sl false false (mV bs)),(11,I bs.length),(12,I ((i + 1 : Nat) : Int))] : Fr),fr.get p.1 = p.2) → 
        KQ ⟨Try.prog,H.length,25,true⟩ (retA H.length r92 fun v H' => v = .tup [] ∧ ∃ γ',c.val γ' = (nearL X bs).foldl c.upd (c.val γ) ∧ c.To H.length γ H γ' H') .norm [.loop [] (fun i : { i : Nat × c.Γ × AHeap // i.1 ≤ bs.length ∧ c.To (H.length + 2) γ (H ++ T) i.2.1 i.2.2 ∧ c.val i.2.1 = (nearL X (bs.take i.1)).foldl c.upd (c.val γ) } => ([(2,fv),(4,.ptr (H.length + 1) 0),(10,.sl false false (mV bs)),(11,I bs.length),(12,I i.1.1)],i.1.2.2)) (fun i => bs.length - i.1.1) ⟨(i,γ1,H1),hi,hto,hval⟩,.block 0] fr H2 [] := fun {γ2 H2 fr} h1 h2 h3 => by
      have hl2 : H.length + 2 ≤ H2.length := by have := h1.len; rw [List.length_append,hTl] at this; exact this
      refine roundN (LP := LPb H.length) (h1.hok _ (okT hok)) (fun _ _ h => h) (by show H.length ≤ _; omega) ⟨(i + 1,γ2,H2),hib,h1,h2⟩ (by dsimp only; omega) rfl ?_
      dsimp only
      simp only [List.mem_cons,List.not_mem_nil,or_false,forall_eq_or_imp,forall_eq] at h3 ⊢
      refine ⟨⟨h3.1,vid_mono (by omega) 3 _ hfv⟩,⟨h3.2.1,?_⟩,⟨h3.2.2.1,?_⟩,⟨h3.2.2.2.1,rfl⟩,h3.2.2.2.2,rfl⟩
      · simp [vid]; omega
      · simp [vid,AVal.bnd,mV_bnd]
    cases hpos : posV y with
    | false =>
      rw [hpos,if_neg (by decide),List.append_nil] at hsn
      simp only [ei,go_sem,Nat.reduceEqDiff,Nat.reduceAdd,Nat.reduceLT,Nat.reduceLeDiff,reduceIte,reduceCtorEq]
      exact fin (hto.trans hmm) (by rw [hsn]; exact hval) (by simp [Fr.get])
    | true =>
      rw [hpos,if_pos rfl] at hsn
      simp only [vec_eq,g1,g1a,hml,hyl,hXl,g3,gX,gy,app_get,app_get0,app_set,app_set0,List.append_assoc,List.cons_append,List.nil_append,List.length_append,List.length_cons,List.length_nil,List.getElem?_cons_succ,List.getElem?_cons_zero,List.set_cons_succ,List.set_cons_zero,go_sem,Nat.reduceEqDiff,Nat.reduceAdd,Nat.reduceLT,Nat.reduceLeDiff,reduceIte,reduceCtorEq]
      have hd : dom (c.val γ1) y := by
        rw [hval]
        refine hdom (nearL X (bs.take i)) y (nearL X (bs.drop (i + 1))) ?_
        have e : bs = bs.take (i + 1) ++ bs.drop (i + 1) := (List.take_append_drop _ _).symm
        conv => lhs; rw [e]
        unfold nearL
        rw [List.map_append,List.filter_append]
        have := hsn
        unfold nearL at this
        rw [this,List.append_assoc]; rfl
      refine CallK.by (F γ1 (H1 ++ [Blk.cells (mI m),Blk.cells (mI y)]) y hmm.ok ((hmm.hok _ (hok1.mono fun _ _ h => h.mono (by simp; omega)))) hd) fun v H2 ⟨hv,γ2,hv2,hto2⟩ => ?_
      subst hv
      simp only [ei,go_sem,Nat.reduceEqDiff,Nat.reduceAdd,Nat.reduceLT,Nat.reduceLeDiff,reduceIte,reduceCtorEq]
      refine fin ((hto.trans hmm).trans (hto2.le (by simp; omega))) ?_ (by simp [Fr.get])
      rw [hsn,List.foldl_append,hv2,hval]; rfl
  · have d1 : ¬ (i : Int) < bs.length := by omega
    obtain rfl : i = bs.length := by omega
    rw [List.take_length] at hval
    simp only [w92L0,d1,go_sem,Nat.reduceEqDiff,Nat.reduceAdd,Nat.reduceLT,Nat.reduceLeDiff,reduceIte,reduceCtorEq]
    exact leafN0 (LP := LPb H.length) hok1 (fun _ _ h => h) (by omega) ⟨rfl,γ1,hval,toA⟩
end Go.Proofs.Ytlonaefihjdkpaa
namespace Go.Abs
open AVal
variable {x : Cx} {Q : QT} {ks : List Kont} {fr : Fr} {H : AHeap} {ms : List Nat}
theorem Spec.lendM {P : Program} {f : FuncId} {args args' : List AVal} {C : List (AVal × AVal) → Prop} (h : Spec P f args' [] fun v' H' => ∃ es,C es ∧ v' = .mp 0 ∧ H' = [.map es]) (hC : ∀ es,C es → ∀ p ∈ es,p.1.flat = true ∧ p.2.flat = true) {H : AHeap} (ha : vle.vleL H [] [] 3 args args') :
    Spec P f args H fun v' H' => ∃ es,C es ∧ v' = .mp H.length ∧ H' = H ++ [.map es] := by
  refine ⟨h.1,fun φ G w rargs hs hr => ?_⟩
  have hE : WkE φ G H [] w [] := ⟨hs,rfl,fun i => by simp,fun i b hi => by simp at hi,List.nodup_nil⟩
  have hs0 : SimH (wkφ φ []) G [] w := ⟨hs.glt,fun i _ b _ _ hi => by simp at hi,fun i b r hi => by simp at hi,fun i b hi => by simp at hi⟩
  obtain ⟨hlen,hget⟩ := vleL_get ha
  have hc : CRep (env (wkφ φ []) G [] w) args' rargs := ⟨by rw [← hlen]; exact hr.1,fun j u hu => by
    have hj : j < args.length := by rw [hlen]; exact (List.getElem?_eq_some_iff.1 hu).1
    exact vle_sound hE 3 args[j] u _ (hget j _ u (by simp [hj]) hu) (hr.2 j _ (by simp [hj]))⟩
  refine (h.2 _ G w rargs hs0 hc).mono fun e w' ⟨rv,he,v',H',φ1,⟨es,hC0,h1,h2⟩,h3,h4,h5⟩ => ?_
  · subst h1 h2
    have hf : ∀ r,r < w.heap.size → w'.heap[r]? = w.heap[r]? := fun r hr => h4.frame r hr nil_owned
    have hnew : ∀ r,φ1 0 = some r → w.heap.size ≤ r := fun r hr => by
      rcases h4.own r ⟨0,.map es,rfl,rfl,hr⟩ with h | h
      · exact absurd h nil_owned
      · exact h
    have hsim := sim_same hs h4.size hf
    have hget : ∀ (j : Nat) b,(H ++ [Blk.map es])[j]? = some b → (j < H.length ∧ H[j]? = some b) ∨ (j = H.length ∧ b = .map es) := fun j b hj => by
      rw [List.getElem?_append] at hj
      split at hj
      · rename_i hlt; exact .inl ⟨hlt,hj⟩
      · rename_i hge
        have : j - H.length = 0 := by
          by_cases h0 : j - H.length = 0
          · exact h0
          · rw [List.getElem?_eq_none (by simp; omega)] at hj; cases hj
        rw [this] at hj
        simp at hj
        exact .inr ⟨by omega,hj.symm⟩
    have hown : ∀ r,Owned (up φ H.length (φ1 0)) (H ++ [.map es]) r ↔ Owned φ H r ∨ φ1 0 = some r := fun r => by
      constructor
      · rintro ⟨i,b,hi,hb,hφ⟩
        rcases hget i b hi with ⟨hlt,hi'⟩ | ⟨rfl,rfl⟩
        · rw [up_ne (by omega)] at hφ; exact .inl ⟨i,b,hi',hb,hφ⟩
        · rw [up_same] at hφ; exact .inr hφ
      · rintro (⟨i,b,hi,hb,hφ⟩ | hφ)
        · have hlt := (List.getElem?_eq_some_iff.1 hi).1
          exact ⟨i,b,by rw [List.getElem?_append_left hlt]; exact hi,hb,by rw [up_ne (by omega)]; exact hφ⟩
        · exact ⟨H.length,.map es,by simp,rfl,by rw [up_same]; exact hφ⟩
    have hR : ∀ {u : AVal} {x : Value},Rep (env φ G H w) u x → Rep (env (up φ H.length (φ1 0)) G (H ++ [.map es]) w') u x := fun {u x} hu => by
      refine hu.mono ⟨fun i hi => up_ne (by have := Dom.lt hi; omega),fun i hi => ?_,fun b hb => ?_,fun r hr _ => hf r hr,h4.shape⟩
      · obtain ⟨b,hb,hne⟩ := hi
        exact ⟨b,by rw [List.getElem?_append_left (List.getElem?_eq_some_iff.1 hb).1]; exact hb,hne⟩
      · rcases hb with hb | hb
        · exact .inl (.inl hb)
        · rcases (hown b).1 hb with hb | hb
          · exact .inl (.inr hb)
          · exact .inr (hnew b hb)
    have hblk := h3.blk 0 _ rfl
    have hLH : (H ++ [Blk.map es])[H.length]? = some (.map es) := by simp
    refine ⟨rv,he,_,_,up φ H.length (φ1 0),⟨es,hC0,rfl,rfl⟩,⟨hsim.glt,fun i j b c r hi hj hb hc hir hjr => ?_,fun i b r hi hb hir => ?_,fun i b hi => ?_⟩,⟨fun i hi => up_ne (by omega),fun i hi hd => ?_,fun _ => by simp,fun r hr => ?_,fun r hr _ => hf r hr,h4.shape,h4.size,h4.os,h4.tape,h4.output,h4.drawn⟩,?_⟩
    · rcases hget i b hi with ⟨h1,hi'⟩ | ⟨rfl,rfl⟩ <;> rcases hget j c hj with ⟨h2,hj'⟩ | ⟨rfl,rfl⟩
      · rw [up_ne (by omega)] at hir hjr; exact hs.inj i j b c r hi' hj' hb hc hir hjr
      · rw [up_ne (by omega)] at hir; rw [up_same] at hjr
        have := hs.lt hi' hb hir; have := hnew r hjr; omega
      · rw [up_ne (by omega)] at hjr; rw [up_same] at hir
        have := hs.lt hj' hc hjr; have := hnew r hir; omega
      · rfl
    · rcases hget i b hi with ⟨h1,hi'⟩ | ⟨rfl,rfl⟩
      · rw [up_ne (by omega)] at hir; exact hs.dis i b r hi' hb hir
      · rw [up_same] at hir; intro hg; have := hs.glt r hg; have := hnew r hir; omega
    · rcases hget i b hi with ⟨h1,hi'⟩ | ⟨rfl,rfl⟩
      · rw [up_ne (by omega)]
        by_cases hal : b.alive = true
        · refine BlkRep.mono (E := env φ G H w) (E' := env (up φ H.length (φ1 0)) G (H ++ [.map es]) w') ⟨fun i hi => up_ne (by have := Dom.lt hi; omega),fun i hi => ?_,fun b hb => ?_,fun r hr _ => hf r hr,h4.shape⟩ (fun r hr => hf r (hs.lt hi' hal hr)) (hs.blk i b hi')
          · obtain ⟨b,hb,hne⟩ := hi
            exact ⟨b,by rw [List.getElem?_append_left (List.getElem?_eq_some_iff.1 hb).1]; exact hb,hne⟩
          · rcases hb with hb | hb
            · exact .inl (.inl hb)
            · rcases (hown b).1 hb with hb | hb
              · exact .inl (.inr hb)
              · exact .inr (hnew b hb)
        · cases b <;> first | trivial | exact absurd rfl hal
      · rw [up_same]
        simp only [BlkRep] at hblk ⊢
        obtain ⟨r,c,e,hc,hz,hr⟩ := hblk
        exact ⟨r,c,e,hc,hz,fun j p hp => by
          obtain ⟨q,h1,h2,h3,h4⟩ := hr j p hp
          have := hC es hC0 p (List.mem_of_getElem? hp)
          exact ⟨q,h1,h2,h3.flat this.1,h4.flat this.2⟩⟩
    · obtain ⟨b,hb,hne⟩ := hd
      exact ⟨b,by rw [List.getElem?_append_left (List.getElem?_eq_some_iff.1 hb).1]; exact hb,hne⟩
    · rcases (hown r).1 hr with h | h
      · exact .inl h
      · exact .inr (hnew r h)
    · cases h5 with
      | mp i r hi h9 => exact .mp _ r ⟨.map es,hLH,by simp⟩ (by show up φ H.length (φ1 0) H.length = some r; rw [up_same]; exact h9)
theorem alA_grow {k b i off len m : Nat} {cs xc : List AVal} {px : Prop} {a : AVal} {d : Option Nat} {l : List IIns} (hx : srcA k a H = some (m,xc,px)) (hpx : px) (hm : 0 < m) (hi : H[i]? = some (.cells cs)) (hfit : off + len * k ≤ cs.length) (hcell : ∀ u ∈ (cs.drop off).take (len * k),u.isCell = true) (hf : (len + m) * b ≤ 2 ^ 40)
    (h1 : O x Q l ks (fr.putd d (.own i off (len + m) (len + m) k)) (H.set i (.cells (cs.take (off + len * k) ++ xc ++ cs.drop (off + len * k + m * k)))) ms)
    (h2 : O x Q l ks (fr.putd d (.own H.length 0 (len + m) (len + m) k)) (H.set i .dead ++ [.cells ((cs.drop off).take (len * k) ++ xc)]) ms) :
    alA x Q (appB k b (.own i off len len k) a H H.length fun H b => H ++ [b]) k b (.own i off len len k) a d l ks fr H ms := by
  have hn : ¬ len + m ≤ len := by omega
  by_cases h0 : off = 0
  · subst h0
    simp only [appB,appA,hx,hi,if_true,hn,if_false,alA]
    simp only [List.drop_zero] at h2 hcell
    exact ⟨⟨hpx,by omega,hcell,hf⟩,h2⟩
  · simp only [appB,appA,hx,hi,if_true,hn,if_false,h0,alA,app2A]
    exact ⟨trivial,hpx,hm,hfit,hcell,hf,h1,h2⟩
end Go.Abs
namespace Go.Proofs.Ytlonaefihjdkpaa
open Go.Abs AVal
set_option linter.unusedSimpArgs false
attribute [local go_sem] W_skip W_keep KQ_canon canon Fr.norm W_seq W_block W_scope W_exit W_ret W_ops W_draw KQ_nil KQ_norm_seq KQ_exit_seq KQ_ret_seq KQ_norm_block KQ_ret_block KQ_exit_block KQ_exit_loop KQ_ret_loop O_nil O_cons S_call S_mv SE_mv SD_mv S_pick SE_pick SD_pick S_bin SE_bin SD_bin S_eqb SE_eqb SD_eqb S_eqv SE_eqv SD_eqv S_eqnil SE_eqnil SD_eqnil S_un SE_un SD_un S_conv SE_conv SD_conv S_mkfn SE_mkfn SD_mkfn S_load SE_load SD_load S_nilck SE_nilck SD_nilck S_slS SE_slS SD_slS S_slP SE_slP SD_slP S_fldA SE_fldA SD_fldA S_fld SE_fld SD_fld S_ixS SE_ixS SD_ixS S_ixP SE_ixP SD_ixP S_ixV SE_ixV SD_ixV S_ixStr SE_ixStr SD_ixStr S_ext SE_ext SD_ext S_len SE_len SD_len S_lenStr SE_lenStr SD_lenStr S_lenc SE_lenc SD_lenc S_mn SE_mn SD_mn S_mx SE_mx SD_mx S_build SE_build SD_build S_alloc SD_alloc S_box SD_box S_bslice SD_bslice S_mksl SD_mksl S_store SD_store S_append SD_append S_copy SD_copy S_clr SD_clr S_mlen SE_mlen SD_mlen S_mget SE_mget SD_mget S_mval SE_mval SD_mval S_mentry SE_mentry SD_mentry S_mkmap SD_mkmap S_mset SD_mset S_mrange SD_mrange S_mnext mlenA mgetA mvalA mentryA msetA mrangeA cells_mp isCell_mp cellsOk_mp aq_some aa_some al_some alA_some aqd_some aad_some ald_some ape_some D_done D_both D_early D_step SE_call SD_call IOpd.ev Fr.get Fr.put Fr.putd entryFr pickA binA binI isSh shI eqbA eqvA ints ints_mI Option.map_some eqnilA unA convA loadA nilckA intA slSA slPA fldAA fldVA ixSA ixPA ixVA ixStrA extA lenA lenStrA mnA mxA AVal.fits fillA fillOk buildA opa srcA appA stoA copA clrA rdFree zeros List.length_nil List.length_cons List.length_map List.map_cons List.map_nil Option.map_some Option.map_none if_true if_false ite_true ite_false true_and and_true and_self implies_true forall_const true_implies Bool.false_eq_true Bool.not_true Bool.not_false decide_eq_true_eq decide_eq_false_iff_not eq_self List.getElem?_cons_zero List.getElem?_cons_succ List.getElem?_nil List.set_cons_zero List.set_cons_succ List.nil_append List.cons_append List.append_nil List.replicate_zero List.replicate_succ Nat.zero_add false_implies rng_lt rng_end rng_get cells_I cells_B cells_sl cut_one Int.toNat_natCast Int.natCast_nonneg List.headD_cons Int.lt_irrefl not_false_eq_true decide_false decide_true mI_length mI_cells mI_sz mI_isCell mI_mid mI_append mI_take mI_drop cells_val cells_own cells_agg isCell_I isCell_B isCell_nil isCell_sl isCell_own isCell_ptr isCell_fn isCell_rp isCell_yld cellsOk_I cellsOk_B cellsOk_nil cellsOk_sl cellsOk_own cellsOk_ptr cellsOk_fn cellsOk_rp cellsOk_yld cellsOk_agg cells_nil cells_ptr cells_fn cells_rp List.all_cons List.all_nil Bool.and_true Nat.mul_one Nat.zero_mul Nat.one_mul List.take_zero List.take_nil List.drop_nil List.drop_zero List.not_mem_nil Nat.le_refl Nat.zero_le mS_length mS_cells mS_sz mS_isCell mS_mid mS_append mS_take mS_drop cells_sI isCell_sI cellsOk_sI sI_eq succ_le_self' List.take_succ_cons List.drop_succ_cons List.take_length beq_self_eq_true List.mem_cons or_false forall_eq mI_put mI_rep O_guard' D_earlyG' D_stepG' W_cond' G_tt G_tf G_ft G_ff GE_tt GE_tf GE_ft GE_ff GS_tt GS_tf GS_ft GS_ff G_u GE_u GS_u IC_t IC_f xft xff xtt xtf z00 z20 z22 z02 zz tn0
abbrev Ent := List Int × List Int × Nat
def hasK (es : List Ent) (y : List Int) : Bool := es.any (·.1 == y)
def addE (Y : List Int) (d : Nat) (es : List Ent) (y : List Int) : List Ent := if hasK es y then es else es ++ [(y,Y,d + 1)]
def entA (e : Ent) : AVal × AVal := (vec e.1,vec e.2.1)
theorem keyI_vec {y : List Int} (h : y.length = 4) : keyI 4 (.agg (mI y)) = some y := by simp [keyI,ints_mI,h]
theorem mfind_no {y : List Int} : ∀ {es : List Ent} {i : Nat},(∀ e ∈ es,e.1.length = 4) → hasK es y = false → mfind 4 y (es.map entA) i = some none
  | [],_,_,_ => rfl
  | e :: es,i,h4,h => by
    simp only [hasK,List.any_cons,Bool.or_eq_false_iff] at h
    simp only [List.map_cons,mfind,entA,vec,keyI_vec (h4 e (by simp))]
    have : (y == e.1) = false := by
      rw [beq_eq_false_iff_ne] at h ⊢
      exact fun e => h.1 e.symm
    rw [this,if_neg (by decide)]
    exact mfind_no (fun e he => h4 e (by simp [he])) h.2
theorem mfind_yes {y : List Int} : ∀ {es : List Ent} {i : Nat},(∀ e ∈ es,e.1.length = 4) → hasK es y = true → ∃ j,∃ e ∈ es,e.1 = y ∧ mfind 4 y (es.map entA) i = some (some (j,vec e.2.1))
  | [],_,_,h => by cases h
  | e :: es,i,h4,h => by
    simp only [List.map_cons,mfind,entA,vec,keyI_vec (h4 e (by simp))]
    by_cases hy : e.1 = y
    · refine ⟨i,e,by simp,hy,?_⟩
      rw [hy,beq_self_eq_true,if_pos rfl]
    · have h' : hasK es y = true := by
        simp only [hasK,List.any_cons,Bool.or_eq_true,beq_iff_eq] at h
        simp only [hasK]
        exact h.resolve_left hy
      obtain ⟨j,e',he',h1,h2⟩ := mfind_yes (i := i + 1) (fun e he => h4 e (by simp [he])) h'
      refine ⟨j,e',by simp [he'],h1,?_⟩
      have : (y == e.1) = false := by rw [beq_eq_false_iff_ne]; exact fun e => hy e.symm
      rw [this,if_neg (by decide)]
      exact h2
def qF (i : Nat) (es : List Ent) : List Int := ((es.map (·.1)).drop i).flatten
theorem qF_snoc {i : Nat} {es : List Ent} (h : i ≤ es.length) (e : Ent) : qF i (es ++ [e]) = qF i es ++ e.1 := by
  unfold qF
  rw [List.map_append,List.drop_append_of_le_length (by simpa using h),List.flatten_append]
  simp
theorem qF_head {i : Nat} {es : List Ent} {e : Ent} (h : es[i]? = some e) : qF i es = e.1 ++ qF (i + 1) es := by
  unfold qF
  obtain ⟨hi,he⟩ := List.getElem?_eq_some_iff.1 h
  rw [List.drop_eq_getElem_cons (by simpa using hi)]
  simp [he]
theorem grow_in {cs rest : List AVal} {off n : Nat} {q y : List Int} (hfit : off + n * 4 ≤ cs.length) (hcs : (cs.drop off).take (n * 4) = mI q) (hy : y.length = 4) :
    off + (n + 1) * 4 ≤ (cs.take (off + n * 4) ++ mI y ++ rest).length ∧ ((cs.take (off + n * 4) ++ mI y ++ rest).drop off).take ((n + 1) * 4) = mI (q ++ y) := by
  have ht : (cs.take (off + n * 4)).length = off + n * 4 := by rw [List.length_take]; omega
  have hyl : (mI y).length = 4 := by rw [mI_length,hy]
  have hql : (mI q).length = n * 4 := by rw [← hcs,List.length_take,List.length_drop]; omega
  constructor
  · simp only [List.length_append,ht,hyl]; omega
  · rw [List.append_assoc,List.drop_append_of_le_length (by omega),List.drop_take,show off + n * 4 - off = n * 4 by omega,hcs,← List.append_assoc,List.take_left' (by rw [List.length_append,hql,hyl]; omega)]
    exact List.map_append.symm
structure RSt (c5 c6 mi i k : Nat) (es : List Ent) (H : AHeap) : Prop where
  h5 : H[c5]? = some (.cells [.mp mi])
  hm : H[mi]? = some (.map (es.map entA))
  hq : ∃ off cs,H[c6]? = some (.cells [.own k off (es.length - i) (es.length - i) 4]) ∧ H[k]? = some (.cells cs) ∧ off + (es.length - i) * 4 ≤ cs.length ∧ (cs.drop off).take ((es.length - i) * 4) = mI (qF i es)
  k5 : k ≠ c5
  k6 : k ≠ c6
def clR (c5 c6 mi i : Nat) (Y : List Int) (d : Nat) : Cl where
  Γ := List Ent × Nat
  σ := List Ent
  val := Prod.fst
  ok γ H := RSt c5 c6 mi i γ.2 γ.1 H
  live _ := True
  mine γ j := j = c5 ∨ j = c6 ∨ j = mi ∨ j = γ.2
  go _ _ := true
  upd es y := addE Y d es y
  frame γ H H' h hk := ⟨by rw [hk c5 (.inl rfl)]; exact h.h5,by rw [hk mi (.inr (.inr (.inl rfl)))]; exact h.hm,by
    obtain ⟨off,cs,h1,h2,h3⟩ := h.hq
    exact ⟨off,cs,by rw [hk c6 (.inr (.inl rfl))]; exact h1,by rw [hk γ.2 (.inr (.inr (.inr rfl)))]; exact h2,h3⟩,h.k5,h.k6⟩
  lt γ H j h hj := by
    obtain ⟨off,cs,h1,h2,h3⟩ := h.hq
    rcases hj with rfl | rfl | rfl | rfl
    · exact (List.getElem?_eq_some_iff.1 h.h5).1
    · exact (List.getElem?_eq_some_iff.1 h1).1
    · exact (List.getElem?_eq_some_iff.1 h.hm).1
    · exact (List.getElem?_eq_some_iff.1 h2).1
def domR (i : Nat) (Y : List Int) (es : List Ent) (y : List Int) : Prop := y.length = 4 ∧ Y.length = 4 ∧ (∃ f,es[i]? = some (Y,f)) ∧ (∀ e ∈ es,e.1.length = 4 ∧ e.2.1.length = 4) ∧ es.length < 34359738368
theorem mapB_bnd (es : List Ent) : ((es.map entA).all fun p => p.1.bnd 0 && p.2.bnd 0) = true := by
  rw [List.all_eq_true]
  intro p hp
  obtain ⟨e,_,rfl⟩ := List.mem_map.1 hp
  simp [entA,vec,AVal.bnd,mI_bnd]
set_option maxRecDepth 20000 in
set_option maxHeartbeats 4000000 in
theorem f106_ok (c5 c6 mi i : Nat) (Y : List Int) (d : Nat) : FOk Try.prog (clR c5 c6 mi i Y d) (.fn (.func 93) [] [.ptr c5 0,.ptr c6 0]) (domR i Y) := by
  rintro ⟨es,k⟩ H y hR hok ⟨hy,hY,⟨f,hf⟩,h4,hlen⟩
  have hR : RSt c5 c6 mi i k es H := hR
  have hf : es[i]? = some (Y,f) := hf
  have h4 : ∀ e ∈ es,e.1.length = 4 ∧ e.2.1.length = 4 := h4
  have hlen : es.length < 34359738368 := hlen
  refine CallV.of_spec (first := []) (cap := [.ptr c5 0,.ptr c6 0]) ?_
  refine Abs.Spec.walk mixed fn93 nn93 t93 q93 nt93 (by simp) ?_
  obtain ⟨off,cs,hc6,hk,hfit,hcs⟩ := hR.hq
  have h5 := hR.h5
  have hm := hR.hm
  have k5 := hR.k5
  have k6 := hR.k6
  have hil : i < es.length := (List.getElem?_eq_some_iff.1 hf).1
  have l5 : c5 < H.length := (List.getElem?_eq_some_iff.1 h5).1
  have l6 : c6 < H.length := (List.getElem?_eq_some_iff.1 hc6).1
  have lm : mi < H.length := (List.getElem?_eq_some_iff.1 hm).1
  have lk : k < H.length := (List.getElem?_eq_some_iff.1 hk).1
  have m5 : mi ≠ c5 := fun e => by subst e; rw [hm] at h5; cases h5
  have m6 : mi ≠ c6 := fun e => by subst e; rw [hm] at hc6; cases hc6
  have mk : mi ≠ k := fun e => by subst e; rw [hm] at hk; cases hk
  have c56 : c5 ≠ c6 := fun e => by subst e; rw [h5] at hc6; cases hc6
  have a5 : ∀ L : AHeap,(H ++ L)[c5]? = some (.cells [.mp mi]) := fun L => by rw [List.getElem?_append_left l5]; exact h5
  have am : ∀ L : AHeap,(H ++ L)[mi]? = some (.map (es.map entA)) := fun L => by rw [List.getElem?_append_left lm]; exact hm
  have a6 : ∀ L : AHeap,(H ++ L)[c6]? = some (.cells [.own k off (es.length - i) (es.length - i) 4]) := fun L => by rw [List.getElem?_append_left l6]; exact hc6
  have ak : ∀ L : AHeap,(H ++ L)[k]? = some (.cells cs) := fun L => by rw [List.getElem?_append_left lk]; exact hk
  have hyl : (mI y).length = 4 := by rw [mI_length,hy]
  have gy : cut true 4 (mI y) = vec y := cut_vec hy
  have acy := allI_cell y
  have hky := keyI_vec hy
  have hq0 : (cs.drop off).take 4 = mI Y := by
    have := congrArg (List.take 4) hcs
    rw [List.take_take,show min 4 ((es.length - i) * 4) = 4 by omega,qF_head hf] at this
    rw [this]
    show List.take 4 (mI (Y ++ qF (i + 1) es)) = mI Y
    rw [show mI (Y ++ qF (i + 1) es) = mI Y ++ mI (qF (i + 1) es) from List.map_append,List.take_append_of_le_length (by rw [mI_length,hY]; exact Nat.le_refl _),List.take_of_length_le (by rw [mI_length,hY]; exact Nat.le_refl _)]
  have gY : cut true 4 (cs.drop off) = vec Y := by
    show AVal.agg (List.take 4 _) = _
    rw [hq0]; rfl
  cases hh : hasK es y with
  | true =>
    obtain ⟨j,e,he,he1,hj⟩ := mfind_yes (i := 0) (fun e he => (h4 e he).1) hh
    obtain ⟨z,hz⟩ : ∃ z,e.2.1 = z := ⟨_,rfl⟩
    have zl : (mI z).length = 4 := by rw [mI_length,← hz,(h4 e he).2]
    have acz := allI_cell z
    rw [hz] at hj
    simp only [w93,List.getD_cons_zero,List.getD_cons_succ,a5,am,a6,ak,hyl,gy,hky,hj,vec_eq,app_get,app_get0,app_set,app_set0,List.append_assoc,List.cons_append,List.nil_append,List.length_append,List.length_cons,List.length_nil,List.getElem?_cons_succ,List.getElem?_cons_zero,List.set_cons_succ,List.set_cons_zero,go_sem,Nat.reduceEqDiff,Nat.reduceAdd,Nat.reduceLT,Nat.reduceLeDiff,reduceIte,reduceCtorEq]
    refine ⟨acy,⟨acz,by rw [← hz]; exact (h4 e he).2⟩,?_⟩
    have hok' : HOk (LPb H.length) (H ++ [Blk.cells (mI y),Blk.cells (mI z)]) := by
      have := (hok.pushI y).pushI z
      simpa [List.append_assoc] using this
    have hto : (clR c5 c6 mi i Y d).To H.length (es,k) H (es,k) (H ++ [Blk.cells (mI y),Blk.cells (mI z)]) := Cl.To.wr hR (by simp) (fun j hj => List.getElem?_append_left hj) (Nat.le_refl _) fun LP h => by
      have := (h.pushI y).pushI z
      simpa [List.append_assoc] using this
    refine leafN0 (LP := LPb H.length) hok' (fun _ _ h => h) (by simp) ⟨rfl,(es,k),?_,hto⟩
    show es = addE Y d es y
    unfold addE; rw [hh,if_pos rfl]
  | false =>
    have hj := mfind_no (i := 0) (fun e he => (h4 e he).1) hh
    simp only [w93,↓S_appB,Nat.add_zero,List.getD_cons_zero,List.getD_cons_succ,a5,am,a6,ak,hyl,gy,hky,hj,gY,vec_eq,app_get,app_get0,app_set,app_set0,List.append_assoc,List.cons_append,List.nil_append,List.length_append,List.length_cons,List.length_nil,List.getElem?_cons_succ,List.getElem?_cons_zero,List.set_cons_succ,List.set_cons_zero,go_sem,Nat.reduceEqDiff,Nat.reduceAdd,Nat.reduceLT,Nat.reduceLeDiff,reduceIte,reduceCtorEq]
    have sm : ∀ (L : AHeap) b,(H ++ L).set mi b = H.set mi b ++ L := fun L b => List.set_append_left _ _ lm
    have hnx : es.length + 1 - i = es.length - i + 1 := by omega
    obtain ⟨B',hB'⟩ : ∃ B',Blk.map (List.map entA es ++ [(agg (mI y),agg (mI Y))]) = B' := ⟨_,rfl⟩
    have eB : B' = Blk.map (List.map entA (es ++ [(y,Y,d + 1)])) := by rw [← hB',List.map_append]; rfl
    obtain ⟨H1,hH1⟩ : ∃ H1,H.set mi B' = H1 := ⟨_,rfl⟩
    have l1 : H1.length = H.length := by rw [← hH1,List.length_set]
    have b5 : H1[c5]? = some (.cells [.mp mi]) := by rw [← hH1,List.getElem?_set_ne m5]; exact h5
    have bm : H1[mi]? = some B' := by rw [← hH1,List.getElem?_set_self lm]
    have b6' : H1[c6]? = some (.cells [.own k off (es.length - i) (es.length - i) 4]) := by rw [← hH1,List.getElem?_set_ne m6]; exact hc6
    have b6 : ∀ L : AHeap,(H1 ++ L)[c6]? = some (.cells [.own k off (es.length - i) (es.length - i) 4]) := fun L => by rw [List.getElem?_append_left (by omega)]; exact b6'
    have bk' : H1[k]? = some (.cells cs) := by rw [← hH1,List.getElem?_set_ne mk]; exact hk
    have bk : ∀ L : AHeap,(H1 ++ L)[k]? = some (.cells cs) := fun L => by rw [List.getElem?_append_left (by omega)]; exact bk'
    have b0 : ∀ (L : AHeap),(H1 ++ L)[H.length]? = L[0]? := fun L => by rw [← l1,app_get0]
    have bL : ∀ (L : AHeap) j,(H1 ++ L)[H.length + j]? = L[j]? := fun L j => by rw [← l1,app_get]
    have to1 : ∀ LP,HOk LP H → HOk LP H1 := fun LP h => by rw [← hH1]; exact h.set (by rw [eB]; exact mapB_bnd _)
    have hd0 : List.drop 4 [[I 0,I 0,I 0,I 0]].flatten = [] := rfl
    simp only [↓S_appB,Nat.add_zero,sm,hd0,hB',hH1,b6,b0,hyl,gy,List.getD_cons_zero,List.getD_cons_succ,vec_eq,List.append_assoc,List.cons_append,List.nil_append,List.length_append,List.length_cons,List.length_nil,List.getElem?_cons_succ,List.getElem?_cons_zero,List.set_cons_succ,List.set_cons_zero,go_sem,Nat.reduceEqDiff,Nat.reduceAdd,Nat.reduceLT,Nat.reduceLeDiff,reduceIte,reduceCtorEq]
    obtain ⟨HX,hHX⟩ : ∃ HX,H1 ++ [Blk.cells (mI y),Blk.cells [I 0,I 0,I 0,I 0],Blk.cells (mI y)] = HX := ⟨_,rfl⟩
    have lX : HX.length = H.length + 3 := by rw [← hHX,List.length_append,l1]; rfl
    have x6 : HX[c6]? = some (.cells [.own k off (es.length - i) (es.length - i) 4]) := by rw [← hHX]; exact b6 _
    have xk : HX[k]? = some (.cells cs) := by rw [← hHX]; exact bk _
    have xm : HX[mi]? = some B' := by rw [← hHX,List.getElem?_append_left (by omega)]; exact bm
    have x5 : HX[c5]? = some (.cells [.mp mi]) := by rw [← hHX,List.getElem?_append_left (by omega)]; exact b5
    have xn : HX[H1.length + 2]? = some (.cells (mI y)) := by rw [← hHX,app_get]; rfl
    have xl : ∀ j,j < H.length → j ≠ mi → HX[j]? = H[j]? := fun j hj hm => by rw [← hHX,List.getElem?_append_left (by omega),← hH1,List.getElem?_set_ne (Ne.symm hm)]
    have okX : ∀ LP,HOk LP H → HOk LP HX := fun LP h => by
      have := (((to1 LP h).pushI y).pushI [0,0,0,0]).pushI y
      rw [← hHX]
      rw [List.append_assoc,List.append_assoc] at this
      exact this
    have hsx : srcA 4 (.own (H1.length + 2) 0 1 1 4) HX = some (1,mI y,0 + 1 * 4 ≤ (mI y).length ∧ ∀ u ∈ mI y,u.isCell = true) := by
      simp [srcA,xn,List.take_of_length_le,hyl]
    have hcell : ∀ u ∈ (cs.drop off).take ((es.length - i) * 4),u.isCell = true := by rw [hcs]; exact List.all_eq_true.1 (allI_cell _)
    have blk : ∀ {LP : Nat → Fr → Prop} {N j : Nat} {xs : List AVal},blkN LP N j (.cells cs) → (∀ u ∈ xs,u ∈ cs ∨ u ∈ mI y) → blkN LP N j (.cells xs) := fun {LP N j xs} h hx => by
      have h : (bndL 0 cs || cs.all (vid N 2)) = true := h
      show (bndL 0 xs || xs.all (vid N 2)) = true
      rw [Bool.or_eq_true] at h ⊢
      have hyb : ∀ u ∈ mI y,u.bnd 0 = true ∧ vid N 2 u = true := fun u hu => by obtain ⟨z,_,rfl⟩ := List.mem_map.1 hu; exact ⟨rfl,rfl⟩
      rcases h with h | h
      · exact .inl (bndL_of fun u hu => (hx u hu).elim (bndL_mem h u) fun hu => (hyb u hu).1)
      · exact .inr (List.all_eq_true.2 fun u hu => (hx u hu).elim (List.all_eq_true.1 h u) fun hu => (hyb u hu).2)
    have upE : addE Y d es y = es ++ [(y,Y,d + 1)] := by unfold addE; rw [hh,if_neg (by decide)]
    have enl : (es ++ [(y,Y,d + 1)]).length - i = es.length - i + 1 := by rw [List.length_append]; simp; omega
    have enq : qF i (es ++ [(y,Y,d + 1)]) = qF i es ++ y := qF_snoc (by omega) _
    rw [hHX,show H1.length + 3 = HX.length by rw [lX,l1]]
    refine ⟨acy,⟨by decide,by omega⟩,by omega,alA_grow hsx ⟨by omega,List.all_eq_true.1 acy⟩ (by decide) xk hfit hcell (by omega) ?_ ?_⟩
    · obtain ⟨cs',hcs'⟩ : ∃ cs',cs.take (off + (es.length - i) * 4) ++ mI y ++ cs.drop (off + (es.length - i) * 4 + 1 * 4) = cs' := ⟨_,rfl⟩
      have hg := grow_in (rest := cs.drop (off + (es.length - i) * 4 + 1 * 4)) hfit hcs hy
      rw [hcs'] at hg ⊢
      have y6 : (HX.set k (.cells cs'))[c6]? = some (.cells [.own k off (es.length - i) (es.length - i) 4]) := by rw [List.getElem?_set_ne k6]; exact x6
      simp only [y6,go_sem,Nat.reduceEqDiff,Nat.reduceAdd,Nat.reduceLT,Nat.reduceLeDiff,reduceIte,reduceCtorEq]
      have okF : ∀ LP,HOk LP H → HOk LP ((HX.set k (.cells cs')).set c6 (.cells [.own k off (es.length - i + 1) (es.length - i + 1) 4])) := fun LP h => by
        refine (((okX LP h).set (blk ?_ fun u hu => ?_)).set ?_)
        · exact (okX LP h) k _ xk
        · rw [← hcs'] at hu
          rcases List.mem_append.1 hu with hu | hu
          · exact (List.mem_append.1 hu).imp (fun h => List.mem_of_mem_take h) id
          · exact .inl (List.mem_of_mem_drop hu)
        · simp [blkN,vid,lX]; omega
      refine leafN0 (LP := LPb H.length) (okF _ hok) (fun _ _ h => h) (by simp [lX]) ⟨rfl,(es ++ [(y,Y,d + 1)],k),upE.symm,⟨?_,okF,by simp [lX],fun j hj hm => ?_,fun j hj => .inl hj⟩⟩
      · refine ⟨?_,?_,⟨off,cs',?_,?_,by rw [enl]; exact hg.1,by rw [enl,enq]; exact hg.2⟩,k5,k6⟩
        · rw [List.getElem?_set_ne (Ne.symm c56),List.getElem?_set_ne k5]; exact x5
        · rw [List.getElem?_set_ne (Ne.symm m6),List.getElem?_set_ne (Ne.symm mk),xm,eB]
        · rw [enl,List.getElem?_set_self (by simp [lX]; omega)]
        · rw [List.getElem?_set_ne (Ne.symm k6),List.getElem?_set_self (by omega)]
      · have hm : ¬ (j = c5 ∨ j = c6 ∨ j = mi ∨ j = k) := hm
        rw [not_or,not_or,not_or] at hm
        rw [List.getElem?_set_ne (Ne.symm hm.2.1),List.getElem?_set_ne (Ne.symm hm.2.2.2),xl j hj hm.2.2.1]
    · obtain ⟨cs',hcs'⟩ : ∃ cs',(cs.drop off).take ((es.length - i) * 4) ++ mI y = cs' := ⟨_,rfl⟩
      have ecs : cs' = mI (qF i es ++ y) := by rw [← hcs',hcs]; exact List.map_append.symm
      have ecl : cs'.length = (es.length - i + 1) * 4 := by
        rw [← hcs',List.length_append,List.length_take,List.length_drop,hyl]; omega
      rw [hcs']
      have y6 : (HX.set k Blk.dead ++ [Blk.cells cs'])[c6]? = some (.cells [.own k off (es.length - i) (es.length - i) 4]) := by rw [List.getElem?_append_left (by simp; omega),List.getElem?_set_ne k6]; exact x6
      simp only [y6,go_sem,Nat.reduceEqDiff,Nat.reduceAdd,Nat.reduceLT,Nat.reduceLeDiff,reduceIte,reduceCtorEq]
      have okF : ∀ LP,HOk LP H → HOk LP ((HX.set k Blk.dead ++ [Blk.cells cs']).set c6 (.cells [.own HX.length 0 (es.length - i + 1) (es.length - i + 1) 4])) := fun LP h => by
        refine (((okX LP h).set (i := k) (b := .dead) trivial).push (b := Blk.cells cs') ?_).set ?_
        · rw [ecs]; simp [blkN,mI_bnd]
        · simp [blkN,vid]
      refine leafN0 (LP := LPb H.length) (okF _ hok) (fun _ _ h => h) (by simp [lX]; omega) ⟨rfl,(es ++ [(y,Y,d + 1)],HX.length),upE.symm,⟨?_,okF,by simp [lX]; omega,fun j hj hm => ?_,fun j hj => ?_⟩⟩
      · refine ⟨?_,?_,⟨0,cs',?_,?_,by rw [enl,ecl]; omega,?_⟩,by show HX.length ≠ c5; omega,by show HX.length ≠ c6; omega⟩
        · rw [List.getElem?_set_ne (Ne.symm c56),List.getElem?_append_left (by simp; omega),List.getElem?_set_ne k5]; exact x5
        · rw [List.getElem?_set_ne (Ne.symm m6),List.getElem?_append_left (by simp; omega),List.getElem?_set_ne (Ne.symm mk),xm,eB]
        · rw [enl,List.getElem?_set_self (by simp [lX]; omega)]
        · show ((HX.set k Blk.dead ++ [Blk.cells cs']).set c6 _)[HX.length]? = _
          rw [List.getElem?_set_ne (by omega),List.getElem?_append_right (by simp)]; simp
        · rw [enl,enq,List.drop_zero,List.take_of_length_le (by omega)]; exact ecs
      · have hm : ¬ (j = c5 ∨ j = c6 ∨ j = mi ∨ j = k) := hm
        rw [not_or,not_or,not_or] at hm
        rw [List.getElem?_set_ne (Ne.symm hm.2.1),List.getElem?_append_left (by simp; omega),List.getElem?_set_ne (Ne.symm hm.2.2.2),xl j hj hm.2.2.1]
      · have hj : j = c5 ∨ j = c6 ∨ j = mi ∨ j = HX.length := hj
        rcases hj with h | h | h | h
        · exact .inl (.inl h)
        · exact .inl (.inr (.inl h))
        · exact .inl (.inr (.inr (.inl h)))
        · exact .inr (by omega)
inductive Sr (bs : List (List Int)) (X : List Int) (st : List Int → Bool) : List Ent → Nat → Prop
  | start : Sr bs X st [(X,X,0)] 0
  | step {es : List Ent} {i : Nat} {Y f : List Int} {d : Nat} (h : Sr bs X st es i) (hi : es[i]? = some (Y,f,d)) (hs : st Y = false) : Sr bs X st ((nearL Y bs).foldl (addE Y d) es) (i + 1)
theorem addE_pre (Y : List Int) (d : Nat) (es : List Ent) (y : List Int) : ∃ t,addE Y d es y = es ++ t := by
  unfold addE
  split
  · exact ⟨[],by simp⟩
  · exact ⟨_,rfl⟩
theorem foldE_pre (Y : List Int) (d : Nat) : ∀ (l : List (List Int)) (es : List Ent),∃ t,l.foldl (addE Y d) es = es ++ t
  | [],es => ⟨[],by simp⟩
  | y :: l,es => by
    obtain ⟨t,ht⟩ := addE_pre Y d es y
    obtain ⟨t',ht'⟩ := foldE_pre Y d l (addE Y d es y)
    exact ⟨t ++ t',by rw [List.foldl_cons,ht',ht,List.append_assoc]⟩
theorem addE_len {Y : List Int} {d : Nat} {es : List Ent} {y : List Int} (hY : Y.length = 4) (hy : y.length = 4) (h : ∀ e ∈ es,e.1.length = 4 ∧ e.2.1.length = 4) : ∀ e ∈ addE Y d es y,e.1.length = 4 ∧ e.2.1.length = 4 := by
  intro e he
  unfold addE at he
  split at he
  · exact h e he
  · rcases List.mem_append.1 he with he | he
    · exact h e he
    · simp at he; subst he; exact ⟨hy,hY⟩
theorem foldE_len {Y : List Int} {d : Nat} (hY : Y.length = 4) : ∀ {l : List (List Int)} {es : List Ent},(∀ y ∈ l,y.length = 4) → (∀ e ∈ es,e.1.length = 4 ∧ e.2.1.length = 4) → ∀ e ∈ l.foldl (addE Y d) es,e.1.length = 4 ∧ e.2.1.length = 4
  | [],_,_,h => h
  | y :: l,_,hl,h => by
    rw [List.foldl_cons]
    exact foldE_len hY (fun z hz => hl z (by simp [hz])) (addE_len hY (hl y (by simp)) h)
theorem nearL_len {Y : List Int} {bs : List (List Int)} (hY : Y.length = 4) (h4 : ∀ m ∈ bs,m.length = 4) : ∀ y ∈ nearL Y bs,y.length = 4 := fun y hy => by
  obtain ⟨hy1,-⟩ := List.mem_filter.1 hy
  obtain ⟨m,hm,rfl⟩ := List.mem_map.1 hy1
  exact plusV_len hY (h4 m hm)
section
variable {bs : List (List Int)} {X : List Int} {st : List Int → Bool} {es : List Ent} {i : Nat}
theorem Sr.len (hX : X.length = 4) (h4 : ∀ m ∈ bs,m.length = 4) (h : Sr bs X st es i) : ∀ e ∈ es,e.1.length = 4 ∧ e.2.1.length = 4 := by
  induction h with
  | start => intro e he; simp at he; subst he; exact ⟨hX,hX⟩
  | step h hi hs ih =>
    have hY := (ih _ (List.mem_of_getElem? hi)).1
    exact foldE_len hY (nearL_len hY h4) ih
theorem Sr.le (h : Sr bs X st es i) : i ≤ es.length := by
  induction h with
  | start => simp
  | step h hi hs ih =>
    obtain ⟨t,ht⟩ := foldE_pre _ _ (nearL _ bs) _
    rw [ht,List.length_append]
    have := (List.getElem?_eq_some_iff.1 hi).1
    omega
end
theorem Wk.oneM {H : AHeap} {fr fr' : Fr} {es : List (AVal × AVal)} {j : Nat} (h : H[j]? = some (.map es)) (hb : (es.all fun p => p.1.bnd 0 && p.2.bnd 0) = true) (hf : fle H [some j] [j] fr fr') : Wk 0 [] [some j] fr H fr' [.map es] :=
  Wk.mk0 rfl (by simp [imgs,Blk.alive]) (by simp only [hle]; exact ⟨⟨hb,by simpa using h⟩,trivial⟩) (by simpa [imgs,Blk.alive] using hf)
structure LSt (tc : List AVal) (i c6 : Nat) (es : List Ent) (H : AHeap) : Prop where
  ok : HOk (LPb 0) H
  h0 : H[0]? = some (.cells tc)
  h5 : H[2]? = some (.cells [.mp 1])
  hm : H[1]? = some (.map (es.map entA))
  has : i < es.length → ∃ k,RSt 2 c6 1 i k es H ∧ k ≠ 0
  out : i = es.length → H[c6]? = some (Blk.cells [.sl false false []])
  c0 : 2 < c6
set_option maxRecDepth 20000 in
set_option maxHeartbeats 4000000 in
theorem s58 (rows : List (List Int)) (n : Int) (bs : List (List Int)) (X : List Int) (fvs : AVal) (st : List Int → Bool) (hX : X.length = 4) (h4 : ∀ m ∈ bs,m.length = 4) (hbl : bs.length ≤ 2000000) (bb : ∀ m ∈ bs,Sp.inB 16 m)
    (hfv : ∀ N,vid N 3 fvs = true) (hst : ∀ (y : List Int) (H : AHeap),y.length = 4 → CallV Try.prog fvs [.agg (mI y)] H fun v H' => v = B (st y) ∧ H' = H)
    (hbnd : ∀ es i,Sr bs X st es i → es.length ≤ 34359738367 ∧ ∀ e ∈ es,Sp.inB 90000 e.1) :
    Abs.Spec Try.prog 58 [taskV rows n bs X,fvs] [] fun v H' => ∃ es i,Sr bs X st es i ∧ (i = es.length ∨ ∃ Y f d,es[i]? = some (Y,f,d) ∧ st Y = true) ∧ v = .mp 0 ∧ H' = [.map (es.map entA)] := by
  refine Abs.Spec.walk mixed fn58 nn58 t58 q58 nt58 (by simp) ?_
  have hXl : (mI X).length = 4 := by rw [mI_length,hX]
  have gX : cut true 4 (mI X) = vec X := cut_vec hX
  have acX := allI_cell X
  have kX := keyI_vec hX
  have mf0 : mfind 4 X [] 0 = some none := rfl
  have hd0 : List.drop 4 [[I 0,I 0,I 0,I 0]].flatten = [] := rfl
  obtain ⟨tc,htc⟩ : ∃ tc,AVal.sl false false (mV rows) :: I n :: .sl false false (mV bs) :: mI X = tc := ⟨_,rfl⟩
  have htl : tc.length = 7 := by rw [← htc]; simp [hXl]
  have hd3 : List.drop 3 tc = mI X := by rw [← htc]; rfl
  have htA : tc.all AVal.isCell = true := by rw [← htc]; show (true && (true && (true && (mI X).all AVal.isCell))) = true; rw [acX]; rfl
  have gT : cut true 7 tc = taskV rows n bs X := by
    show AVal.agg (List.take 7 _) = _
    rw [List.take_of_length_le (by omega),← htc]; rfl
  simp only [w58,taskV_eq,htc,htl,hd3,hd0,hXl,gX,kX,mf0,vec_eq,List.flatMap_nil,List.getElem?_cons_succ,List.getElem?_cons_zero,List.set_cons_succ,List.set_cons_zero,go_sem,Nat.reduceEqDiff,Nat.reduceAdd,Nat.reduceLT,Nat.reduceLeDiff,reduceIte,reduceCtorEq]
  have htb : bndL 0 tc = true := by rw [← htc]; simp [bndL,AVal.bnd,mV_bnd,mI_bnd]
  have ok0 : HOk (LPb 0) [Blk.cells tc,Blk.map [(agg (mI X),agg (mI X))],Blk.cells [mp 1],Blk.cells (mI X),Blk.cells [own 3 0 1 1 4]] := fun j b hj => by
    rcases j with _ | _ | _ | _ | _ | j
    · cases hj; simp [blkN,htb]
    · cases hj; simp [blkN,AVal.bnd,mI_bnd]
    · cases hj; simp [blkN,vid]
    · cases hj; simp [blkN,mI_bnd]
    · cases hj; simp [blkN,vid]
    · simp at hj
  have st0 : LSt tc 0 4 [(X,X,0)] [Blk.cells tc,Blk.map [(agg (mI X),agg (mI X))],Blk.cells [mp 1],Blk.cells (mI X),Blk.cells [own 3 0 1 1 4]] :=
    ⟨ok0,rfl,rfl,rfl,fun _ => ⟨3,⟨rfl,rfl,⟨0,mI X,rfl,rfl,by simp [hXl],by simp [qF,hXl,List.take_of_length_le]⟩,by decide,by decide⟩,by decide⟩,fun h => by simp at h,by decide⟩
  refine ⟨htA,W_loop (fun s : { s : Nat × Nat × List Ent × AHeap // Sr bs X st s.2.2.1 s.1 ∧ LSt tc s.1 s.2.1 s.2.2.1 s.2.2.2 } => ([(1,fvs),(2,.ptr 0 0),(5,.ptr 2 0),(6,.ptr s.1.2.1 0)],s.1.2.2.2)) (fun s => 34359738368 - s.1.1) ⟨(0,4,[(X,X,0)],_),.start,st0⟩ (idρ _) (Wk.ok (LP := LPb 0) ok0 (fun _ _ h => h) (by simp) (by
      simp only [List.mem_cons,List.not_mem_nil,or_false,forall_eq_or_imp,forall_eq]
      exact ⟨⟨rfl,hfv _⟩,⟨rfl,rfl⟩,⟨rfl,rfl⟩,rfl,rfl⟩) fun _ h => by cases h) ?_⟩
  rintro ⟨⟨i,c6,es,H⟩,hS,hL⟩
  dsimp only at hS hL ⊢
  have hlen := hS.len hX h4
  have hle := hS.le
  obtain ⟨hB1,hB2⟩ := hbnd es i hS
  have l5 := (List.getElem?_eq_some_iff.1 hL.h5).1
  have fin : ∀ {fr : Fr},fr.get 5 = .ptr 2 0 → (i = es.length ∨ ∃ Y f d,es[i]? = some (Y,f,d) ∧ st Y = true) → W ⟨Try.prog,0,34,true⟩ (retA 0 r58 fun v H' => ∃ es i,Sr bs X st es i ∧ (i = es.length ∨ ∃ Y f d,es[i]? = some (Y,f,d) ∧ st Y = true) ∧ v = .mp 0 ∧ H' = [.map (es.map entA)]) c58T1 [] fr H [] := fun {fr} h5 hend => by
    have g5 := hL.h5
    simp only [w58T1,h5,g5,go_sem,Nat.reduceEqDiff,Nat.reduceAdd,Nat.reduceLT,Nat.reduceLeDiff,reduceIte,reduceCtorEq]
    exact leafO (.mp 0) [.map (es.map entA)] [some 1] (Wk.oneM hL.hm (mapB_bnd es) (by simp [fle,vle,Fr.get])) ⟨es,i,hS,hend,rfl,rfl⟩
  by_cases hie : i = es.length
  · have g6 := hL.out hie
    have d0 : decide (((0 : Nat) : Int) > 0) = false := rfl
    simp only [w58L0,g6,d0,go_sem,Nat.reduceEqDiff,Nat.reduceAdd,Nat.reduceLT,Nat.reduceLeDiff,reduceIte,reduceCtorEq]
    refine fin ?_ (.inl hie)
    rfl
  · have hil : i < es.length := by omega
    obtain ⟨k,hR,hk0⟩ := hL.has hil
    obtain ⟨off,cs,hc6,hk,hfit,hcs⟩ := hR.hq
    obtain ⟨⟨Y,f,d⟩,hY⟩ : ∃ e,es[i]? = some e := ⟨_,List.getElem?_eq_getElem hil⟩
    have hYl := (hlen _ (List.mem_of_getElem? hY)).1
    have hYl : Y.length = 4 := hYl
    have bY : Sp.inB 90000 Y := hB2 _ (List.mem_of_getElem? hY)
    have hq0 : (cs.drop off).take 4 = mI Y := by
      have := congrArg (List.take 4) hcs
      rw [List.take_take,show min 4 ((es.length - i) * 4) = 4 by omega,qF_head hY] at this
      rw [this]
      show List.take 4 (mI (Y ++ qF (i + 1) es)) = mI Y
      rw [show mI (Y ++ qF (i + 1) es) = mI Y ++ mI (qF (i + 1) es) from List.map_append,List.take_append_of_le_length (by rw [mI_length,hYl]; exact Nat.le_refl _),List.take_of_length_le (by rw [mI_length,hYl]; exact Nat.le_refl _)]
    have gY : cut true 4 (cs.drop off) = vec Y := by
      show AVal.agg (List.take 4 _) = _
      rw [hq0]; rfl
    have h0 := hL.h0
    have d1 : decide ((((es.length - i : Nat) : Int)) > 0) = true := decide_eq_true (by omega)
    simp only [w58L0,↓reduceIte,Nat.add_zero,hc6,hk,h0,gY,gT,htl,d1,vec_eq,go_sem,Nat.reduceEqDiff,Nat.reduceAdd,Nat.reduceLT,Nat.reduceLeDiff,reduceIte,reduceCtorEq]
    refine ⟨⟨by decide,by omega⟩,by omega,CallK.pure (hst Y H hYl) ?_⟩
    cases hsY : st Y with
    | true =>
      simp only [go_sem,Nat.reduceEqDiff,Nat.reduceAdd,Nat.reduceLT,Nat.reduceLeDiff,reduceIte,reduceCtorEq]
      refine fin ?_ (.inr ⟨Y,f,d,hY,hsY⟩)
      rfl
    | false =>
      simp only [↓reduceIte,Nat.add_zero,hc6,hk,h0,gY,gT,htl,taskV_eq,vec_eq,go_sem,Nat.reduceEqDiff,Nat.reduceAdd,Nat.reduceLT,Nat.reduceLeDiff,reduceIte,reduceCtorEq]
      have hS' := hS.step hY hsY
      obtain ⟨hB1',-⟩ := hbnd _ _ hS'
      have lt : ∀ {H : AHeap} {j b},H[j]? = some b → j < H.length := fun hj => (List.getElem?_eq_some_iff.1 hj).1
      have l6 := lt hc6
      have l0 := lt h0
      have m1 := lt hL.hm
      refine ⟨⟨by decide,by omega⟩,by omega,CallKD.by (CallV.of_spec (first := []) (cap := []) (s92c (f106_ok 2 c6 1 i Y d) H (es,k) rows n bs Y X hYl hX h4 hbl bY bb hR (by simp [vid]; omega) (hL.ok.mono fun _ _ h => h.mono (by omega)) fun pre y post hp => ?_)) fun v H2 ⟨hv,⟨es2,k2⟩,hv2,hto⟩ => ?_⟩
      · have hmem : y ∈ nearL Y bs := by rw [hp]; simp
        obtain ⟨t,ht⟩ := foldE_pre Y d pre es
        have hpl : ∀ z ∈ pre,z.length = 4 := fun z hz => nearL_len hYl h4 z (by rw [hp]; simp [hz])
        refine ⟨nearL_len hYl h4 y hmem,hYl,⟨(f,d),?_⟩,foldE_len hYl hpl hlen,?_⟩
        · show (pre.foldl (addE Y d) es)[i]? = _
          rw [ht,List.getElem?_append_left hil]; exact hY
        · show (pre.foldl (addE Y d) es).length < _
          have e : (nearL Y bs).foldl (addE Y d) es = (y :: post).foldl (addE Y d) (pre.foldl (addE Y d) es) := by rw [hp,List.foldl_append]
          obtain ⟨t',ht'⟩ := foldE_pre Y d (y :: post) (pre.foldl (addE Y d) es)
          rw [e,ht',List.length_append] at hB1'
          omega
      · subst hv
        have hv2 : es2 = (nearL Y bs).foldl (addE Y d) es := hv2
        rw [← hv2] at hS' hB1'
        obtain ⟨t,ht⟩ := foldE_pre Y d (nearL Y bs) es
        rw [← hv2] at ht
        have hR2 : RSt 2 c6 1 i k2 es2 H2 := hto.ok
        obtain ⟨off2,cs2,hc62,hk2,hfit2,hcs2⟩ := hR2.hq
        have hil2 : i < es2.length := by rw [ht,List.length_append]; omega
        have hY2 : es2[i]? = some (Y,f,d) := by rw [ht,List.getElem?_append_left hil]; exact hY
        have hc6' := hL.c0
        have nm0 : ∀ j,j < H.length → j ≠ 2 → j ≠ c6 → j ≠ 1 → j ≠ k → H2[j]? = H[j]? := fun j hj a1 a2 a3 a4 => hto.kept j hj fun hm => by
          have hm : j = 2 ∨ j = c6 ∨ j = 1 ∨ j = k := hm
          omega
        have h02 : H2[0]? = some (.cells tc) := by rw [nm0 0 l0 (by decide) (by omega) (by decide) (Ne.symm hk0)]; exact h0
        have ok2 : HOk (LPb 0) H2 := hto.hok _ hL.ok
        have l2 := hto.len
        have k20 : k2 ≠ 0 := fun e => by
          have := hto.own k2 (.inr (.inr (.inr rfl)))
          have this : (k2 = 2 ∨ k2 = c6 ∨ k2 = 1 ∨ k2 = k) ∨ H.length ≤ k2 := this
          omega
        have lk2 := lt hk2
        have l62 := lt hc62
        have c53 : ∀ L : AHeap,(H2 ++ L)[c6]? = some (.cells [.own k2 off2 (es2.length - i) (es2.length - i) 4]) := fun L => by rw [List.getElem?_append_left l62]; exact hc62
        have cond : ((1 : Int) = ((es2.length - i : Nat) : Int) ∧ (0 : Int) < 1) ↔ es2.length - i = 1 := by constructor <;> omega
        simp only [↓reduceIte,Nat.add_zero,hc62,c53,app_get,app_get0,app_set,app_set0,List.append_assoc,List.cons_append,List.nil_append,List.length_append,List.length_cons,List.length_nil,List.getElem?_cons_succ,List.getElem?_cons_zero,List.set_cons_succ,List.set_cons_zero,go_sem,Nat.reduceEqDiff,Nat.reduceAdd,Nat.reduceLT,Nat.reduceLeDiff,reduceIte,reduceCtorEq]
        have z01 : ((0 : Int) < 1) = True := by simp
        have tn1 : Int.toNat 1 = 1 := rfl
        have qn : (cs2.drop (off2 + 4)).take ((es2.length - (i + 1)) * 4) = mI (qF (i + 1) es2) := by
          have := congrArg (List.drop 4) hcs2
          rw [List.drop_take,List.drop_drop,qF_head hY2] at this
          have e : List.drop 4 (mI (Y ++ qF (i + 1) es2)) = mI (qF (i + 1) es2) := by
            rw [show mI (Y ++ qF (i + 1) es2) = mI Y ++ mI (qF (i + 1) es2) from List.map_append,List.drop_left' (by rw [mI_length,hYl])]
          rw [show (es2.length - (i + 1)) * 4 = (es2.length - i) * 4 - 4 by omega,this]
          exact e
        have okF : ∀ (v : AVal),vid (H2.length + 1) 2 v = true → HOk (LPb 0) (H2 ++ [Blk.cells [v]]) := fun v hv => ok2.push (by simp [blkN,hv])
        have back : ∀ {fr : Fr} (v : AVal),vid (H2.length + 1) 2 v = true → fr.get 1 = fvs → fr.get 2 = .ptr 0 0 → fr.get 5 = .ptr 2 0 → fr.get 6 = .ptr H2.length 0 → (i + 1 < es2.length → v = .own k2 (off2 + 4) (es2.length - (i + 1)) (es2.length - (i + 1)) 4) → (i + 1 = es2.length → v = .sl false false []) → 
            KQ ⟨Try.prog,0,34,true⟩ (retA 0 r58 fun v H' => ∃ es i,Sr bs X st es i ∧ (i = es.length ∨ ∃ Y f d,es[i]? = some (Y,f,d) ∧ st Y = true) ∧ v = .mp 0 ∧ H' = [.map (es.map entA)]) .norm [.loop [] (fun s : { s : Nat × Nat × List Ent × AHeap // Sr bs X st s.2.2.1 s.1 ∧ LSt tc s.1 s.2.1 s.2.2.1 s.2.2.2 } => ([(1,fvs),(2,.ptr 0 0),(5,.ptr 2 0),(6,.ptr s.1.2.1 0)],s.1.2.2.2)) (fun s => 34359738368 - s.1.1) ⟨(i,c6,es,H),hS,hL⟩,.block 0,.seq c58T1] fr (H2 ++ [Blk.cells [v]]) [] := fun {fr} v hvv f1 f2 f5 f6 hv1 hv0 => by
          have lt2 : ∀ {j b},H2[j]? = some b → (H2 ++ [Blk.cells [v]])[j]? = some b := fun {j b} hj => by rw [List.getElem?_append_left (lt hj)]; exact hj
          have hL' : LSt tc (i + 1) H2.length es2 (H2 ++ [Blk.cells [v]]) := ⟨okF v hvv,lt2 h02,lt2 hR2.h5,lt2 hR2.hm,fun hlt => ⟨k2,⟨lt2 hR2.h5,lt2 hR2.hm,⟨off2 + 4,cs2,by rw [hv1 hlt,app_get0]; rfl,lt2 hk2,by omega,qn⟩,hR2.k5,by omega⟩,k20⟩,fun he => by rw [hv0 he,app_get0]; rfl,by omega⟩
          refine roundN (LP := LPb 0) (okF v hvv) (fun _ _ h => h) (Nat.zero_le _) ⟨(i + 1,H2.length,es2,_),hS',hL'⟩ (by dsimp only; omega) rfl ?_
          dsimp only
          simp only [List.mem_cons,List.not_mem_nil,or_false,forall_eq_or_imp,forall_eq]
          refine ⟨⟨f1,hfv _⟩,⟨f2,?_⟩,⟨f5,?_⟩,f6,?_⟩ <;> simp [vid] <;> omega
        by_cases h1 : es2.length - i = 1
        · have e1 : ((es2.length - i : Nat) : Int) = 1 := by omega
          simp only [e1,z01,app_get,app_get0,app_set,app_set0,go_sem,Nat.reduceEqDiff,Nat.reduceAdd,Nat.reduceLT,Nat.reduceLeDiff,reduceIte,reduceCtorEq]
          refine back _ rfl rfl rfl rfl rfl (fun h => by omega) fun _ => rfl
        · have e1 : ((1 : Int) = ((es2.length - i : Nat) : Int)) = False := by simp; omega
          simp only [e1,z01,tn1,false_and,app_get,app_get0,app_set,app_set0,go_sem,Nat.reduceEqDiff,Nat.reduceAdd,Nat.reduceLT,Nat.reduceLeDiff,reduceIte,reduceCtorEq]
          refine ⟨⟨by decide,by omega,.inr (by omega)⟩,?_⟩
          refine back _ (by simp [vid]; omega) rfl rfl rfl rfl (fun h => by rw [Nat.sub_sub]) fun h => by omega
open Go.Abs AVal
theorem s59 (y : List Int) : Abs.Spec Try.prog 59 [.agg (mI y)] [] fun v H' => H' = [] ∧ v = B false := by
  refine Abs.Spec.walk mixed fn59 nn59 t59 q59 nt59 (by simp) ?_
  have acy := allI_cell y
  simp only [w59,go_sem,Nat.reduceEqDiff,Nat.reduceAdd,Nat.reduceLT,Nat.reduceLeDiff,reduceIte,reduceCtorEq]
  exact ⟨acy,leaf (B false) rfl ⟨rfl,rfl⟩⟩
/-! ### Plain: what the search finds. -/
theorem hasK_iff {es : List Ent} {y : List Int} : hasK es y = true ↔ y ∈ es.map (·.1) := by
  unfold hasK; rw [List.any_eq_true,List.mem_map]
  exact ⟨fun ⟨e,he,h⟩ => ⟨e,he,by simpa using h⟩,fun ⟨e,he,h⟩ => ⟨e,he,by simpa using h⟩⟩
theorem hasK_app {es t : List Ent} {y : List Int} (h : hasK es y = true) : hasK (es ++ t) y = true := by
  rw [hasK_iff] at h ⊢; rw [List.map_append]; exact List.mem_append_left _ h
theorem addE_has (Y : List Int) (d : Nat) (es : List Ent) (y : List Int) : hasK (addE Y d es y) y = true := by
  unfold addE
  split
  · assumption
  · rw [hasK_iff]; simp
theorem foldE_has {Y : List Int} {d : Nat} : ∀ {l : List (List Int)} {es : List Ent} {y : List Int},y ∈ l → hasK (l.foldl (addE Y d) es) y = true
  | z :: l,es,y,h => by
    rw [List.foldl_cons]
    rcases List.mem_cons.1 h with rfl | h
    · obtain ⟨t,ht⟩ := foldE_pre Y d l (addE Y d es y)
      rw [ht]; exact hasK_app (addE_has Y d es y)
    · exact foldE_has h
theorem foldE_nd {Y : List Int} {d : Nat} : ∀ {l : List (List Int)} {es : List Ent},(es.map (·.1)).Nodup → ((l.foldl (addE Y d) es).map (·.1)).Nodup
  | [],_,h => h
  | y :: l,es,h => by
    rw [List.foldl_cons]
    refine foldE_nd ?_
    unfold addE
    split
    · exact h
    · rename_i hn
      have hn : y ∉ es.map (·.1) := fun hm => hn (hasK_iff.2 hm)
      rw [List.map_append]
      refine List.nodup_append.2 ⟨h,by simp,fun a ha b hb => ?_⟩
      simp at hb; subst hb
      exact fun e => hn (e ▸ ha)
theorem foldE_new {Y : List Int} {d : Nat} : ∀ {l : List (List Int)} {es : List Ent} {e : Ent},e ∈ l.foldl (addE Y d) es → e ∈ es ∨ e.1 ∈ l ∧ e.2 = (Y,d + 1)
  | [],_,_,h => .inl h
  | y :: l,es,e,h => by
    rw [List.foldl_cons] at h
    rcases foldE_new h with h | ⟨h1,h2⟩
    · unfold addE at h
      split at h
      · exact .inl h
      · rcases List.mem_append.1 h with h | h
        · exact .inl h
        · simp at h; subst h; exact .inr ⟨by simp,rfl⟩
    · exact .inr ⟨by simp [h1],h2⟩
section
variable {bs : List (List Int)} {X : List Int} {st : List Int → Bool} {es : List Ent} {i : Nat}
theorem Sr.nd (h : Sr bs X st es i) : (es.map (·.1)).Nodup := by
  induction h with
  | start => simp
  | step h hi hs ih => exact foldE_nd ih
theorem Sr.first (h : Sr bs X st es i) : es[0]? = some (X,X,0) := by
  induction h with
  | start => rfl
  | step h hi hs ih =>
    obtain ⟨t,ht⟩ := foldE_pre _ _ (nearL _ bs) _
    rw [ht,List.getElem?_append_left (List.getElem?_eq_some_iff.1 ih).1]; exact ih
theorem Sr.closed (h : Sr bs X st es i) : ∀ j,j < i → ∀ Y f d,es[j]? = some (Y,f,d) → ∀ y ∈ nearL Y bs,hasK es y = true := by
  induction h with
  | start => intro j hj; omega
  | @step es i Y0 f0 d0 h hi hs ih =>
    intro j hj Y f d hY y hy
    obtain ⟨t,ht⟩ := foldE_pre Y0 d0 (nearL Y0 bs) es
    have hil := (List.getElem?_eq_some_iff.1 hi).1
    by_cases hji : j < i
    · rw [ht,List.getElem?_append_left (by omega)] at hY
      rw [ht]; exact hasK_app (ih j hji Y f d hY y hy)
    · obtain rfl : j = i := by omega
      rw [ht,List.getElem?_append_left (by omega),hi] at hY
      cases hY
      exact foldE_has hy
theorem Sr.ind {P : List Int → Prop} (h : Sr bs X st es i) (h0 : P X) (hs : ∀ Y y,P Y → y ∈ nearL Y bs → P y) : ∀ e ∈ es,P e.1 := by
  induction h with
  | start => intro e he; simp at he; subst he; exact h0
  | step h hi _ ih =>
    intro e he
    rcases foldE_new he with he | ⟨he,-⟩
    · exact ih e he
    · exact hs _ _ (ih _ (List.mem_of_getElem? hi)) he
end
theorem mem_near {Y y : List Int} {bs : List (List Int)} : y ∈ nearL Y bs ↔ ∃ m ∈ bs,y = plusV 1 Y m ∧ posV y = true := by
  unfold nearL
  rw [List.mem_filter,List.mem_map]
  constructor
  · rintro ⟨⟨m,hm,rfl⟩,hp⟩; exact ⟨m,hm,rfl,hp⟩
  · rintro ⟨m,hm,rfl,hp⟩; exact ⟨⟨m,hm,rfl⟩,hp⟩
section
variable {a : List (List Int)} {bs : List (List Int)} {X : List Int} {st : List Int → Bool} {es : List Ent} {i : Nat}
theorem Sr.fam (hm : Sp.mat a = true) (hB : IsB (a.map Sp.pad) (a.getD 0 []).length bs) (hX : X.length = 4) (hXp : ∀ j,(a.getD 0 []).length ≤ j → X.getD j 0 = 0) (hX0 : posV X = true) (h : Sr bs X st es i) : ∀ e ∈ es,Sp.Fam (a.map Sp.pad) (a.getD 0 []).length X e.1 :=
  h.ind (Sp.Fam.self hX hXp hX0) fun Y y hY hy => by
    obtain ⟨m,hm',rfl,hp⟩ := mem_near.1 hy
    exact hY.step hX ((Sp.mem_bs hm hB).1 hm') hp
def keysAt (es : List Ent) (q : List Nat) : List (List Int) := q.map fun k => (es.map (·.1)).getD k []
theorem Sr.all (hm : Sp.mat a = true) (hB : IsB (a.map Sp.pad) (a.getD 0 []).length bs) (hX : X.length = 4) (hXp : ∀ j,(a.getD 0 []).length ≤ j → X.getD j 0 = 0) (hX0 : posV X = true) (h : Sr bs X st es es.length) (Y : List Int) : Y ∈ es.map (·.1) ↔ Sp.Fam (a.map Sp.pad) (a.getD 0 []).length X Y := by
  constructor
  · intro hy
    obtain ⟨e,he,rfl⟩ := List.mem_map.1 hy
    exact h.fam hm hB hX hXp hX0 e he
  · intro hF
    refine Sp.fam_ind hm hX hXp hX0 (P := fun Y => Y ∈ es.map (·.1)) (List.mem_map.2 ⟨_,List.mem_of_getElem? h.first,rfl⟩) (fun Z m _ hZ hM hp => ?_) hF
    obtain ⟨e,he,rfl⟩ := List.mem_map.1 hZ
    obtain ⟨j,hj⟩ := List.getElem?_of_mem he
    exact hasK_iff.1 (h.closed j (List.getElem?_eq_some_iff.1 hj).1 e.1 e.2.1 e.2.2 hj _ (mem_near.2 ⟨m,(Sp.mem_bs hm hB).2 hM,rfl,hp⟩))
end
set_option maxRecDepth 20000 in
set_option maxHeartbeats 4000000 in
theorem s32 (rows : List (List Int)) (n : Nat) (bs : List (List Int)) (X : List Int) (h1 : 1 ≤ n) (hn : n ≤ 4) (hX : X.length = 4) (h4 : ∀ m ∈ bs,m.length = 4) (hbl : bs.length ≤ 2000000) (bb : ∀ m ∈ bs,Sp.inB 16 m)
    (hbnd : ∀ es i,Sr bs X (fun _ => false) es i → es.length ≤ 34359738367 ∧ ∀ e ∈ es,Sp.inB 90000 e.1) :
    Abs.Spec Try.prog 32 [taskV rows n bs X] [] fun v H' => H' = [] ∧ ∃ (es : List Ent) (l : List (List Int)),Sr bs X (fun _ => false) es es.length ∧ l.Nodup ∧ (∀ y,y ∈ l ↔ y ∈ es.map (·.1)) ∧ v = .sl false false (mS (Sp.sortV (l.map fun x => x.take n))) := by
  refine Abs.Spec.walk mixed fn32 nn32 t32 q32 nt32 (by simp) ?_
  have hXl : (mI X).length = 4 := by rw [mI_length,hX]
  have acX := allI_cell X
  obtain ⟨tc,htc⟩ : ∃ tc,AVal.sl false false (mV rows) :: I n :: .sl false false (mV bs) :: mI X = tc := ⟨_,rfl⟩
  have htl : tc.length = 7 := by rw [← htc]; simp [hXl]
  have htA : tc.all AVal.isCell = true := by rw [← htc]; show (true && (true && (true && (mI X).all AVal.isCell))) = true; rw [acX]; rfl
  have gT : cut true 7 tc = taskV rows n bs X := by
    show AVal.agg (List.take 7 _) = _
    rw [List.take_of_length_le (by omega),← htc]; rfl
  have htb : bndL 0 tc = true := by rw [← htc]; simp [bndL,AVal.bnd,mV_bnd,mI_bnd]
  have gM : cut true 2 tc = matV rows n := by rw [← htc]; rfl
  simp only [w32,taskV_eq,htc,htl,gT,go_sem,Nat.reduceEqDiff,Nat.reduceAdd,Nat.reduceLT,Nat.reduceLeDiff,reduceIte,reduceCtorEq]
  have htv : AVal.agg tc = taskV rows n bs X := by rw [← htc]; rfl
  have h69 := s58 rows n bs X (.fn (.func 59) [] []) (fun _ => false) hX h4 hbl bb (fun N => rfl) (fun y H hy => CallV.of_spec (first := []) (cap := []) (Spec.lift (s59 y) (by simp [bndL,AVal.bnd,mI_bnd]) rfl H)) hbnd
  refine ⟨htA,CallK.by (CallV.of_spec (first := []) (cap := []) (Spec.lendM (C := fun es' => ∃ es i,Sr bs X (fun _ => false) es i ∧ i = es.length ∧ es' = es.map entA) (args' := [taskV rows n bs X,.fn (.func 59) [] []]) (h69.mono fun v H' ⟨es,i,hS,he,hv,hH⟩ => ⟨_,⟨es,i,hS,he.elim id (fun ⟨_,_,_,_,h⟩ => by cases h),rfl⟩,hv,hH⟩) (fun es' ⟨es,i,_,_,h⟩ p hp => ?_) ⟨?_,?_,trivial⟩)) fun v H' ⟨es',⟨es,i,hS,hi,he'⟩,hv,hH⟩ => ?_⟩
  · subst h
    obtain ⟨e,_,rfl⟩ := List.mem_map.1 hp
    have fl : ∀ y : List Int,(vec y).flat = true := fun y => by simp [vec,AVal.flat,mI]
    exact ⟨fl _,fl _⟩
  · exact .inl ⟨htc.symm,by simp [bndL,AVal.bnd,mV_bnd,mI_bnd]⟩
  · simp [vle,vle.vleL]
  subst he' hv hH hi
  have hlen := hS.len hX h4
  have hB1 := (hbnd _ _ hS).1
  simp only [List.set_cons_succ,List.set_cons_zero,List.getElem?_cons_succ,List.getElem?_cons_zero,go_sem,Nat.reduceEqDiff,Nat.reduceAdd,Nat.reduceLT,Nat.reduceLeDiff,reduceIte,reduceCtorEq]
  have cM := mapB_bnd es
  refine W_loop (fun q : { q : List Nat // q.Nodup ∧ ∀ k ∈ q,k < es.length } => ([(1,.ptr 0 0),(3,.own 3 0 q.1.length q.1.length 4),(7,.ptr 2 0)],[.cells tc,.map (es.map entA),.iter 1 es.length q.1,.cells (mI (keysAt es q.1).flatten)])) (fun q => es.length - q.1.length) ⟨[],List.nodup_nil,by simp⟩ [some 0,some 1,some 2,none]
    (Wk.mk0 rfl (by simp [imgs,Blk.alive]) (by simp only [hle,csle,keysAt]; simp [htb,cM,mI]) (by simp [fle,vle,Fr.get])) ?_
  rintro ⟨q,hq,hqn⟩
  dsimp only
  have kl : (keysAt es q).length = q.length := by simp [keysAt]
  have k4 : ∀ v ∈ keysAt es q,v.length = 4 := fun v hv => by
    obtain ⟨k,hk,rfl⟩ := List.mem_map.1 hv
    have hkn := hqn k hk
    have e : (es.map (·.1)).getD k [] = es[k].1 := by simp [List.getD_eq_getElem?_getD,hkn]
    rw [e]
    exact (hlen _ (List.getElem_mem hkn)).1
  have fl4 : (mI (keysAt es q).flatten).length = q.length * 4 := by
    rw [mI_length,← kl]
    exact flat_len k4
  have qle : q.length ≤ es.length := by
    have := hq.length_le_of_subset (l₂ := List.range es.length) fun k hk => List.mem_range.2 (hqn k hk)
    simpa using this
  simp only [w32L0,go_sem,Nat.reduceEqDiff,Nat.reduceAdd,Nat.reduceLT,Nat.reduceLeDiff,reduceIte,reduceCtorEq]
  refine mnext_go rfl rfl (by simp) (fun hall => ?_) fun k p hk hkq => ?_
  · simp only [w32T1,List.getD_cons_zero,List.getD_cons_succ,gM,htl,go_sem,Nat.reduceEqDiff,Nat.reduceAdd,Nat.reduceLT,Nat.reduceLeDiff,reduceIte,reduceCtorEq]
    have kn : (keysAt es q).Nodup := by
      unfold keysAt List.Nodup
      rw [List.pairwise_map]
      refine hq.imp_of_mem fun {a b} ha hb hab e => hab ?_
      have ha' := hqn a ha
      have hb' := hqn b hb
      rw [List.getD_eq_getElem?_getD,List.getD_eq_getElem?_getD,List.getElem?_eq_getElem (by simpa using ha'),List.getElem?_eq_getElem (by simpa using hb')] at e
      exact (List.getElem_inj hS.nd).1 e
    have h84 := s60 rows n h1 hn (keysAt es q) k4 (by omega)
    refine CallK.by (CallV.of_spec (first := []) (cap := []) (Spec.give (args := [matV rows n,.own 3 0 q.length q.length 4]) (H := [.cells tc,.map (es.map entA),.iter 1 es.length q,.cells (mI (keysAt es q).flatten)]) (ρ := []) (R := fun H' => H' = []) (h84.mono fun v' H' h => ⟨h.2,h.1⟩) rfl (Wk.nil ⟨.inl ⟨rfl,by simp [bndL,AVal.bnd,mV_bnd]⟩,vle_mV k4 rfl (by simp) kl.symm,trivial⟩) (by simp [AVal.bnd,mS_bnd]))) fun v H' ⟨hv,hH⟩ => ?_
    subst hv
    simp only [go_sem,Nat.reduceEqDiff,Nat.reduceAdd,Nat.reduceLT,Nat.reduceLeDiff,reduceIte,reduceCtorEq]
    refine leaf (.sl false false (mS (Sp.sortV ((keysAt es q).map fun x => x.take n)))) ⟨mS_bnd,fun h => h,fun h => h,rfl⟩ ⟨rfl,es,keysAt es q,hS,kn,fun y => ?_,rfl⟩
    constructor
    · intro hy
      obtain ⟨k,hk,rfl⟩ := List.mem_map.1 hy
      rw [List.getD_eq_getElem?_getD,List.getElem?_eq_getElem (by simpa using hqn k hk)]
      exact List.getElem_mem _
    · intro hy
      obtain ⟨k,hk,rfl⟩ := List.getElem_of_mem hy
      refine List.mem_map.2 ⟨k,hall k (by simpa using hk),?_⟩
      rw [List.getD_eq_getElem?_getD,List.getElem?_eq_getElem hk]; rfl
  · have hkn : k < es.length := by have := (List.getElem?_eq_some_iff.1 hk).1; simpa using this
    obtain ⟨y,hy⟩ : ∃ y,es[k].1 = y := ⟨_,rfl⟩
    obtain ⟨f,hf⟩ : ∃ f,es[k].2.1 = f := ⟨_,rfl⟩
    have hp : p = (vec y,vec f) := by
      rw [List.getElem?_map,List.getElem?_eq_getElem hkn] at hk
      simp only [Option.map_some,Option.some.injEq] at hk
      rw [← hk,← hy,← hf]; rfl
    subst hp
    have hgl : (q ++ [k]).getLast? = some k := by simp
    have yl : y.length = 4 := by rw [← hy]; exact (hlen _ (List.getElem_mem hkn)).1
    have hyl : (mI y).length = 4 := by rw [mI_length,yl]
    have gy : cut true 4 (mI y) = vec y := cut_vec yl
    have acy := allI_cell y
    have hd0 : List.drop 4 [[I 0,I 0,I 0,I 0]].flatten = [] := rfl
    simp only [List.getD_cons_zero,List.getD_cons_succ,hgl,hk,hyl,gy,hd0,vec_eq,List.set_cons_succ,List.set_cons_zero,List.getElem?_cons_succ,List.getElem?_cons_zero,go_sem,Nat.reduceEqDiff,Nat.reduceAdd,Nat.reduceLT,Nat.reduceLeDiff,reduceIte,reduceCtorEq]
    have ek : keysAt es (q ++ [k]) = keysAt es q ++ [y] := by
      unfold keysAt
      rw [List.map_append,List.map_cons,List.map_nil,List.getD_eq_getElem?_getD,List.getElem?_eq_getElem (by simpa using hkn)]
      simp [hy]
    have ef : List.take (q.length * 4) (keysAt es q).flatten ++ List.take 4 y = (keysAt es (q ++ [k])).flatten := by
      rw [ek,List.flatten_append,List.take_of_length_le (by rw [flat_len k4,kl]; omega),List.take_of_length_le (by omega)]; simp
    have qlt : q.length < es.length := by
      have hn : (q ++ [k]).Nodup := List.nodup_append.2 ⟨hq,by simp,fun a ha b hb => by simp at hb; subst hb; exact fun e => hkq (e ▸ ha)⟩
      have := hn.length_le_of_subset (l₂ := List.range es.length) fun k' hk' => by
        rw [List.mem_range]
        rcases List.mem_append.1 hk' with h | h
        · exact hqn _ h
        · simp at h; omega
      simp at this; omega
    rw [ef]
    refine ⟨acy,⟨by rw [flat_len k4,kl]; omega,by omega⟩,round1 rfl ⟨q ++ [k],List.nodup_append.2 ⟨hq,by simp,fun a ha b hb => by simp at hb; subst hb; exact fun e => hkq (e ▸ ha)⟩,fun k' hk' => ?_⟩ [some 0,some 1,some 2,some 6] (by simp; omega) (Wk.mk0 rfl (by simp [imgs,Blk.alive]) (by simp only [hle,csle]; simp [htb,cM,mI_bnd]) (by simp [fle,vle,Fr.get]))⟩
    rcases List.mem_append.1 hk' with h | h
    · exact hqn _ h
    · simp at h; omega
/-! ### The answers of Count and Family. -/
theorem box_gen (K : Nat) {l : List (List Int)} (hd : l.Nodup) (hl : ∀ y ∈ l,y.length = 4 ∧ ∀ z ∈ y,0 ≤ z ∧ z < K) : l.length ≤ K * (K * (K * K)) := by
  have four : ∀ y ∈ l,∃ a b c d : Nat,y = [(a : Int),(b : Int),(c : Int),(d : Int)] ∧ a < K ∧ b < K ∧ c < K ∧ d < K := fun y hy => by
    obtain ⟨h4,hz⟩ := hl y hy
    rcases y with _ | ⟨a,_ | ⟨b,_ | ⟨c,_ | ⟨d,_ | ⟨e,y⟩⟩⟩⟩⟩ <;> simp at h4
    have ha := hz a (by simp)
    have hb := hz b (by simp)
    have hc := hz c (by simp)
    have hd := hz d (by simp)
    refine ⟨a.toNat,b.toNat,c.toNat,d.toNat,?_,by omega,by omega,by omega,by omega⟩
    rw [Int.toNat_of_nonneg ha.1,Int.toNat_of_nonneg hb.1,Int.toNat_of_nonneg hc.1,Int.toNat_of_nonneg hd.1]
  have step : ∀ {a N x : Nat},a < K → x < N → a + K * x < K * N := fun {a N x} ha hx => by
    have : K * (x + 1) ≤ K * N := Nat.mul_le_mul_left K hx
    rw [Nat.mul_add] at this; omega
  have inj : ∀ {a b x y : Nat},a < K → b < K → a + K * x = b + K * y → a = b ∧ x = y := fun {a b x y} ha hb h => by
    have h1 := congrArg (· % K) h
    have h2 := congrArg (· / K) h
    simp only [Nat.add_mul_mod_self_left,Nat.mod_eq_of_lt ha,Nat.mod_eq_of_lt hb] at h1
    have hK : 0 < K := by omega
    simp only [Nat.add_mul_div_left _ _ hK,Nat.div_eq_of_lt ha,Nat.div_eq_of_lt hb] at h2
    exact ⟨h1,by omega⟩
  refine Sp.count_le (f := fun y => (y.getD 0 0).toNat + K * ((y.getD 1 0).toNat + K * ((y.getD 2 0).toNat + K * (y.getD 3 0).toNat))) hd (fun y hy => ?_) fun y hy w hw e => ?_
  · obtain ⟨a,b,c,d,rfl,ha,hb,hc,hd⟩ := four y hy
    exact step ha (step hb (step hc hd))
  · obtain ⟨a,b,c,d,rfl,ha,hb,hc,hd⟩ := four y hy
    obtain ⟨a',b',c',d',rfl,ha',hb',hc',hd'⟩ := four w hw
    obtain ⟨h1,e⟩ := inj ha ha' e
    obtain ⟨h2,e⟩ := inj hb hb' e
    obtain ⟨h3,e⟩ := inj hc hc' e
    have e : d = d' := e
    rw [h1,h2,h3,e]
theorem vecOk_spec {a : List (List Int)} {x : List Int} {most : Int} (h0 : 0 ≤ most) (h : Sp.vecOk a x 0 most = true) : Sp.mat a = true ∧ x.length = (a.getD 0 []).length ∧ (Sp.pad x).length = 4 ∧ Sp.inB most (Sp.pad x) ∧ posV (Sp.pad x) = true ∧ Sp.inB most x ∧ (∀ j,(a.getD 0 []).length ≤ j → (Sp.pad x).getD j 0 = 0) ∧ posV x = true := by
  unfold Sp.vecOk at h
  simp only [Bool.and_eq_true,decide_eq_true_eq] at h
  obtain ⟨hm,xl,xn⟩ := h
  obtain ⟨-,-,n1,n4⟩ := mat_rows hm
  have hx : ∀ z ∈ x,0 ≤ z ∧ z ≤ most := by
    unfold Sp.numbers at xn
    rw [List.all_eq_true] at xn
    intro z hz
    have := xn z hz
    simp only [Bool.and_eq_true,decide_eq_true_eq] at this
    exact this
  have bx : Sp.inB most x := fun z hz => by have := hx z hz; omega
  have px : posV x = true := by
    unfold posV
    rw [List.all_eq_true]
    exact fun z hz => decide_eq_true (hx z hz).1
  exact ⟨hm,xl,Sp.pad_len (by omega),(Sp.inB_pad h0).2 bx,by rw [Sp.posV_pad]; exact px,bx,fun j hj => Sp.pad_getD xl hj,px⟩
def FamL (a : List (List Int)) (x : List Int) (F : List (List Int)) : Prop := F.Pairwise (fun a b => Sp.cmpL a b < 0) ∧ ∀ y,y ∈ F ↔ y.length = (a.getD 0 []).length ∧ Sp.Fam (a.map Sp.pad) (a.getD 0 []).length (Sp.pad x) (Sp.pad y)
theorem FamL.uniq {a : List (List Int)} {x : List Int} {F F' : List (List Int)} (h : FamL a x F) (h' : FamL a x F') : F = F' :=
  Sp.asc_unique (h.1.imp fun h => by omega) (h'.1.imp fun h => by omega) (Sp.perm_of (h.1.imp fun h e => by subst e; rw [Sp.cmpL_self] at h; omega) (h'.1.imp fun h e => by subst e; rw [Sp.cmpL_self] at h; omega) fun y => (h.2 y).trans (h'.2 y).symm)
theorem famL_of {a : List (List Int)} {bs : List (List Int)} {x : List Int} {st : List Int → Bool} {es : List Ent} {l : List (List Int)} (hm : Sp.mat a = true) (hB : IsB (a.map Sp.pad) (a.getD 0 []).length bs) (xl : x.length = (a.getD 0 []).length) (px : posV x = true) (h : Sr bs (Sp.pad x) st es es.length) (hd : l.Nodup) (hl : ∀ y,y ∈ l ↔ y ∈ es.map (·.1)) :
    FamL a x (Sp.sortV (l.map fun y => y.take (a.getD 0 []).length)) := by
  obtain ⟨-,-,n1,n4⟩ := mat_rows hm
  have hall := h.all hm hB (Sp.pad_len (by omega)) (fun j hj => Sp.pad_getD xl hj) (by rw [Sp.posV_pad]; exact px)
  have hF : ∀ y ∈ l,Sp.Fam (a.map Sp.pad) (a.getD 0 []).length (Sp.pad x) y := fun y hy => (hall y).1 ((hl y).1 hy)
  have nd : (l.map fun y => y.take (a.getD 0 []).length).Nodup := by
    unfold List.Nodup
    rw [List.pairwise_map]
    refine hd.imp_of_mem fun {y z} hy hz hne e => hne ?_
    have h1 := Sp.take_pad n4 (hF y hy).len (hF y hy).pad
    have h2 := Sp.take_pad n4 (hF z hz).len (hF z hz).pad
    rw [← h1,← h2,e]
  refine ⟨?_,fun y => ?_⟩
  · have h1 : (Sp.sortV (l.map fun y => y.take (a.getD 0 []).length)).Nodup := (Sp.sortV_perm _).nodup_iff.2 nd
    refine List.Pairwise.imp₂ (fun x y hne hle => ?_) h1 (Sp.sortV_asc _)
    rcases Int.lt_or_eq_of_le hle with h | h
    · exact h
    · exact absurd (Sp.cmpL_eq h) hne
  · rw [(Sp.sortV_perm _).mem_iff,List.mem_map]
    constructor
    · rintro ⟨z,hz,rfl⟩
      have hz' := hF z hz
      exact ⟨by rw [List.length_take,hz'.len]; omega,by rw [Sp.take_pad n4 hz'.len hz'.pad]; exact hz'⟩
    · rintro ⟨yl,hy⟩
      exact ⟨Sp.pad y,(hl _).2 ((hall _).2 hy),Sp.pad_take yl⟩
theorem sr_bnd {a : List (List Int)} {bs : List (List Int)} {x : List Int} {st : List Int → Bool} (hv : Sp.vecOk a x 0 6 = true) (hB : IsB (a.map Sp.pad) (a.getD 0 []).length bs) (hnp : bs.any posV = false) {es : List Ent} {i : Nat} (h : Sr bs (Sp.pad x) st es i) :
    es.length ≤ 23372600161 ∧ ∀ e ∈ es,Sp.inB 90000 e.1 := by
  obtain ⟨hm,xl,Xl,bX,pX,bx,Xp,px⟩ := vecOk_spec (by decide) hv
  have hfam := h.fam hm hB Xl Xp pX
  have hnp' : ∀ m,Sp.Mini (a.map Sp.pad) (a.getD 0 []).length m → posV m = false := fun m hM => by
    have := (Sp.mem_bs hm hB).2 hM
    have h := List.any_eq_false.1 hnp m this
    simpa using h
  have hb : ∀ e ∈ es,Sp.inB (65 * 6) e.1 := fun e he => Sp.fam_bound hm Xl Xp pX (by decide) bX hnp' (hfam e he)
  refine ⟨?_,fun e he => Sp.inB_mono (hb e he) (by decide)⟩
  have := box_gen 391 h.nd fun y hy => by
    obtain ⟨e,he,rfl⟩ := List.mem_map.1 hy
    have hf := hfam e he
    refine ⟨hf.len,fun z hz => ?_⟩
    have h1 := hb e he z hz
    have h2 := hf.pos
    unfold posV at h2
    rw [List.all_eq_true] at h2
    have := of_decide_eq_true (h2 z hz)
    omega
  rw [List.length_map] at this
  omega
def famR (a : List (List Int)) (x : List Int) (v : AVal) : Prop :=
  (Sp.vecOk a x 0 6 = false ∧ v = .tup [.sl false false (mS []),I 2]) ∨ (Sp.vecOk a x 0 6 = true ∧ (Sp.basL a).any posV = true ∧ v = .tup [.sl false false (mS []),I 5]) ∨
  (Sp.vecOk a x 0 6 = true ∧ (Sp.basL a).any posV = false ∧ ∃ F,FamL a x F ∧ F.length ≤ 23372600161 ∧ (∀ y ∈ F,∀ z ∈ y,0 ≤ z ∧ z ≤ 390) ∧ v = .tup [.sl false false (mS F),I 0])
set_option maxRecDepth 20000 in
set_option maxHeartbeats 4000000 in
theorem s15 (a : List (List Int)) (x : List Int) (ha : ∀ l ∈ a,l.length < 9223372036854775808) (hl : a.length < 9223372036854775808) (hx : x.length < 9223372036854775808) :
    Abs.Spec Try.prog 15 [.sl false false (mS a),.sl false false (mI x)] [] fun v H' => H' = [] ∧ famR a x v := by
  refine Abs.Spec.walk mixed fn15 nn15 t15 q15 nt15 (by simp) ?_
  simp only [w15,go_sem,Nat.reduceEqDiff,Nat.reduceAdd,Nat.reduceLT,Nat.reduceLeDiff,reduceIte,reduceCtorEq]
  refine CallK.by (CallV.of_spec (first := []) (cap := []) (s31 a x 6 ha hl hx)) fun v H' ⟨hH,hr⟩ => ?_
  subst hH
  rcases hr with ⟨hok,hv⟩ | ⟨hok,bs,hB,hv⟩
  · subst hv
    simp only [zT,List.getD_cons_zero,List.getD_cons_succ,go_sem,Nat.reduceEqDiff,Nat.reduceAdd,Nat.reduceLT,Nat.reduceLeDiff,reduceIte,reduceCtorEq]
    exact leaf2 (.tup [.sl false false (mS []),I 2]) ⟨⟨rfl,rfl,rfl⟩,rfl,trivial⟩ ⟨rfl,.inl ⟨hok,rfl⟩⟩
  · subst hv
    obtain ⟨hm,xl,Xl,bX,pX,bx,Xp,px⟩ := vecOk_spec (by decide) hok
    obtain ⟨r1,r2,n1,n4⟩ := mat_rows hm
    have hpure := any_pure hm hB
    have bnd := fun hnp es i => sr_bnd (x := x) (st := fun _ => false) hok hB hnp (es := es) (i := i)
    have fam := fun es l h1 h2 h3 => famL_of (st := fun _ => false) (es := es) (l := l) hm hB xl px h1 h2 h3
    obtain ⟨X,hX⟩ : ∃ X,Sp.pad x = X := ⟨_,rfl⟩
    obtain ⟨n,hn⟩ : ∃ n,(a.getD 0 []).length = n := ⟨_,rfl⟩
    rw [hX] at Xl bX bnd fam
    rw [hn] at fam n1 n4
    rw [hX,hn]
    have Xm : (mI X).length = 4 := by rw [mI_length,Xl]
    have acX := allI_cell X
    have htA : (.sl false false (mV (a.map Sp.pad)) :: I n :: .sl false false (mV bs) :: mI X : List AVal).all AVal.isCell = true := by show (true && (true && (true && (mI X).all AVal.isCell))) = true; rw [acX]; rfl
    have gT : cut true 7 (.sl false false (mV (a.map Sp.pad)) :: I n :: .sl false false (mV bs) :: mI X) = taskV (a.map Sp.pad) n bs X := by
      show AVal.agg (List.take 7 _) = _
      rw [List.take_of_length_le (by simp [Xm])]; rfl
    cases hnp : bs.any posV with
    | true =>
      have z5 : ((5 : Int) != 0) = true := rfl
      simp only [taskV_eq,List.getD_cons_zero,List.getD_cons_succ,Xm,z5,go_sem,Nat.reduceEqDiff,Nat.reduceAdd,Nat.reduceLT,Nat.reduceLeDiff,reduceIte,reduceCtorEq]
      exact ⟨htA,leaf2 (.tup [.sl false false (mS []),I 5]) ⟨⟨rfl,rfl,rfl⟩,rfl,trivial⟩ ⟨rfl,.inr (.inl ⟨hok,by rw [← hpure]; exact hnp,rfl⟩)⟩⟩
    | false =>
      have hB4 : ∀ y ∈ bs,y.length = 4 := fun y hy => (hB.ok y hy).1
      obtain ⟨q1,q2,-,-⟩ := Sp.mat_cols hm rfl
      have hB16 : ∀ y ∈ bs,Sp.inB 16 y := fun y hy => Sp.inB_mono (((Sp.mem_bs hm hB).1 hy).bnd q1 q2 (by omega)) (by unfold Sp.bnd; split <;> (try split) <;> (try split) <;> omega)
      have hBl := hB.len (by omega)
      have h100 := s32 (a.map Sp.pad) n bs X n1 n4 Xl hB4 (by omega) hB16 fun es i h => by
        obtain ⟨h1,h2⟩ := bnd hnp es i h
        exact ⟨by omega,h2⟩
      have hta : AVal.agg (.sl false false (mV (a.map Sp.pad)) :: I n :: .sl false false (mV bs) :: mI X) = taskV (a.map Sp.pad) n bs X := rfl
      simp only [taskV_eq,List.getD_cons_zero,List.getD_cons_succ,Xm,gT,go_sem,Nat.reduceEqDiff,Nat.reduceAdd,Nat.reduceLT,Nat.reduceLeDiff,reduceIte,reduceCtorEq]
      refine ⟨htA,CallK.by (CallV.of_spec (first := []) (cap := []) (Spec.liftE h100 (by simp [bndL,AVal.bnd,mV_bnd,mI_bnd,taskV]) (fun v ⟨es,l,_,_,_,h⟩ => by subst h; simp [AVal.bnd,mS_bnd]) _)) fun v H' ⟨⟨es,l,hS,hd,hl',hv⟩,hH⟩ => ?_⟩
      subst hv hH
      simp only [go_sem,Nat.reduceEqDiff,Nat.reduceAdd,Nat.reduceLT,Nat.reduceLeDiff,reduceIte,reduceCtorEq]
      obtain ⟨h1,-⟩ := bnd hnp _ _ hS
      have hF := fam es l hS hd hl'
      have hlen : (Sp.sortV (l.map fun y => y.take n)).length = es.length := by
        rw [(Sp.sortV_perm _).length_eq,List.length_map,(Sp.perm_of hd hS.nd hl').length_eq]; simp
      have hb390 : ∀ y ∈ Sp.sortV (l.map fun y => y.take n),∀ z ∈ y,0 ≤ z ∧ z ≤ 390 := fun y hy z hz => by
        rw [(Sp.sortV_perm _).mem_iff] at hy
        obtain ⟨w,hw,rfl⟩ := List.mem_map.1 hy
        have hz' := List.mem_of_mem_take hz
        obtain ⟨hm2,xl2,Xl2,bX2,pX2,bx2,Xp2,px2⟩ := vecOk_spec (by decide) hok
        rw [← hX] at hS
        have hfam := hS.fam hm hB Xl2 Xp2 pX2
        obtain ⟨e,he,rfl⟩ := List.mem_map.1 ((hl' w).1 hw)
        have hf := hfam e he
        have hnp' : ∀ m,Sp.Mini (a.map Sp.pad) (a.getD 0 []).length m → posV m = false := fun m hM => by
          have := (Sp.mem_bs hm hB).2 hM
          have h := List.any_eq_false.1 hnp m this
          simpa using h
        have h1 := Sp.fam_bound hm Xl2 Xp2 pX2 (by decide) bX2 hnp' hf z hz'
        have h2 := hf.pos
        unfold posV at h2
        rw [List.all_eq_true] at h2
        have := of_decide_eq_true (h2 z hz')
        omega
      exact leaf2 (.tup [.sl false false (mS (Sp.sortV (l.map fun y => y.take n))),I 0]) ⟨⟨mS_bnd,fun h => h,fun h => h,rfl⟩,rfl,trivial⟩ ⟨rfl,.inr (.inr ⟨hok,by rw [← hpure]; exact hnp,_,hF,by omega,hb390,rfl⟩)⟩
end Go.Proofs.Ytlonaefihjdkpaa
