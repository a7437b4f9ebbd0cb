/- Contracts: how lists compare; the statement SwapsNoWaste. -/
import Derived.Test.YtkmmngphcodjjaaQB
import Derived.Test.YtkmmngphcodjjaaQC
import Derived.Test.YtkmmngphcodjjaaBJ
import Derived.Test.YtkmmngphcodjjaaBA
namespace Go.Abs.Sp
def cmpL : List Int → List Int → Int
  | [],[] => 0
  | [],_ :: _ => -1
  | _ :: _,[] => 1
  | x :: a,y :: b => if x < y then -1 else if x > y then 1 else cmpL a b
theorem cmpL_self : ∀ a : List Int,cmpL a a = 0
  | [] => rfl
  | x :: a => by rw [cmpL,if_neg (by omega),if_neg (by omega),cmpL_self a]
theorem cmpL_pre : ∀ (b s t : List Int) (x y : Int),x < y → cmpL (b ++ x :: s) (b ++ y :: t) = -1
  | [],s,t,x,y,h => by simp [cmpL,h]
  | z :: b,s,t,x,y,h => by
    simp only [List.cons_append,cmpL]
    rw [if_neg (by omega),if_neg (by omega),cmpL_pre b s t x y h]
theorem deals_pre {n : Nat} : ∀ (m : Nat) (b o : List Int),o ∈ dealsR n m b → ∃ s,o = b ++ s
  | 0,b,o,h => by simp [dealsR] at h; exact ⟨[],by simp [h]⟩
  | m + 1,b,o,h => by
    simp only [dealsR,List.mem_flatMap,List.mem_range] at h
    obtain ⟨x,_,h⟩ := h
    split at h
    · cases h
    · obtain ⟨s,hs⟩ := deals_pre m _ o h
      exact ⟨(x : Int) :: s,by rw [hs]; simp⟩
theorem deals_sorted {n : Nat} : ∀ (m : Nat) (b : List Int),(dealsR n m b).Pairwise fun a c => cmpL a c ≤ 0
  | 0,b => by simp [dealsR]
  | m + 1,b => by
    unfold dealsR
    rw [List.pairwise_flatMap]
    refine ⟨fun x _ => ?_,List.pairwise_lt_range.imp fun {x y} hxy o ho p hp => ?_⟩
    · split
      · exact .nil
      · exact deals_sorted m _
    · split at ho
      · cases ho
      · split at hp
        · cases hp
        · obtain ⟨s,rfl⟩ := deals_pre m _ o ho
          obtain ⟨t,rfl⟩ := deals_pre m _ p hp
          rw [List.append_assoc,List.append_assoc]
          have := cmpL_pre b s t x y (by omega)
          simp only [List.cons_append,List.nil_append]
          rw [this]; omega
theorem first_le {l : List (List Int)} {P : List Int → Bool} {D p : List Int} (hs : l.Pairwise fun a c => cmpL a c ≤ 0) (hf : l.find? P = some D) (hp : p ∈ l) (hP : P p = true) : cmpL D p ≤ 0 := by
  induction l with
  | nil => cases hp
  | cons x l ih =>
    obtain ⟨h1,h2⟩ := List.pairwise_cons.1 hs
    rw [List.find?_cons] at hf
    cases hx : P x with
    | true =>
      rw [hx] at hf
      cases hf
      rcases List.mem_cons.1 hp with rfl | hp
      · rw [cmpL_self]; omega
      · exact h1 p hp
    | false =>
      rw [hx] at hf
      rcases List.mem_cons.1 hp with rfl | hp
      · rw [hP] at hx; cases hx
      · exact ih h2 hf hp
end Go.Abs.Sp
namespace Go.Proofs.Ytkmmngphcodjjaa.NoW
open Go.Abs AVal
set_option linter.unusedSimpArgs false
attribute [local go_sem] W_skip W_keep KQ_canon canon Fr.norm W_seq W_block W_scope W_exit W_ret W_ops W_draw KQ_nil KQ_norm_seq KQ_exit_seq KQ_ret_seq KQ_norm_block KQ_ret_block KQ_exit_block KQ_exit_loop KQ_ret_loop O_nil O_cons S_call S_mv SE_mv SD_mv S_pick SE_pick SD_pick S_bin SE_bin SD_bin S_eqb SE_eqb SD_eqb S_eqv SE_eqv SD_eqv S_eqnil SE_eqnil SD_eqnil S_un SE_un SD_un S_conv SE_conv SD_conv S_mkfn SE_mkfn SD_mkfn S_load SE_load SD_load S_nilck SE_nilck SD_nilck S_slS SE_slS SD_slS S_slP SE_slP SD_slP S_fldA SE_fldA SD_fldA S_fld SE_fld SD_fld S_ixS SE_ixS SD_ixS S_ixP SE_ixP SD_ixP S_ixV SE_ixV SD_ixV S_ixStr SE_ixStr SD_ixStr S_ext SE_ext SD_ext S_len SE_len SD_len S_lenStr SE_lenStr SD_lenStr S_lenc SE_lenc SD_lenc S_mn SE_mn SD_mn S_mx SE_mx SD_mx S_build SE_build SD_build S_alloc SD_alloc S_box SD_box S_bslice SD_bslice S_mksl SD_mksl S_store SD_store S_append SD_append S_copy SD_copy S_clr SD_clr S_mlen SE_mlen SD_mlen S_mget SE_mget SD_mget S_mval SE_mval SD_mval S_mentry SE_mentry SD_mentry S_mkmap SD_mkmap S_mset SD_mset S_mrange SD_mrange S_mnext mlenA mgetA mvalA mentryA msetA mrangeA cells_mp isCell_mp cellsOk_mp aq_some aa_some al_some alA_some aqd_some aad_some ald_some ape_some D_done D_both D_early D_step SE_call SD_call IOpd.ev Fr.get Fr.put Fr.putd entryFr pickA binA binI isSh shI eqbA eqvA ints ints_mI Option.map_some eqnilA unA convA loadA nilckA intA slSA slPA fldAA fldVA ixSA ixPA ixVA ixStrA extA lenA lenStrA mnA mxA AVal.fits fillA fillOk buildA opa srcA appA stoA copA clrA rdFree zeros List.length_nil List.length_cons List.length_map List.map_cons List.map_nil Option.map_some Option.map_none if_true if_false ite_true ite_false true_and and_true and_self implies_true forall_const true_implies Bool.false_eq_true Bool.not_true Bool.not_false decide_eq_true_eq decide_eq_false_iff_not eq_self List.getElem?_cons_zero List.getElem?_cons_succ List.getElem?_nil List.set_cons_zero List.set_cons_succ List.nil_append List.cons_append List.append_nil List.replicate_zero List.replicate_succ Nat.zero_add false_implies rng_lt rng_end rng_get cells_I cells_B cells_sl cut_one Int.toNat_natCast Int.natCast_nonneg List.headD_cons Int.lt_irrefl not_false_eq_true decide_false decide_true mI_length mI_cells mI_sz mI_isCell mI_mid mI_append mI_take mI_drop cells_val cells_own cells_agg isCell_I isCell_B isCell_nil isCell_sl isCell_own isCell_ptr isCell_fn isCell_rp isCell_yld cellsOk_I cellsOk_B cellsOk_nil cellsOk_sl cellsOk_own cellsOk_ptr cellsOk_fn cellsOk_rp cellsOk_yld cellsOk_agg cells_nil cells_ptr cells_fn cells_rp List.all_cons List.all_nil Bool.and_true Nat.mul_one Nat.zero_mul Nat.one_mul List.take_zero List.take_nil List.drop_nil List.drop_zero List.not_mem_nil Nat.le_refl Nat.zero_le mS_length mS_cells mS_sz mS_isCell mS_mid mS_append mS_take mS_drop cells_sI isCell_sI cellsOk_sI sI_eq succ_le_self' List.take_succ_cons List.drop_succ_cons List.take_length beq_self_eq_true List.mem_cons or_false forall_eq mI_put mI_rep O_guard' D_earlyG' D_stepG' W_cond' G_tt G_tf G_ft G_ff GE_tt GE_tf GE_ft GE_ff GS_tt GS_tf GS_ft GS_ff G_u GE_u GS_u IC_t IC_f xft xff xtt xtf z00 z20 z22 z02 zz tn0
theorem s86 (x : Int) : Abs.Spec Try.prog 86 [I x] [] fun v H' => H' = [] ∧ v = B false := by
  refine Abs.Spec.walk mixed fn86 nn86 t86 q86 nt86 (by simp) ?_
  simp only [w86,bne_self_eq_false,go_sem,Nat.reduceEqDiff,Nat.reduceAdd,Nat.reduceLT,Nat.reduceLeDiff,reduceIte,reduceCtorEq]
  exact leaf (B _) rfl ⟨rfl,rfl⟩
def cmp1 (x y : Int) : Int := if x < y then -1 else if x > y then 1 else 0
theorem s69 (x y : Int) : Abs.Spec Try.prog 69 [I x,I y] [] fun v H' => H' = [] ∧ v = I (cmp1 x y) := by
  refine Abs.Spec.walk mixed fn69 nn69 t69 q69 nt69 (by simp) ?_
  simp only [w69,go_sem,Nat.reduceEqDiff,Nat.reduceAdd,Nat.reduceLT,Nat.reduceLeDiff,reduceIte,reduceCtorEq]
  refine CallK.by (CallV.of_spec (s86 x)) fun v H' ⟨h1,h2⟩ => ?_
  subst h1 h2
  simp only [go_sem,Nat.reduceEqDiff,Nat.reduceAdd,Nat.reduceLT,Nat.reduceLeDiff,reduceIte,reduceCtorEq]
  refine CallK.by (CallV.of_spec (s86 y)) fun v H' ⟨h1,h2⟩ => ?_
  subst h1 h2
  simp only [go_sem,Nat.reduceEqDiff,Nat.reduceAdd,Nat.reduceLT,Nat.reduceLeDiff,reduceIte,reduceCtorEq]
  refine IC.splitP (fun h => ?_) fun h => ?_
  · simp only [go_sem,Nat.reduceEqDiff,Nat.reduceAdd,Nat.reduceLT,Nat.reduceLeDiff,reduceIte,reduceCtorEq]
    exact leaf (I _) rfl ⟨rfl,by rw [cmp1,if_pos h]⟩
  · simp only [go_sem,Nat.reduceEqDiff,Nat.reduceAdd,Nat.reduceLT,Nat.reduceLeDiff,reduceIte,reduceCtorEq]
    refine IC.splitP (fun h2 => ?_) fun h2 => ?_
    · simp only [go_sem,Nat.reduceEqDiff,Nat.reduceAdd,Nat.reduceLT,Nat.reduceLeDiff,reduceIte,reduceCtorEq]
      exact leaf (I _) rfl ⟨rfl,by rw [cmp1,if_neg h,if_pos h2]⟩
    · simp only [go_sem,Nat.reduceEqDiff,Nat.reduceAdd,Nat.reduceLT,Nat.reduceLeDiff,reduceIte,reduceCtorEq]
      exact leaf (I _) rfl ⟨rfl,by rw [cmp1,if_neg h,if_neg h2]⟩
theorem s45 (nn t nn' t' : Bool) (a b : List Int) (ha : a.length < 9223372036854775808) (hb : b.length < 9223372036854775808) : Abs.Spec Try.prog 45 [.sl nn t (mI a),.sl nn' t' (mI b)] [] fun v H' => H' = [] ∧ v = I (Sp.cmpL a b) := by
  refine Abs.Spec.walk mixed fn45 nn45 t45 q45 nt45 (by simp) ?_
  simp only [w45,go_sem,Nat.reduceEqDiff,Nat.reduceAdd,Nat.reduceLT,Nat.reduceLeDiff,reduceIte,reduceCtorEq]
  refine W_loop (fun q : { i : Nat // i ≤ a.length ∧ i ≤ b.length ∧ Sp.cmpL (a.drop i) (b.drop i) = Sp.cmpL a b } => ([(0,.sl nn t (mI a)),(1,.sl nn' t' (mI b)),(9,.sl nn t (mI a)),(10,I a.length),(11,I q.1)],[])) (fun q => a.length - q.1)
    ⟨0,by omega,by omega,rfl⟩ [] (Wk.nil (by simp [fle,vle,Fr.get,mI_bnd])) ?_
  rintro ⟨i,hi,hib,hinv⟩
  dsimp only
  by_cases hil : i < a.length
  · have hz : decide ((i : Int) < a.length) = true := decide_eq_true (by omega)
    have hil' : (i : Int) < a.length := by omega
    have hwk : IntKind.i64.wrap ((i : Int) + 1) = ((i + 1 : Nat) : Int) := by rw [wrap64 (by omega) (by omega)]; rfl
    obtain ⟨x,hx⟩ : ∃ x,a.getD i 0 = x := ⟨_,rfl⟩
    have hx' : a[i] = x := by rw [← hx,List.getD_eq_getElem?_getD,List.getElem?_eq_getElem hil]; rfl
    rw [List.drop_eq_getElem_cons hil,hx'] at hinv
    by_cases hbl : i < b.length
    · have hz2 : decide ((i : Int) ≥ b.length) = false := decide_eq_false (by omega)
      have hbl' : (i : Int) < b.length := by omega
      obtain ⟨y,hy⟩ : ∃ y,b.getD i 0 = y := ⟨_,rfl⟩
      have hy' : b[i] = y := by rw [← hy,List.getD_eq_getElem?_getD,List.getElem?_eq_getElem hbl]; rfl
      rw [List.drop_eq_getElem_cons hbl,hy',Sp.cmpL] at hinv
      simp only [w45L0,hz,hil',mI_get,hil,hx,mI_hd,hz2,hbl,hbl',hy,go_sem,Nat.reduceEqDiff,Nat.reduceAdd,Nat.reduceLT,Nat.reduceLeDiff,reduceIte,reduceCtorEq]
      refine CallK.pure (liftV (s69 x y) (by simp [bndL,AVal.bnd]) rfl _) ?_
      have c1 : ((-1 : Int) != 0) = true := rfl
      have c2 : ((1 : Int) != 0) = true := rfl
      by_cases h1 : x < y
      · rw [if_pos h1] at hinv
        rw [cmp1,if_pos h1]
        simp only [c1,go_sem,Nat.reduceEqDiff,Nat.reduceAdd,Nat.reduceLT,Nat.reduceLeDiff,reduceIte,reduceCtorEq]
        exact leaf (I _) rfl ⟨rfl,by rw [hinv]⟩
      · rw [if_neg h1] at hinv
        by_cases h2 : x > y
        · rw [if_pos h2] at hinv
          rw [cmp1,if_neg h1,if_pos h2]
          simp only [c2,go_sem,Nat.reduceEqDiff,Nat.reduceAdd,Nat.reduceLT,Nat.reduceLeDiff,reduceIte,reduceCtorEq]
          exact leaf (I _) rfl ⟨rfl,by rw [hinv]⟩
        · rw [if_neg h2] at hinv
          rw [cmp1,if_neg h1,if_neg h2]
          simp only [z00,hwk,go_sem,Nat.reduceEqDiff,Nat.reduceAdd,Nat.reduceLT,Nat.reduceLeDiff,reduceIte,reduceCtorEq]
          refine round0 rfl ⟨i + 1,by omega,by omega,hinv⟩ (by dsimp only; omega) rfl ?_
          simp [fle,vle,Fr.get,mI_bnd]
    · have hz2 : decide ((i : Int) ≥ b.length) = true := decide_eq_true (by omega)
      rw [List.drop_of_length_le (show b.length ≤ i by omega),Sp.cmpL] at hinv
      simp only [w45L0,hz,hil',mI_get,hil,hx,mI_hd,hz2,go_sem,Nat.reduceEqDiff,Nat.reduceAdd,Nat.reduceLT,Nat.reduceLeDiff,reduceIte,reduceCtorEq]
      exact leaf (I _) rfl ⟨rfl,by rw [hinv]⟩
  · have hz : decide ((i : Int) < a.length) = false := decide_eq_false (by omega)
    obtain rfl : i = a.length := by omega
    rw [List.drop_length] at hinv
    simp only [w45L0,hz,w45T1,go_sem,Nat.reduceEqDiff,Nat.reduceAdd,Nat.reduceLT,Nat.reduceLeDiff,reduceIte,reduceCtorEq]
    refine IC.splitP (fun h => ?_) fun h => ?_
    · obtain ⟨y,r,hr⟩ : ∃ y r,b.drop a.length = y :: r := by
        cases hd : b.drop a.length with
        | nil => have := List.length_drop (l := b) (i := a.length); rw [hd] at this; simp at this; omega
        | cons y r => exact ⟨y,r,rfl⟩
      rw [hr,Sp.cmpL] at hinv
      simp only [go_sem,Nat.reduceEqDiff,Nat.reduceAdd,Nat.reduceLT,Nat.reduceLeDiff,reduceIte,reduceCtorEq]
      exact leaf (I _) rfl ⟨rfl,by rw [hinv]⟩
    · rw [List.drop_of_length_le (by omega),Sp.cmpL] at hinv
      simp only [go_sem,Nat.reduceEqDiff,Nat.reduceAdd,Nat.reduceLT,Nat.reduceLeDiff,reduceIte,reduceCtorEq]
      exact leaf (I _) rfl ⟨rfl,by rw [hinv]⟩
set_option maxRecDepth 20000 in
set_option maxHeartbeats 4000000 in
theorem law11 (w : List (List Int)) (order d : List Int) (hw : ∀ l ∈ w,l.length < 9223372036854775808) (hl : w.length < 9223372036854775808) (ho : order.length < 9223372036854775808) (hd : d.length < 9223372036854775808) :
    Abs.Spec Try.prog 11 [.sl false false (mS w),.sl false false (mI order),.sl false false (mI d)] [] fun v H' => H' = [] ∧ v = B true := by
  obtain ⟨hw',hl'⟩ := tab_len hw hl
  have e19 : ∀ H,CallV Try.prog (.fn (.func 19) [] []) [] H fun v H' => v = B true ∧ H' = H := fun H => liftV s19 rfl rfl H
  have e16 : ∀ H,CallV Try.prog (.fn (.func 16) [] []) [.sl false false (mS w)] H fun v H' => v = .sl false false (mS (Sp.table w)) ∧ H' = H := fun H => liftV (s16 false false w hw hl) (by simp [bndL,AVal.bnd,mS_bnd]) (by simp [AVal.bnd,mS_bnd]) H
  refine Abs.Spec.walk mixed fn11 nn11 t11 q11 nt11 (by simp) ?_
  have z22 : ((2 : Int) != 0) = true := rfl
  have z23 : ((2 : Int) == 2) = true := rfl
  have z02 : ((0 : Int) != 0) = false := rfl
  have z44 : ((4 : Int) != 4) = false := rfl
  simp only [w11,go_sem,Nat.reduceEqDiff,Nat.reduceAdd,Nat.reduceLT,Nat.reduceLeDiff,reduceIte,reduceCtorEq]
  refine CallK.pure (e16 _) ?_
  simp only [go_sem,Nat.reduceEqDiff,Nat.reduceAdd,Nat.reduceLT,Nat.reduceLeDiff,reduceIte,reduceCtorEq]
  refine CallK.by (CallV.of_spec (s15 false false (Sp.table w) hw' hl')) fun v H' ⟨h1,h2⟩ => ?_
  subst h1 h2
  rw [tradeA,Sp.table_valid]
  cases hv : Sp.valid w with
  | false =>
    rw [if_neg (by simp)]
    simp only [List.getD_cons_zero,List.getD_cons_succ,z22,z23,go_sem,Nat.reduceEqDiff,Nat.reduceAdd,Nat.reduceLT,Nat.reduceLeDiff,reduceIte,reduceCtorEq]
    refine CallK.pure (e19 _) ?_
    simp only [go_sem,Nat.reduceEqDiff,Nat.reduceAdd,Nat.reduceLT,Nat.reduceLeDiff,reduceIte,reduceCtorEq]
    exact leaf (B true) rfl ⟨rfl,rfl⟩
  | true =>
  have g := Sp.valid_good hv
  have g1 := g.n1
  have g6 := g.n6
  have hT : Sp.table w = w := Sp.take_valid w hv
  rw [hT] at hw' hl' e16 ⊢
  have hfl := (Sp.fin_len w).1
  have hTa := Sp.fin_all g
  have hTo : Sp.isOrder (Sp.fin w).1 w.length = true := by rw [← Sp.all_eq g6]; exact hTa
  rw [if_pos rfl]
  have e18 : ∀ H,CallV Try.prog (.fn (.func 18) [] []) [.sl false false (mS w)] H fun v H' => v = B true ∧ H' = H := fun H => by
    have := s18 false false w hw hl
    rw [Sp.wishes_valid,hv] at this
    exact liftV this (by simp [bndL,AVal.bnd,mS_bnd]) rfl H
  have olen : ∀ {o : List Int},Sp.isOrder o w.length = true → o.length = w.length := fun h => (Sp.order_spec g6 h).1
  have e39 : ∀ {o : List Int},Sp.isOrder o w.length = true → ∀ H,CallV Try.prog (.fn (.func 39) [] []) [.sl false false (mS w),.sl false false (mI o)] H fun v H' => v = wasteR w o ∧ H' = H := fun {o} h H => by
    have := s39 w o hw' hl' (by have := olen h; omega)
    rw [wasteA,hv,h] at this
    exact liftV this (by simp [bndL,AVal.bnd,mI_bnd,mS_bnd]) (by cases h : wasteO w o <;> simp [wasteR,h,AVal.bnd,bndL,mI_bnd]) H
  have hno : ∀ {o : List Int},Sp.noW w o → wasteR w o = .tup [.sl false false (mI []),I 4] := fun {o} h => by
    rw [wasteR,wasteO,(Sp.noW_iff g6).2 h]
  have e23 : ∀ (o : List Int),o.length < 9223372036854775808 → ∀ H,CallV Try.prog (.fn (.func 23) [] []) [.sl false false (mI o),I w.length] H fun v H' => v = B (Sp.isOrder o w.length) ∧ H' = H := fun o h H => by
    have := s23 false false o w.length h
    rw [Sp.all_eq g6] at this
    exact liftV this (by simp [bndL,AVal.bnd,mI_bnd]) rfl H
  have e27 : ∀ {o : List Int},Sp.isOrder o w.length = true → ∀ H,CallV Try.prog (.fn (.func 27) [] []) [.sl false false (mI o)] H fun v H' => v = .sl false false (mI o) ∧ H' = H := fun {o} h H => by
    have := s27 false false o (by have := olen h; omega)
    rw [List.take_of_length_le (by have := olen h; omega)] at this
    exact liftV this (by simp [bndL,AVal.bnd,mI_bnd]) (by simp [AVal.bnd,mI_bnd]) H
  have e30 : ∀ {o : List Int},Sp.isOrder o w.length = true → ∀ H,CallV Try.prog (.fn (.func 30) [] []) [.sl false false (mS w),.sl false false (mI o)] H fun v H' => v = .tup [.sl false false (mI (Sp.turnsP w o)),I 0] ∧ H' = H := fun {o} h H => by
    have := s30 w o hw' hl' (by have := olen h; omega)
    rw [hv,h] at this
    exact liftV this (by simp [bndL,AVal.bnd,mI_bnd,mS_bnd]) (by simp [AVal.bnd,bndL,mI_bnd]) H
  have e43 : ∀ {o : List Int},Sp.isOrder o w.length = true → ∀ H,CallV Try.prog (.fn (.func 43) [] []) [.sl false false (mI o)] H fun v H' => v = .sl false false (mI o) ∧ H' = H := fun {o} h H => liftV (s43p false o (by have := olen h; omega) (by have := olen h; omega)) (by simp [bndL,AVal.bnd,mI_bnd]) (by simp [AVal.bnd,mI_bnd]) H
  have e31 : ∀ {o : List Int},Sp.isOrder o w.length = true → ∀ H,CallV Try.prog (.fn (.func 31) [] []) [.sl false false (mS w),.sl false false (mI o)] H fun v H' => v = orderA w o ∧ H' = H := fun {o} h H => liftV (s31 w o hw' hl' (by have := olen h; omega)) (by simp [bndL,AVal.bnd,mI_bnd,mS_bnd]) (by rw [orderA,hv,h]; cases h : orderP w o <;> simp [AVal.bnd,bndL,mI_bnd]) H
  have hordA : ∀ {o : List Int},Sp.isOrder o w.length = true → orderA w o = match orderP w o with
      | some o => .tup [.sl false false (mI o),I 0]
      | none => .tup [.sl false false (mI []),I 4] := fun {o} h => by rw [orderA,hv,h]; rfl
  have hnoT := Sp.noW_trade g
  simp only [List.getD_cons_zero,List.getD_cons_succ,z02,go_sem,Nat.reduceEqDiff,Nat.reduceAdd,Nat.reduceLT,Nat.reduceLeDiff,reduceIte,reduceCtorEq]
  refine CallK.pure (e18 _) ?_
  simp only [w11T0,go_sem,Nat.reduceEqDiff,Nat.reduceAdd,Nat.reduceLT,Nat.reduceLeDiff,reduceIte,reduceCtorEq]
  refine CallK.pure (e16 _) ?_
  simp only [go_sem,Nat.reduceEqDiff,Nat.reduceAdd,Nat.reduceLT,Nat.reduceLeDiff,reduceIte,reduceCtorEq]
  refine CallK.pure (e39 hTo _) ?_
  rw [hno hnoT]
  simp only [List.getD_cons_zero,List.getD_cons_succ,z44,w11T1,mS_length,go_sem,Nat.reduceEqDiff,Nat.reduceAdd,Nat.reduceLT,Nat.reduceLeDiff,reduceIte,reduceCtorEq]
  refine CallK.pure (e23 order ho _) ?_
  have tail : ∀ fr : Fr,fr.get 0 = .sl false false (mS w) → fr.get 2 = .sl false false (mI d) → W ⟨Try.prog,0,169,true⟩ (retA 0 r11 fun v H' => H' = [] ∧ v = B true) c11T4 [] fr [] [] := fun fr f0 f2 => by
    simp only [w11T4,f0,f2,mS_length,go_sem,Nat.reduceEqDiff,Nat.reduceAdd,Nat.reduceLT,Nat.reduceLeDiff,reduceIte,reduceCtorEq]
    refine CallK.pure (e23 d hd _) ?_
    cases hdo : Sp.isOrder d w.length with
    | false =>
      simp only [go_sem,Nat.reduceEqDiff,Nat.reduceAdd,Nat.reduceLT,Nat.reduceLeDiff,reduceIte,reduceCtorEq]
      refine CallK.pure (e19 _) ?_
      simp only [go_sem,Nat.reduceEqDiff,Nat.reduceAdd,Nat.reduceLT,Nat.reduceLeDiff,reduceIte,reduceCtorEq]
      exact leaf (B true) rfl ⟨rfl,rfl⟩
    | true =>
    have hdl := olen hdo
    simp only [w11T5,go_sem,Nat.reduceEqDiff,Nat.reduceAdd,Nat.reduceLT,Nat.reduceLeDiff,reduceIte,reduceCtorEq]
    refine CallK.pure (e16 _) ?_
    simp only [go_sem,Nat.reduceEqDiff,Nat.reduceAdd,Nat.reduceLT,Nat.reduceLeDiff,reduceIte,reduceCtorEq]
    refine CallK.pure (e27 hdo _) ?_
    simp only [go_sem,Nat.reduceEqDiff,Nat.reduceAdd,Nat.reduceLT,Nat.reduceLeDiff,reduceIte,reduceCtorEq]
    refine CallK.pure (e31 hdo _) ?_
    rw [hordA hdo]
    have hiff : orderP w d = none ↔ wasteO w d ≠ none := by
      rw [wasteO,Ne,Sp.noW_iff g6,Sp.made_iff g hdo,orderP,List.find?_eq_none]
      constructor
      · rintro h ⟨o,ho1,ho2⟩
        exact h o (Sp.order_mem g6 ho1) (by rw [ho2]; exact beq_self_eq_true _)
      · intro h o ho1 ho2
        exact h ⟨o,Sp.all_order g6 ho1,eq_of_beq ho2⟩
    have z40 : ((4 : Int) == 0) = false := rfl
    have z00 : ((0 : Int) == 0) = true := rfl
    have z04 : ((0 : Int) == 4) = false := rfl
    have z4e : ((4 : Int) == 4) = true := rfl
    have z4n : ((4 : Int) != 0) = true := rfl
    cases hwo : wasteO w d with
    | none =>
      have hop : ∃ o,orderP w d = some o := by
        cases h : orderP w d with
        | none => exact absurd hwo (hiff.1 h)
        | some o => exact ⟨o,rfl⟩
      obtain ⟨o,hop⟩ := hop
      have hwr : wasteR w d = .tup [.sl false false (mI []),I 4] := by rw [wasteR,hwo]
      rw [hop]
      simp only [List.getD_cons_zero,List.getD_cons_succ,go_sem,Nat.reduceEqDiff,Nat.reduceAdd,Nat.reduceLT,Nat.reduceLeDiff,reduceIte,reduceCtorEq]
      refine CallK.pure (e16 _) ?_
      simp only [go_sem,Nat.reduceEqDiff,Nat.reduceAdd,Nat.reduceLT,Nat.reduceLeDiff,reduceIte,reduceCtorEq]
      refine CallK.pure (e27 hdo _) ?_
      simp only [go_sem,Nat.reduceEqDiff,Nat.reduceAdd,Nat.reduceLT,Nat.reduceLeDiff,reduceIte,reduceCtorEq]
      refine CallK.pure (e39 hdo _) ?_
      rw [hwr]
      simp only [List.getD_cons_zero,List.getD_cons_succ,z00,z4e,z4n,w11T6,go_sem,Nat.reduceEqDiff,Nat.reduceAdd,Nat.reduceLT,Nat.reduceLeDiff,reduceIte,reduceCtorEq]
      refine CallK.pure (e19 _) ?_
      simp only [go_sem,Nat.reduceEqDiff,Nat.reduceAdd,Nat.reduceLT,Nat.reduceLeDiff,reduceIte,reduceCtorEq]
      exact leaf (B true) rfl ⟨rfl,rfl⟩
    | some x =>
      have hop : orderP w d = none := hiff.2 (by rw [hwo]; simp)
      have hwr : wasteR w d = .tup [.sl false false (mI x),I 0] := by rw [wasteR,hwo]
      have hxm := List.mem_of_find?_eq_some hwo
      have hxb := List.find?_some hwo
      have hxo := Sp.all_order g6 hxm
      have hxl := olen hxo
      obtain ⟨hle,j,hj,hlt⟩ := (Sp.waste_iff g6).1 hxb
      have hne : (x == d) = false := by
        rw [beq_eq_false_iff_ne]
        rintro rfl
        omega
      have e20 : ∀ H,CallV Try.prog (.fn (.func 20) [] []) [.sl false false (mI x),.sl false false (mI d)] H fun v H' => v = B false ∧ H' = H := fun H => by
        have := liftV (s20 false false false false x d (by omega)) (by simp [bndL,AVal.bnd,mI_bnd]) rfl H
        rwa [hne] at this
      rw [hop]
      simp only [List.getD_cons_zero,List.getD_cons_succ,go_sem,Nat.reduceEqDiff,Nat.reduceAdd,Nat.reduceLT,Nat.reduceLeDiff,reduceIte,reduceCtorEq]
      refine CallK.pure (e16 _) ?_
      simp only [go_sem,Nat.reduceEqDiff,Nat.reduceAdd,Nat.reduceLT,Nat.reduceLeDiff,reduceIte,reduceCtorEq]
      refine CallK.pure (e27 hdo _) ?_
      simp only [go_sem,Nat.reduceEqDiff,Nat.reduceAdd,Nat.reduceLT,Nat.reduceLeDiff,reduceIte,reduceCtorEq]
      refine CallK.pure (e39 hdo _) ?_
      rw [hwr]
      simp only [List.getD_cons_zero,List.getD_cons_succ,z40,z04,z02,w11T6,w11T7,mS_length,go_sem,Nat.reduceEqDiff,Nat.reduceAdd,Nat.reduceLT,Nat.reduceLeDiff,reduceIte,reduceCtorEq]
      refine CallK.pure (e23 x (by omega) _) ?_
      rw [hxo]
      simp only [go_sem,Nat.reduceEqDiff,Nat.reduceAdd,Nat.reduceLT,Nat.reduceLeDiff,reduceIte,reduceCtorEq]
      refine CallK.pure (e20 _) ?_
      simp only [w11T8,go_sem,Nat.reduceEqDiff,Nat.reduceAdd,Nat.reduceLT,Nat.reduceLeDiff,reduceIte,reduceCtorEq]
      refine W_loop (fun q : { i : Nat // i ≤ w.length } => ([(0,.sl false false (mS w)),(2,.sl false false (mI d)),(148,.sl false false (mI x)),(149,I w.length),(150,I q.1)],[])) (fun q => w.length - q.1) ⟨0,by omega⟩ [] (Wk.nil (by simp [fle,vle,Fr.get,mI_bnd,mS_bnd,hxl])) ?_
      rintro ⟨i,hi⟩
      dsimp only
      by_cases hil : i < w.length
      · have hz : (i : Int) < w.length := by omega
        have hix : i < x.length := by omega
        have hid : i < d.length := by omega
        have hix' : (i : Int) < x.length := by omega
        have hid' : (i : Int) < d.length := by omega
        have hwk : IntKind.i64.wrap ((i : Int) + 1) = ((i + 1 : Nat) : Int) := by rw [wrap64 (by omega) (by omega)]; rfl
        have hm : w.getD i [] ∈ w := Sp.getD_mem hil
        have hrl : (w.getD i []).length < 9223372036854775808 := hw _ hm
        obtain ⟨-,xr,-⟩ := order_inj g6 hxo
        obtain ⟨-,dr,-⟩ := order_inj g6 hdo
        obtain ⟨cx,hcx,ecx⟩ := xr i hil
        obtain ⟨cd,hcd,ecd⟩ := dr i hil
        have e24 : ∀ c : Nat,c < w.length → ∀ H,CallV Try.prog (.fn (.func 24) [] []) [.sl false false (mS w),I i,I c] H fun v H' => v = I (Sp.pos w i c) ∧ H' = H := fun c hc H =>
          liftV (s24 false false w i c hil (g.cov _ hm c hc) hrl) (by simp [bndL,AVal.bnd,mS_bnd]) rfl H
        have hp := hle i hil
        rw [ecx,ecd] at hp
        have hz2 : decide (Sp.pos w i cx > Sp.pos w i cd) = false := decide_eq_false (by omega)
        simp only [w11L9,hz,decide_true,w11T10,mI_get,hix,hix',hid,hid',mI_hd,ecx,ecd,go_sem,Nat.reduceEqDiff,Nat.reduceAdd,Nat.reduceLT,Nat.reduceLeDiff,reduceIte,reduceCtorEq]
        refine ⟨by decide,CallKD.pure (e24 cx hcx) ?_⟩
        simp only [mI_get,hix,hix',hid,hid',mI_hd,ecx,ecd,List.getElem?_cons_succ,List.getElem?_cons_zero,go_sem,Nat.reduceEqDiff,Nat.reduceAdd,Nat.reduceLT,Nat.reduceLeDiff,reduceIte,reduceCtorEq]
        refine CallKD.pure (e24 cd hcd) ?_
        simp only [hz2,w11T11,hwk,go_sem,Nat.reduceEqDiff,Nat.reduceAdd,Nat.reduceLT,Nat.reduceLeDiff,reduceIte,reduceCtorEq]
        exact round0 rfl ⟨i + 1,hil⟩ (by dsimp only; omega) rfl (by simp [fle,vle,Fr.get,mI_bnd,mS_bnd])
      · have hz : ¬ (i : Int) < w.length := by omega
        simp only [w11L9,hz,decide_false,w11T12,go_sem,Nat.reduceEqDiff,Nat.reduceAdd,Nat.reduceLT,Nat.reduceLeDiff,reduceIte,reduceCtorEq]
        refine CallK.pure (e19 _) ?_
        simp only [go_sem,Nat.reduceEqDiff,Nat.reduceAdd,Nat.reduceLT,Nat.reduceLeDiff,reduceIte,reduceCtorEq]
        exact leaf (B true) rfl ⟨rfl,rfl⟩
  cases hoo : Sp.isOrder order w.length with
  | false =>
    simp only [go_sem,Nat.reduceEqDiff,Nat.reduceAdd,Nat.reduceLT,Nat.reduceLeDiff,reduceIte,reduceCtorEq]
    exact tail _ rfl rfl
  | true =>
  have hol := olen hoo
  obtain ⟨huo,hun⟩ := Sp.turns_order g hoo
  obtain ⟨u,hu⟩ : ∃ u,Sp.turnsP w order = u := ⟨_,rfl⟩
  rw [hu] at huo hun
  have hul := olen huo
  have hfo : ∃ o,orderP w u = some o := by
    cases h : orderP w u with
    | none =>
      rw [orderP,List.find?_eq_none] at h
      exact absurd (show (Sp.turnsP w order == u) = true by rw [hu]; exact beq_self_eq_true _) (h order (Sp.order_mem g6 hoo))
    | some o => exact ⟨o,rfl⟩
  obtain ⟨o,hop⟩ := hfo
  have hom := List.mem_of_find?_eq_some hop
  have hob : Sp.turnsP w o = u := by
    have h : (Sp.turnsP w o == u) = true := List.find?_some (p := fun o => Sp.turnsP w o == u) hop
    exact eq_of_beq h
  have hoord := Sp.all_order g6 hom
  have hocmp := Sp.first_le (Sp.deals_sorted w.length []) hop (Sp.order_mem g6 hoo) (by rw [hu]; exact beq_self_eq_true _)
  have hool := olen hoord
  have z4g : decide (Sp.cmpL o order > 0) = false := decide_eq_false (by omega)
  have e20u : ∀ H,CallV Try.prog (.fn (.func 20) [] []) [.sl false false (mI u),.sl false false (mI u)] H fun v H' => v = B true ∧ H' = H := fun H => by
    have := liftV (s20 false false false false u u (by omega)) (by simp [bndL,AVal.bnd,mI_bnd]) rfl H
    rwa [beq_self_eq_true] at this
  simp only [go_sem,Nat.reduceEqDiff,Nat.reduceAdd,Nat.reduceLT,Nat.reduceLeDiff,reduceIte,reduceCtorEq]
  refine CallK.pure (e16 _) ?_
  simp only [go_sem,Nat.reduceEqDiff,Nat.reduceAdd,Nat.reduceLT,Nat.reduceLeDiff,reduceIte,reduceCtorEq]
  refine CallK.pure (e27 hoo _) ?_
  simp only [go_sem,Nat.reduceEqDiff,Nat.reduceAdd,Nat.reduceLT,Nat.reduceLeDiff,reduceIte,reduceCtorEq]
  refine CallK.pure (e30 hoo _) ?_
  rw [hu]
  simp only [List.getD_cons_zero,List.getD_cons_succ,z02,w11T2,go_sem,Nat.reduceEqDiff,Nat.reduceAdd,Nat.reduceLT,Nat.reduceLeDiff,reduceIte,reduceCtorEq]
  refine CallK.pure (e16 _) ?_
  simp only [go_sem,Nat.reduceEqDiff,Nat.reduceAdd,Nat.reduceLT,Nat.reduceLeDiff,reduceIte,reduceCtorEq]
  refine CallK.pure (e43 huo _) ?_
  simp only [go_sem,Nat.reduceEqDiff,Nat.reduceAdd,Nat.reduceLT,Nat.reduceLeDiff,reduceIte,reduceCtorEq]
  refine CallK.pure (e39 huo _) ?_
  rw [hno hun]
  simp only [List.getD_cons_zero,List.getD_cons_succ,go_sem,Nat.reduceEqDiff,Nat.reduceAdd,Nat.reduceLT,Nat.reduceLeDiff,reduceIte,reduceCtorEq]
  refine CallK.pure (e16 _) ?_
  simp only [go_sem,Nat.reduceEqDiff,Nat.reduceAdd,Nat.reduceLT,Nat.reduceLeDiff,reduceIte,reduceCtorEq]
  refine CallK.pure (e43 huo _) ?_
  simp only [go_sem,Nat.reduceEqDiff,Nat.reduceAdd,Nat.reduceLT,Nat.reduceLeDiff,reduceIte,reduceCtorEq]
  refine CallK.pure (e31 huo _) ?_
  rw [hordA huo,hop]
  simp only [List.getD_cons_zero,List.getD_cons_succ,z44,z02,go_sem,Nat.reduceEqDiff,Nat.reduceAdd,Nat.reduceLT,Nat.reduceLeDiff,reduceIte,reduceCtorEq]
  refine CallK.pure (liftV (s45 false false false false o order (by omega) ho) (by simp [bndL,AVal.bnd,mI_bnd]) rfl _) ?_
  simp only [z4g,w11T3,go_sem,Nat.reduceEqDiff,Nat.reduceAdd,Nat.reduceLT,Nat.reduceLeDiff,reduceIte,reduceCtorEq]
  refine CallK.pure (e16 _) ?_
  simp only [go_sem,Nat.reduceEqDiff,Nat.reduceAdd,Nat.reduceLT,Nat.reduceLeDiff,reduceIte,reduceCtorEq]
  refine CallK.pure (e30 hoord _) ?_
  rw [hob]
  simp only [List.getD_cons_zero,List.getD_cons_succ,z02,go_sem,Nat.reduceEqDiff,Nat.reduceAdd,Nat.reduceLT,Nat.reduceLeDiff,reduceIte,reduceCtorEq]
  refine CallK.pure (e20u _) ?_
  simp only [go_sem,Nat.reduceEqDiff,Nat.reduceAdd,Nat.reduceLT,Nat.reduceLeDiff,reduceIte,reduceCtorEq]
  exact tail _ rfl rfl
end Go.Proofs.Ytkmmngphcodjjaa.NoW
