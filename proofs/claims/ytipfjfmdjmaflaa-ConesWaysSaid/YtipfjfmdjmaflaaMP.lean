/- Contracts: the reference's small functions; Contracts: the reference's bound; Contracts: the reference's with. -/
import Derived.Test.YtipfjfmdjmaflaaMO
import Derived.Test.YtipfjfmdjmaflaaMH
namespace Go.Proofs.Ytipfjfmdjmaflaa
open Go.Abs AVal
set_option linter.unusedSimpArgs false
attribute [local go_sem] W_skip W_keep KQ_canon canon Fr.norm W_seq W_block W_scope W_exit W_ret W_ops W_draw KQ_nil KQ_norm_seq KQ_exit_seq KQ_ret_seq KQ_norm_block KQ_ret_block KQ_exit_block KQ_exit_loop KQ_ret_loop O_nil O_cons S_call S_mv SE_mv SD_mv S_pick SE_pick SD_pick S_bin SE_bin SD_bin S_eqb SE_eqb SD_eqb S_eqv SE_eqv SD_eqv S_eqnil SE_eqnil SD_eqnil S_un SE_un SD_un S_conv SE_conv SD_conv S_mkfn SE_mkfn SD_mkfn S_load SE_load SD_load S_nilck SE_nilck SD_nilck S_slS SE_slS SD_slS S_slP SE_slP SD_slP S_fldA SE_fldA SD_fldA S_fld SE_fld SD_fld S_ixS SE_ixS SD_ixS S_ixP SE_ixP SD_ixP S_ixV SE_ixV SD_ixV S_ixStr SE_ixStr SD_ixStr S_ext SE_ext SD_ext S_len SE_len SD_len S_lenStr SE_lenStr SD_lenStr S_lenc SE_lenc SD_lenc S_mn SE_mn SD_mn S_mx SE_mx SD_mx S_build SE_build SD_build S_alloc SD_alloc S_box SD_box S_bslice SD_bslice S_mksl SD_mksl S_store SD_store S_append SD_append S_copy SD_copy S_clr SD_clr S_mlen SE_mlen SD_mlen S_mget SE_mget SD_mget S_mval SE_mval SD_mval S_mentry SE_mentry SD_mentry S_mkmap SD_mkmap S_mset SD_mset S_mrange SD_mrange S_mnext mlenA mgetA mvalA mentryA msetA mrangeA cells_mp isCell_mp cellsOk_mp aq_some aa_some al_some alA_some aqd_some aad_some ald_some ape_some D_done D_both D_early D_step SE_call SD_call IOpd.ev Fr.get Fr.put Fr.putd entryFr pickA binA binI isSh shI eqbA eqvA ints ints_mI Option.map_some eqnilA unA convA loadA nilckA intA slSA slPA fldAA fldVA ixSA ixPA ixVA ixStrA extA lenA lenStrA mnA mxA AVal.fits fillA fillOk buildA opa srcA appA stoA copA clrA rdFree zeros List.length_nil List.length_cons List.length_map List.map_cons List.map_nil Option.map_some Option.map_none if_true if_false ite_true ite_false true_and and_true and_self implies_true forall_const true_implies Bool.false_eq_true Bool.not_true Bool.not_false decide_eq_true_eq decide_eq_false_iff_not eq_self List.getElem?_cons_zero List.getElem?_cons_succ List.getElem?_nil List.set_cons_zero List.set_cons_succ List.nil_append List.cons_append List.append_nil List.replicate_zero List.replicate_succ Nat.zero_add false_implies rng_lt rng_end rng_get cells_I cells_B cells_sl cut_one Int.toNat_natCast Int.natCast_nonneg List.headD_cons Int.lt_irrefl not_false_eq_true decide_false decide_true mI_length mI_cells mI_sz mI_isCell mI_mid mI_append mI_take mI_drop cells_val cells_own cells_agg isCell_I isCell_B isCell_nil isCell_sl isCell_own isCell_ptr isCell_fn isCell_rp isCell_yld cellsOk_I cellsOk_B cellsOk_nil cellsOk_sl cellsOk_own cellsOk_ptr cellsOk_fn cellsOk_rp cellsOk_yld cellsOk_agg cells_nil cells_ptr cells_fn cells_rp List.all_cons List.all_nil Bool.and_true Nat.mul_one Nat.zero_mul Nat.one_mul List.take_zero List.take_nil List.drop_nil List.drop_zero List.not_mem_nil Nat.le_refl Nat.zero_le mS_length mS_cells mS_sz mS_isCell mS_mid mS_append mS_take mS_drop cells_sI isCell_sI cellsOk_sI sI_eq succ_le_self' List.take_succ_cons List.drop_succ_cons List.take_length beq_self_eq_true List.mem_cons or_false forall_eq mI_put mI_rep O_guard' D_earlyG' D_stepG' W_cond' G_tt G_tf G_ft G_ff GE_tt GE_tf GE_ft GE_ff GS_tt GS_tf GS_ft GS_ff G_u GE_u GS_u IC_t IC_f xft xff xtt xtf z00 z20 z22 z02 zz tn0
theorem s131 (nn t : Bool) (x : List Int) (hx : x.length < 9223372036854775808) : Abs.Spec Try.prog 131 [.sl nn t (mI x)] [] fun v H' => H' = [] ∧ v = B (Sp.numbers x 0 0) := by
  refine Abs.Spec.walk mixed fn131 nn131 t131 q131 nt131 (by simp) ?_
  simp only [w131,go_sem,Nat.reduceEqDiff,Nat.reduceAdd,Nat.reduceLT,Nat.reduceLeDiff,reduceIte,reduceCtorEq]
  refine CallK.by (CallV.of_spec (s24 nn t x 0 0 hx)) fun v H' ⟨h1,h2⟩ => ?_
  subst h1 h2
  simp only [go_sem,Nat.reduceEqDiff,Nat.reduceAdd,Nat.reduceLT,Nat.reduceLeDiff,reduceIte,reduceCtorEq]
  exact leaf (B _) rfl ⟨rfl,rfl⟩
theorem s83 (nn t nn' t' : Bool) (x y : List Int) (hxy : x.length = y.length) (hx : x.length < 9223372036854775808) : Abs.Spec Try.prog 83 [.sl nn t (mI x),.sl nn' t' (mI y)] [] fun v H' => H' = [] ∧ v = B (decide (Sp.cmpL x y < 0)) := by
  refine Abs.Spec.walk mixed fn83 nn83 t83 q83 nt83 (by simp) ?_
  simp only [w83,go_sem,Nat.reduceEqDiff,Nat.reduceAdd,Nat.reduceLT,Nat.reduceLeDiff,reduceIte,reduceCtorEq]
  refine W_loop (fun q : { i : Nat // i ≤ x.length ∧ Sp.cmpL (x.drop i) (y.drop i) = Sp.cmpL x y } => ([(1,.sl nn' t' (mI y)),(7,.sl nn t (mI x)),(8,I x.length),(9,I q.1)],[])) (fun q => x.length - q.1) ⟨0,by omega,rfl⟩ [] (Wk.nil (by simp [fle,vle,Fr.get,mI_bnd])) ?_
  rintro ⟨i,hi,hinv⟩
  dsimp only
  by_cases hil : i < x.length
  · have d1 : (i : Int) < x.length := by omega
    have d2 : (i : Int) < y.length := by omega
    have g1 : (mI x).getD i any = I (x.getD i 0) := mI_get hil
    have g2 : (mI y).getD i any = I (y.getD i 0) := mI_get (by omega)
    have hw : IntKind.i64.wrap ((i : Int) + 1) = (i : Int) + 1 := wrap64 (by omega) (by omega)
    have st : Sp.cmpL (x.drop i) (y.drop i) = if x.getD i 0 < y.getD i 0 then -1 else if y.getD i 0 < x.getD i 0 then 1 else Sp.cmpL (x.drop (i + 1)) (y.drop (i + 1)) := by
      rw [List.drop_eq_getElem_cons hil,List.drop_eq_getElem_cons (by omega : i < y.length)]
      simp only [Sp.cmpL,List.getD_eq_getElem?_getD,List.getElem?_eq_getElem hil,List.getElem?_eq_getElem (by omega : i < y.length),Option.getD_some]
    obtain ⟨u,hu⟩ : ∃ u,x.getD i 0 = u := ⟨_,rfl⟩
    obtain ⟨w,hw'⟩ : ∃ w,y.getD i 0 = w := ⟨_,rfl⟩
    rw [hu] at g1 st
    rw [hw'] at g2 st
    simp only [w83L0,d1,d2,g1,g2,go_sem,Nat.reduceEqDiff,Nat.reduceAdd,Nat.reduceLT,Nat.reduceLeDiff,reduceIte,reduceCtorEq]
    refine IC.split (fun h => ?_) fun h => ?_
    · have hne : u ≠ w := by simpa using h
      simp only [d2,g2,go_sem,Nat.reduceEqDiff,Nat.reduceAdd,Nat.reduceLT,Nat.reduceLeDiff,reduceIte,reduceCtorEq]
      refine leaf (B (decide (u < w))) rfl ⟨rfl,?_⟩
      congr 1
      rw [← hinv,st]
      by_cases h1 : u < w
      · rw [if_pos h1,decide_eq_true h1]; rfl
      · rw [if_neg h1,if_pos (by omega),decide_eq_false h1]; rfl
    · have he : u = w := by simpa using h
      simp only [hw,go_sem,Nat.reduceEqDiff,Nat.reduceAdd,Nat.reduceLT,Nat.reduceLeDiff,reduceIte,reduceCtorEq]
      refine round0 rfl ⟨i + 1,by omega,?_⟩ (by dsimp only; omega) rfl ?_
      · rw [← hinv,st,if_neg (by omega),if_neg (by omega)]
      · simp [fle,vle,Fr.get,mI_bnd]
  · have d1 : ¬ (i : Int) < x.length := by omega
    simp only [w83L0,w83T1,d1,go_sem,Nat.reduceEqDiff,Nat.reduceAdd,Nat.reduceLT,Nat.reduceLeDiff,reduceIte,reduceCtorEq]
    refine leaf (B false) rfl ⟨rfl,?_⟩
    rw [List.drop_of_length_le (by omega),List.drop_of_length_le (by omega)] at hinv
    rw [← hinv]; rfl
theorem s75 (nn t nn' t' : Bool) (x y : List Int) (hxy : x.length = y.length) (hx : x.length < 9223372036854775808) : Abs.Spec Try.prog 75 [.sl nn t (mI x),.sl nn' t' (mI y)] [] fun v H' => H' = [] ∧ v = B (x == y) := by
  refine Abs.Spec.walk mixed fn75 nn75 t75 q75 nt75 (by simp) ?_
  simp only [w75,go_sem,Nat.reduceEqDiff,Nat.reduceAdd,Nat.reduceLT,Nat.reduceLeDiff,reduceIte,reduceCtorEq]
  refine CallK.by (CallV.of_spec (s83 nn t nn' t' x y hxy hx)) fun v H' ⟨h1,h2⟩ => ?_
  subst h1 h2
  have ha := Sp.cmpL_anti x y
  by_cases h : Sp.cmpL x y < 0
  · simp only [h,decide_true,go_sem,Nat.reduceEqDiff,Nat.reduceAdd,Nat.reduceLT,Nat.reduceLeDiff,reduceIte,reduceCtorEq]
    exact leaf (B false) rfl ⟨rfl,by
      congr 1
      have : x ≠ y := fun e => by subst e; rw [Sp.cmpL_self] at h; omega
      exact (beq_eq_false_iff_ne.2 this).symm⟩
  · simp only [h,decide_false,go_sem,Nat.reduceEqDiff,Nat.reduceAdd,Nat.reduceLT,Nat.reduceLeDiff,reduceIte,reduceCtorEq]
    refine CallK.by (CallV.of_spec (s83 nn' t' nn t y x hxy.symm (by omega))) fun v H' ⟨h1,h2⟩ => ?_
    subst h1 h2
    simp only [go_sem,Nat.reduceEqDiff,Nat.reduceAdd,Nat.reduceLT,Nat.reduceLeDiff,reduceIte,reduceCtorEq]
    refine leaf (B _) rfl ⟨rfl,?_⟩
    congr 1
    by_cases h2 : Sp.cmpL y x < 0
    · rw [decide_eq_true h2]
      have : x ≠ y := fun e => by subst e; rw [Sp.cmpL_self] at h2; omega
      rw [beq_eq_false_iff_ne.2 this]; rfl
    · rw [decide_eq_false h2]
      have : x = y := Sp.cmpL_eq (by omega)
      subst this
      simp
def absSum (x : List Int) : Int := x.foldr (fun a s => Sp.ab a + s) 0
theorem absSum_nn : ∀ x : List Int,0 ≤ absSum x
  | [] => Int.le_refl _
  | a :: x => by
    have := absSum_nn x
    have := Sp.ab_nonneg a
    simp only [absSum,List.foldr_cons] at *; omega
theorem absSum_le {M : Int} : ∀ {x : List Int},Sp.inB M x → absSum x ≤ M * x.length
  | [],_ => by simp [absSum]
  | a :: x,h => by
    rw [Sp.inB_cons] at h
    have h1 := absSum_le (x := x) h.2
    have h2 := Sp.ab_le.2 h.1
    simp only [absSum,List.foldr_cons,List.length_cons] at *
    rw [Int.natCast_add,Int.mul_add]; simp; omega
theorem s94 (nn t : Bool) (x : List Int) (hx : x.length ≤ 4) (hb : Sp.inB 16 x) : Abs.Spec Try.prog 94 [.sl nn t (mI x)] [] fun v H' => H' = [] ∧ v = I (absSum x) := by
  refine Abs.Spec.walk mixed fn94 nn94 t94 q94 nt94 (by simp) ?_
  simp only [w94,go_sem,Nat.reduceEqDiff,Nat.reduceAdd,Nat.reduceLT,Nat.reduceLeDiff,reduceIte,reduceCtorEq]
  refine W_loop (fun q : { q : Nat × Int // q.1 ≤ x.length ∧ 0 ≤ q.2 ∧ q.2 + absSum (x.drop q.1) = absSum x } => ([(3,I q.1.2),(6,.sl nn t (mI x)),(7,I x.length),(8,I q.1.1)],[])) (fun q => x.length - q.1.1) ⟨(0,0),by simp,by simp,by simp⟩ [] (Wk.nil (by simp [fle,vle,Fr.get,mI_bnd])) ?_
  rintro ⟨⟨i,s⟩,hi,hs0,hs⟩
  dsimp only at hi hs0 hs ⊢
  have h64 := absSum_le hb
  by_cases hil : i < x.length
  · have d1 : (i : Int) < x.length := by omega
    have g1 : (mI x).getD i any = I (x.getD i 0) := mI_get hil
    have xb := Sp.inB_getD hb i
    have hw : IntKind.i64.wrap ((i : Int) + 1) = (i : Int) + 1 := wrap64 (by omega) (by omega)
    have st : absSum (x.drop i) = Sp.ab (x.getD i 0) + absSum (x.drop (i + 1)) := by
      rw [List.drop_eq_getElem_cons hil]
      simp only [absSum,List.foldr_cons,List.getD_eq_getElem?_getD,List.getElem?_eq_getElem hil,Option.getD_some]
    obtain ⟨u,hu⟩ : ∃ u,x.getD i 0 = u := ⟨_,rfl⟩
    rw [hu] at g1 st xb
    have e1 : IntKind.i64.wrap (0 - u) = -u := by rw [wrap64 (by omega) (by omega)]; omega
    have an := absSum_nn (x.drop (i + 1))
    have a0 := Sp.ab_nonneg u
    have hu16 : Sp.ab u ≤ 16 := Sp.ab_le.2 xb
    have e2 : IntKind.i64.wrap (s + Sp.ab u) = s + Sp.ab u := wrap64 (by omega) (by omega)
    have e0 : (if -u > u then -u else u) = Sp.ab u := by unfold Sp.ab; split <;> split <;> omega
    simp only [w94L0,d1,g1,e1,e0,e2,hw,go_sem,Nat.reduceEqDiff,Nat.reduceAdd,Nat.reduceLT,Nat.reduceLeDiff,reduceIte,reduceCtorEq]
    refine round0 rfl ⟨(i + 1,s + Sp.ab u),by dsimp only; omega,by dsimp only; omega,by dsimp only; omega⟩ (by dsimp only; omega) rfl ?_
    simp [fle,vle,Fr.get,mI_bnd]
  · have d1 : ¬ (i : Int) < x.length := by omega
    simp only [w94L0,w94T1,d1,go_sem,Nat.reduceEqDiff,Nat.reduceAdd,Nat.reduceLT,Nat.reduceLeDiff,reduceIte,reduceCtorEq]
    refine leaf (I s) rfl ⟨rfl,?_⟩
    rw [List.drop_of_length_le (by omega)] at hs
    simp [absSum] at hs
    rw [hs]; rfl
theorem s54 (nn t nn' t' : Bool) (a : List (List Int)) (x : List Int) (ha : ∀ r ∈ a,r.length = x.length) (hl : a.length ≤ 1000) (hx : x.length ≤ 1000) :
    Abs.Spec Try.prog 54 [.sl nn t (mS a),.sl nn' t' (mI x)] [] fun v H' => H' = [] ∧ v = B (a.all fun r => Sp.dotG 0 r x == 0) := by
  refine Abs.Spec.walk mixed fn54 nn54 t54 q54 nt54 (by simp) ?_
  simp only [w54,go_sem,Nat.reduceEqDiff,Nat.reduceAdd,Nat.reduceLT,Nat.reduceLeDiff,reduceIte,reduceCtorEq]
  refine W_loop (fun q : { q : List (List Int) × List (List Int) // q.1 ++ q.2 = a ∧ (q.2.all fun r => Sp.dotG 0 r x == 0) = (a.all fun r => Sp.dotG 0 r x == 0) } => ([(1,sl nn' t' (mI x)),(10,sl nn t (mS a)),(11,I a.length),(12,I q.1.1.length)],[])) (fun q => q.1.2.length) ⟨([],a),rfl,rfl⟩ [] (Wk.nil (by simp [fle,vle,Fr.get,mS_bnd,mI_bnd])) ?_
  rintro ⟨⟨pre,suf⟩,hp,hinv⟩
  dsimp only at hp hinv
  subst hp
  cases suf with
  | nil =>
    simp only [w54L0,w54T4,go_sem,Nat.reduceEqDiff,Nat.reduceAdd,Nat.reduceLT,Nat.reduceLeDiff,reduceIte,reduceCtorEq]
    exact leaf (B true) rfl ⟨rfl,by rw [List.append_nil] at hinv; rw [← hinv]; rfl⟩
  | cons r suf =>
    have hr : r.length = x.length := ha r (by simp)
    simp only [w54L0,go_sem,Nat.reduceEqDiff,Nat.reduceAdd,Nat.reduceLT,Nat.reduceLeDiff,reduceIte,reduceCtorEq]
    refine W_loop (fun p : { p : Nat × Int // p.1 ≤ x.length ∧ Sp.dotG p.2 (r.drop p.1) (x.drop p.1) = Sp.dotG 0 r x } =>
      ([(1,sl nn' t' (mI x)),(6,sl false false (mI r)),(7,I p.1.2),(10,sl nn t (mS (pre ++ r :: suf))),(11,I (pre ++ r :: suf).length),(12,I pre.length),(16,sl nn' t' (mI x)),(17,I x.length),(18,I p.1.1)],[])) (fun p => x.length - p.1.1) ⟨(0,0),by omega,rfl⟩ [] (Wk.nil (by simp [fle,vle,Fr.get,mS_bnd,mI_bnd])) ?_
    rintro ⟨⟨i,s⟩,hin,hi2⟩
    dsimp only at hin hi2
    by_cases hi : i < x.length
    · have hi' : decide ((i : Int) < x.length) = true := decide_eq_true (by omega)
      have hir : i < r.length := by omega
      have hw : IntKind.i64.wrap ((i : Int) + 1) = i + 1 := wrap64 (by omega) (by omega)
      simp only [w54L1,hi',mI_get,mI_hd,hi,hir,go_sem,Nat.reduceEqDiff,Nat.reduceAdd,Nat.reduceLT,Nat.reduceLeDiff,reduceIte,reduceCtorEq]
      repeat (refine ⟨by omega,?_⟩)
      refine round0 rfl ⟨(i + 1,IntKind.i64.wrap (s + IntKind.i64.wrap (r.getD i 0 * x.getD i 0))),by omega,by rw [← hi2,Sp.dotG_step hir hi]⟩ (by dsimp only; omega) rfl ?_
      simp [fle,vle,Fr.get,hw,mS_bnd,mI_bnd]
    · have hi' : decide ((i : Int) < x.length) = false := decide_eq_false (by omega)
      rw [List.drop_of_length_le (by omega),List.drop_of_length_le (by omega)] at hi2
      have hs : s = Sp.dotG 0 r x := hi2
      have hll : pre.length + (suf.length + 1) ≤ 1000 := by simpa using hl
      have hwk : IntKind.i64.wrap ((pre.length : Int) + 1) = pre.length + 1 := wrap64 (by omega) (by omega)
      simp only [w54L1,hi',w54T2,go_sem,Nat.reduceEqDiff,Nat.reduceAdd,Nat.reduceLT,Nat.reduceLeDiff,reduceIte,reduceCtorEq]
      refine IC.split (fun h => ?_) fun h => ?_
      · simp only [go_sem,Nat.reduceEqDiff,Nat.reduceAdd,Nat.reduceLT,Nat.reduceLeDiff,reduceIte,reduceCtorEq]
        refine leaf (B false) rfl ⟨rfl,?_⟩
        rw [← hinv,List.all_cons,← hs]
        have : (s == 0) = false := by simpa using h
        rw [this]; rfl
      · simp only [w54T3,hwk,go_sem,Nat.reduceEqDiff,Nat.reduceAdd,Nat.reduceLT,Nat.reduceLeDiff,reduceIte,reduceCtorEq]
        refine round0 rfl ⟨(pre ++ [r],suf),by simp,?_⟩ (by simp) rfl ?_
        · rw [← hinv,List.all_cons,← hs]
          have : (s == 0) = true := by simpa using h
          rw [this,Bool.true_and]
        · simp [fle,vle,Fr.get,hwk,mS_bnd,mI_bnd]
open Go.Abs AVal
theorem rk_zero {a : List (List Int)} (h4 : ∀ r ∈ a,r.length ≤ 4) (h : ∀ r ∈ a,Sp.numbers r 0 0 = true) : Sp.rk (a.map Sp.pad) = 0 := by
  have : (a.map Sp.pad).filter (fun r => !(r == Sp.z4)) = [] := by
    rw [List.filter_eq_nil_iff]
    intro r hr
    obtain ⟨s,hs,rfl⟩ := List.mem_map.1 hr
    have hz := h s hs
    unfold Sp.numbers at hz
    rw [List.all_eq_true] at hz
    have e0 : ∀ z ∈ s,z = 0 := fun z hm => by have := hz z hm; simp at this; omega
    have : s = List.replicate s.length 0 := List.eq_replicate_iff.2 ⟨rfl,e0⟩
    have hp : Sp.pad s = List.replicate (s.length + (4 - s.length)) 0 := by
      unfold Sp.pad
      conv => lhs; rw [this]
      rw [List.length_replicate,List.replicate_append_replicate]
    have h4 := h4 s hs
    rw [hp,show s.length + (4 - s.length) = 4 by omega]; simp [Sp.z4]
  unfold Sp.rk
  rw [this]
theorem rk_one {r s : List Int} (h : ∀ i j,j < i → i < r.length → r.getD i 0 * s.getD j 0 = r.getD j 0 * s.getD i 0) (hl : r.length ≤ 4) (hs : s.length = r.length) : Sp.rk ([r,s].map Sp.pad) ≤ 1 := by
  have hp : ∀ {x : List Int} {k : Nat},(Sp.pad x).getD k 0 = x.getD k 0 := fun {x k} => by
    by_cases hk : k < x.length
    · unfold Sp.pad; rw [List.getD_eq_getElem?_getD,List.getElem?_append_left hk,List.getD_eq_getElem?_getD]
    · rw [Sp.pad_getD rfl (by omega),List.getD_eq_getElem?_getD,List.getElem?_eq_none (by omega)]; rfl
  have hm : (Sp.minors (Sp.pad r) (Sp.pad s)).all (fun d => !(d != 0)) = true := by
    rw [List.all_eq_true]
    intro d hd
    unfold Sp.minors at hd
    obtain ⟨j,hj,hd⟩ := List.mem_flatMap.1 hd
    obtain ⟨i,hi,rfl⟩ := List.mem_map.1 hd
    have hi := List.mem_range.1 hi
    have hj := List.mem_range.1 hj
    rw [hp,hp,hp,hp]
    by_cases hjr : j < r.length
    · have := h j i hi hjr
      have e0 : r.getD i 0 * s.getD j 0 - r.getD j 0 * s.getD i 0 = 0 := by omega
      rw [e0]; rfl
    · have e1 : r.getD j 0 = 0 := by rw [List.getD_eq_getElem?_getD,List.getElem?_eq_none (by omega)]; rfl
      have e2 : s.getD j 0 = 0 := by rw [List.getD_eq_getElem?_getD,List.getElem?_eq_none (by omega)]; rfl
      rw [e1,e2]; simp
  unfold Sp.rk
  simp only [List.map_cons,List.map_nil]
  by_cases h1 : (Sp.pad r == Sp.z4) = true
  · by_cases h2 : (Sp.pad s == Sp.z4) = true
    · simp [List.filter_cons,h1,h2]
    · simp [List.filter_cons,h1,h2]
  · by_cases h2 : (Sp.pad s == Sp.z4) = true
    · simp [List.filter_cons,h1,h2]
    · simp only [List.filter_cons,List.filter_nil,h1,h2,Bool.not_false,if_true]
      rw [hm]; decide
theorem rk_single (r : List Int) : Sp.rk [r] ≤ 1 := by
  unfold Sp.rk
  by_cases h : (r == Sp.z4) = true
  · simp [List.filter_cons,h]
  · simp [List.filter_cons,h]
theorem rk_le2 (rows : List (List Int)) : Sp.rk rows ≤ 2 := by
  unfold Sp.rk
  split
  · decide
  · decide
  · split <;> decide
theorem bound_ok {rows : List (List Int)} {n : Nat} (n1 : 1 ≤ n) (n4 : n ≤ 4) {r : Nat} (hr : r = 0 ∨ r = 1 ∨ r = 2) (h : Sp.rk rows ≤ r) : Sp.bnd rows n ≤ (if (1 : Int) < (n : Int) - r then (n : Int) - r else 1) * (if r = 0 then 1 else if r = 1 then 2 else 8) ∧ (if (1 : Int) < (n : Int) - r then (n : Int) - r else 1) * (if r = 0 then 1 else if r = 1 then 2 else 8) ≤ 16 := by
  unfold Sp.bnd
  generalize Sp.rk rows = k at h
  rcases (show n = 1 ∨ n = 2 ∨ n = 3 ∨ n = 4 by omega) with rfl | rfl | rfl | rfl <;> rcases hr with rfl | rfl | rfl <;> rcases (show k = 0 ∨ k = 1 ∨ k = 2 by omega) with rfl | rfl | rfl <;> first | (exfalso; omega) | decide
set_option maxRecDepth 20000 in
set_option maxHeartbeats 4000000 in
theorem s93 (nn t : Bool) (a : List (List Int)) (ha : ∀ l ∈ a,l.length < 9223372036854775808) (hl : a.length < 9223372036854775808) (hm : Sp.mat a = true) : Abs.Spec Try.prog 93 [.sl nn t (mS a)] [] fun v H' => H' = [] ∧ ∃ M : Nat,Sp.bnd (a.map Sp.pad) (a.getD 0 []).length ≤ M ∧ M ≤ 16 ∧ v = I M := by
  obtain ⟨h1,h2,h3⟩ := Sp.mat_spec hm
  obtain ⟨-,-,n1,n4⟩ := Sp.mat_cols hm rfl
  have hb : ∀ r ∈ a,Sp.inB 2 r := by
    have h := hm
    unfold Sp.mat at h
    simp only [Bool.and_eq_true,decide_eq_true_eq,List.all_eq_true,Sp.numbers] at h
    intro r hr x hx
    have := (h.2.2 r hr).2.2.2 x hx
    omega
  have g0 := mS_getD (show 0 < a.length by omega)
  obtain ⟨n,hn⟩ : ∃ n,(a.getD 0 []).length = n := ⟨_,rfl⟩
  have gl : (mI (a.getD 0 [])).length = n := by rw [mI_length,hn]
  have c0 : (0 : Int) < a.length := by omega
  rw [hn] at n1 n4 ⊢
  refine Abs.Spec.walk mixed fn93 nn93 t93 q93 nt93 (by simp) ?_
  have fin : ∀ (r : Nat) (hr : r = 0 ∨ r = 1 ∨ r = 2) (hrk : Sp.rk (a.map Sp.pad) ≤ r) (fr : Fr) (_ : fr.get 0 = .sl nn t (mS a)) (_ : fr.get 3 = I r),
      W { P := Try.prog,B := 0,n := 72,rg := true } (retA 0 r93 fun v H' => H' = [] ∧ ∃ M : Nat,Sp.bnd (a.map Sp.pad) n ≤ M ∧ M ≤ 16 ∧ v = I M) c93T5 [] fr [] [] := fun r hr hrk fr e0 e3 => by
    have hbk := bound_ok n1 n4 hr hrk
    have e1 : IntKind.i64.wrap ((n : Int) - (r : Int)) = (n : Int) - r := wrap64 (by omega) (by omega)
    obtain ⟨c,hc⟩ : ∃ c : Int,(if r = 0 then 1 else if r = 1 then 2 else 8) = c := ⟨_,rfl⟩
    have p1 : (List.drop r [I 1,I 2,I 8]).headD any = I c := by rw [← hc]; rcases hr with rfl | rfl | rfl <;> rfl
    rw [hc] at hbk
    obtain ⟨m,hm'⟩ : ∃ m : Int,(if (n : Int) - r > 1 then (n : Int) - r else 1) = m := ⟨_,rfl⟩
    have hbk' : Sp.bnd (a.map Sp.pad) n ≤ m * c ∧ m * c ≤ 16 := by rw [← hm']; exact hbk
    have b0 : 0 ≤ Sp.bnd (a.map Sp.pad) n := by unfold Sp.bnd; split <;> (try split) <;> (try split) <;> omega
    have e2 : IntKind.i64.wrap (m * c) = m * c := wrap64 (by omega) (by omega)
    have rl : (r : Int) < (3 : Nat) := by omega
    simp only [w93T5,e0,e3,g0,gl,c0,e1,p1,hm',e2,rl,go_sem,Nat.reduceEqDiff,Nat.reduceAdd,Nat.reduceLT,Nat.reduceLeDiff,reduceIte,reduceCtorEq]
    refine ⟨Int.le_refl _,by omega,?_⟩
    exact leaf (I _) rfl ⟨rfl,(m * c).toNat,by omega,by omega,by congr 2; omega⟩
  simp only [w93,go_sem,Nat.reduceEqDiff,Nat.reduceAdd,Nat.reduceLT,Nat.reduceLeDiff,reduceIte,reduceCtorEq]
  refine W_loop (fun q : { q : (List (List Int) × List (List Int)) × Nat // q.1.1 ++ q.1.2 = a ∧ (q.2 = 0 ∨ q.2 = 1) ∧ (q.2 = 0 → ∀ r ∈ q.1.1,Sp.numbers r 0 0 = true) } => ([(0,.sl nn t (mS a)),(3,I q.1.2),(8,.sl nn t (mS a)),(9,I a.length),(10,I q.1.1.1.length)],[])) (fun q => q.1.1.2.length) ⟨(([],a),0),rfl,.inl rfl,by simp⟩ [] (Wk.nil (by simp [fle,vle,Fr.get,mS_bnd])) ?_
  rintro ⟨⟨⟨pre,suf⟩,r⟩,hp,hr,hz⟩
  dsimp only at hp hr hz ⊢
  cases suf with
  | cons s suf =>
    have s9 : s.length < 9223372036854775808 := ha s (by rw [← hp]; simp)
    have hll : (pre ++ s :: suf).length < 9223372036854775808 := by rw [hp]; exact hl
    have hw := rng_idx' hll
    subst hp
    simp only [w93L0,go_sem,Nat.reduceEqDiff,Nat.reduceAdd,Nat.reduceLT,Nat.reduceLeDiff,reduceIte,reduceCtorEq]
    refine CallK.pure (liftV (s131 false false s s9) (by simp [bndL,AVal.bnd,mI_bnd]) rfl _) ?_
    cases hs : Sp.numbers s 0 0 with
    | true =>
      simp only [hw,go_sem,Nat.reduceEqDiff,Nat.reduceAdd,Nat.reduceLT,Nat.reduceLeDiff,reduceIte,reduceCtorEq]
      refine round0 rfl ⟨((pre ++ [s],suf),r),by simp,hr,fun h x hx => ?_⟩ (by simp) rfl ?_
      · rcases List.mem_append.1 hx with hx | hx
        · exact hz h x hx
        · simp at hx; subst hx; exact hs
      · simp [fle,vle,Fr.get,mS_bnd]
    | false =>
      simp only [hw,go_sem,Nat.reduceEqDiff,Nat.reduceAdd,Nat.reduceLT,Nat.reduceLeDiff,reduceIte,reduceCtorEq]
      refine round0 rfl ⟨((pre ++ [s],suf),1),by simp,.inr rfl,fun h => by cases h⟩ (by simp) rfl ?_
      simp [fle,vle,Fr.get,mS_bnd]
  | nil =>
    rw [List.append_nil] at hp
    subst hp
    have z0 : r = 0 → Sp.rk (pre.map Sp.pad) = 0 := fun h => rk_zero (fun x hx => (h3 x hx).2.2) (hz h)
    rcases (show (∃ x,pre = [x]) ∨ ∃ x y,pre = [x,y] by
      match pre,h1,h2 with
      | [x],_,_ => exact .inl ⟨x,rfl⟩
      | [x,y],_,_ => exact .inr ⟨x,y,rfl⟩) with ⟨x,rfl⟩ | ⟨x,y,rfl⟩
    · have t0 : (((1 : Nat) : Int) == 2) = false := rfl
      simp only [w93L0,w93T1,t0,go_sem,Nat.reduceEqDiff,Nat.reduceAdd,Nat.reduceLT,Nat.reduceLeDiff,reduceIte,reduceCtorEq]
      refine fin r (by omega) ?_ _ rfl rfl
      rcases hr with rfl | rfl
      · rw [z0 rfl]; omega
      · exact rk_single _
    · have t0 : (((2 : Nat) : Int) == 2) = true := rfl
      have c2 : (0 : Int) < (2 : Nat) := by decide
      simp only [w93L0,w93T1,t0,g0,gl,c2,go_sem,Nat.reduceEqDiff,Nat.reduceAdd,Nat.reduceLT,Nat.reduceLeDiff,reduceIte,reduceCtorEq]
      refine ⟨Int.le_refl _,?_⟩
      have xn : x.length = n := hn
      have yn : y.length = n := by rw [← hn]; exact (h3 y (by simp)).1
      have ga : (mS [x,y]).getD 0 any = .sl false false (mI x) := rfl
      have gb : (mS [x,y]).getD 1 any = .sl false false (mI y) := rfl
      have tn1 : Int.toNat 1 = 1 := rfl
      have c3 : (1 : Int) < (2 : Nat) := by decide
      have bx := hb x (by simp)
      have by' := hb y (by simp)
      obtain ⟨P,hP⟩ : ∃ P : Nat → Nat → Prop,P = fun i j => x.getD i 0 * y.getD j 0 = x.getD j 0 * y.getD i 0 := ⟨_,rfl⟩
      obtain ⟨OK,hOK⟩ : ∃ OK : Nat → Nat → Nat → Prop,OK = fun i j k => k = 2 ∨ (k = r ∧ (∀ i' < i,∀ j' < i',P i' j') ∧ ∀ j' < j,P i j') := ⟨_,rfl⟩
      refine W_loop (fun q : { q : Nat × Nat // q.1 ≤ n ∧ OK q.1 0 q.2 } => ([(0,.sl nn t (mS [x,y])),(3,I q.1.2),(24,I n),(25,I q.1.1)],[])) (fun q => n - q.1.1) ⟨(0,r),by omega,by rw [hOK]; exact .inr ⟨rfl,by simp,by simp⟩⟩ [] (Wk.nil (by simp [fle,vle,Fr.get,mS_bnd])) ?_
      rintro ⟨⟨i,k⟩,hi,hk⟩
      dsimp only at hi hk ⊢
      by_cases hin : i < n
      · have d1 : (i : Int) < n := by omega
        have hw : IntKind.i64.wrap ((i : Int) + 1) = (i : Int) + 1 := wrap64 (by omega) (by omega)
        simp only [w93L2,d1,go_sem,Nat.reduceEqDiff,Nat.reduceAdd,Nat.reduceLT,Nat.reduceLeDiff,reduceIte,reduceCtorEq]
        refine W_loop (fun q : { q : Nat × Nat // q.1 ≤ i ∧ OK i q.1 q.2 } => ([(0,.sl nn t (mS [x,y])),(3,I q.1.2),(6,I i),(24,I n),(25,I i),(28,I i),(29,I q.1.1)],[])) (fun q => i - q.1.1) ⟨(0,k),by omega,hk⟩ [] (Wk.nil (by simp [fle,vle,Fr.get,mS_bnd])) ?_
        rintro ⟨⟨j,k'⟩,hj,hk'⟩
        dsimp only at hj hk' ⊢
        by_cases hji : j < i
        · have d2 : (j : Int) < i := by omega
          have hwj : IntKind.i64.wrap ((j : Int) + 1) = (j : Int) + 1 := wrap64 (by omega) (by omega)
          have d3 : (j : Int) < n := by omega
          have p1 : (mI x).getD i any = I (x.getD i 0) := mI_get (by omega)
          have p2 : (mI x).getD j any = I (x.getD j 0) := mI_get (by omega)
          have p3 : (mI y).getD i any = I (y.getD i 0) := mI_get (by omega)
          have p4 : (mI y).getD j any = I (y.getD j 0) := mI_get (by omega)
          have m1 := Sp.mul_bound (Sp.inB_getD bx i).1 (Sp.inB_getD bx i).2 (Sp.inB_getD by' j).1 (Sp.inB_getD by' j).2
          have m2 := Sp.mul_bound (Sp.inB_getD bx j).1 (Sp.inB_getD bx j).2 (Sp.inB_getD by' i).1 (Sp.inB_getD by' i).2
          have hPij : P i j ↔ x.getD i 0 * y.getD j 0 = x.getD j 0 * y.getD i 0 := by rw [hP]
          obtain ⟨xi,e1⟩ : ∃ z,x.getD i 0 = z := ⟨_,rfl⟩
          obtain ⟨xj,e2⟩ : ∃ z,x.getD j 0 = z := ⟨_,rfl⟩
          obtain ⟨yi,e3⟩ : ∃ z,y.getD i 0 = z := ⟨_,rfl⟩
          obtain ⟨yj,e4⟩ : ∃ z,y.getD j 0 = z := ⟨_,rfl⟩
          rw [e1] at p1
          rw [e2] at p2
          rw [e3] at p3
          rw [e4] at p4
          rw [e1,e4] at m1
          rw [e2,e3] at m2
          rw [e1,e2,e3,e4] at hPij
          have w1 : IntKind.i64.wrap (xi * yj) = xi * yj := wrap64 (by omega) (by omega)
          have w2 : IntKind.i64.wrap (xj * yi) = xj * yi := wrap64 (by omega) (by omega)
          simp only [w93L3,d1,d2,d3,ga,gb,tn1,c2,c3,p1,p2,p3,p4,w1,w2,xn,yn,go_sem,Nat.reduceEqDiff,Nat.reduceAdd,Nat.reduceLT,Nat.reduceLeDiff,reduceIte,reduceCtorEq]
          repeat (refine And.intro (by decide) ?_)
          refine IC.split (fun h => ?_) fun h => ?_
          · simp only [hwj,go_sem,Nat.reduceEqDiff,Nat.reduceAdd,Nat.reduceLT,Nat.reduceLeDiff,reduceIte,reduceCtorEq]
            refine round0 rfl ⟨(j + 1,2),by omega,by rw [hOK]; exact .inl rfl⟩ (by dsimp only; omega) rfl ?_
            simp [fle,vle,Fr.get,mS_bnd]
          · simp only [hwj,go_sem,Nat.reduceEqDiff,Nat.reduceAdd,Nat.reduceLT,Nat.reduceLeDiff,reduceIte,reduceCtorEq]
            have he : xi * yj = xj * yi := by simpa using h
            refine round0 rfl ⟨(j + 1,k'),by omega,?_⟩ (by dsimp only; omega) rfl ?_
            · rw [hOK] at hk' ⊢
              rcases hk' with h | ⟨h1,h2,h3⟩
              · exact .inl h
              · refine .inr ⟨h1,h2,fun j' hj' => ?_⟩
                by_cases e : j' < j
                · exact h3 j' e
                · have : j' = j := by omega
                  subst this
                  exact hPij.2 he
            · simp [fle,vle,Fr.get,mS_bnd]
        · have d2 : ¬ (j : Int) < i := by omega
          have ej : j = i := by omega
          subst ej
          simp only [w93L3,w93T4,d2,hw,go_sem,Nat.reduceEqDiff,Nat.reduceAdd,Nat.reduceLT,Nat.reduceLeDiff,reduceIte,reduceCtorEq]
          refine round0 rfl ⟨(j + 1,k'),by omega,?_⟩ (by dsimp only; omega) rfl ?_
          · rw [hOK] at hk' ⊢
            rcases hk' with h | ⟨h1,h2,h3⟩
            · exact .inl h
            · refine .inr ⟨h1,fun i' hi' j' hj' => ?_,by simp⟩
              by_cases e : i' < j
              · exact h2 i' e j' hj'
              · have : i' = j := by omega
                subst this
                exact h3 j' hj'
          · simp [fle,vle,Fr.get,mS_bnd]
      · have d1 : ¬ (i : Int) < n := by omega
        have ei : i = n := by omega
        subst ei
        simp only [w93L2,d1,go_sem,Nat.reduceEqDiff,Nat.reduceAdd,Nat.reduceLT,Nat.reduceLeDiff,reduceIte,reduceCtorEq]
        rw [hOK,hP] at hk
        refine fin k (by rcases hk with h | ⟨h,-⟩ <;> omega) ?_ _ rfl rfl
        rcases hk with h | ⟨h,h2,-⟩
        · rw [h]; exact rk_le2 _
        · rcases hr with rfl | rfl
          · rw [z0 rfl]; omega
          · rw [h]; exact rk_one (fun i j hj hi => h2 i (by omega) j hj) (by omega) (by omega)
open Go.Abs AVal
theorem leafK2 {B t u : Nat} {e : Ex} {fr : Fr} {H : AHeap} {R : AVal → AHeap → Prop} (v : AVal) (hv : AVal.tup [fr.get t,fr.get u] = v) (hok : HOk (fun _ _ => False) H) (hB : B ≤ H.length) (hvid : vid H.length 3 v = true) (hR : R v H) (he : e = .norm ∨ e = .ret := by simp) : retA B [.tmp t,.tmp u] R e fr H [] :=
  ⟨he,by
    simp only [killM,resL,resA]
    exact ⟨⟨trivial,trivial,trivial⟩,idρ H.length,v,H,Wk.ok hok (fun _ _ h => h.elim) hB (fun p hp => by simp at hp; subst hp; exact ⟨hv,hvid⟩) (fun _ h => by cases h),hR⟩⟩
theorem ok1 {b0 : Blk} (hb0 : blkOk 2 b0 = true) (l : List (List Int)) : ∀ b ∈ [b0,Blk.cells (mS l)],blkOk 2 b = true := fun b hb => by
  rcases List.mem_cons.1 hb with rfl | hb
  · exact hb0
  · simp at hb; subst hb; simp [blkOk,mS_bnd]
theorem ins_cells {α : Type} (l : List α) (z y : α) {t n : Nat} (hn : l.length = n) (h : t < n) :
    List.take t (List.take (t + 1) (l ++ [z]) ++ List.take (min (n + 1 - t) (n + 1 - (t + 1))) (List.take (n + 1 - t) (List.drop t (l ++ [z]))) ++ List.drop (t + 1 + min (n + 1 - t) (n + 1 - (t + 1))) (l ++ [z])) ++ [y] ++
      List.drop (t + 1) (List.take (t + 1) (l ++ [z]) ++ List.take (min (n + 1 - t) (n + 1 - (t + 1))) (List.take (n + 1 - t) (List.drop t (l ++ [z]))) ++ List.drop (t + 1 + min (n + 1 - t) (n + 1 - (t + 1))) (l ++ [z])) = l.take t ++ y :: l.drop t := by
  have e1 : min (n + 1 - t) (n + 1 - (t + 1)) = n - t := by omega
  have e2 : List.take (n + 1 - t) (List.drop t (l ++ [z])) = List.drop t (l ++ [z]) := List.take_of_length_le (by simp; omega)
  have e3 : List.take (n - t) (List.drop t (l ++ [z])) = List.drop t l := by
    rw [List.drop_append_of_le_length (by omega),List.take_append_of_le_length (by simp; omega),List.take_of_length_le (by simp; omega)]
  have e4 : List.drop (t + 1 + (n - t)) (l ++ [z]) = [] := List.drop_of_length_le (by simp; omega)
  have e5 : List.take (t + 1) (l ++ [z]) = List.take (t + 1) l := List.take_append_of_le_length (by omega)
  have e6 : (List.take (t + 1) l).length = t + 1 := by rw [List.length_take]; omega
  rw [e1,e2,e3,e4,e5,List.append_nil,List.take_append_of_le_length (by omega),List.take_take,Nat.min_eq_left (by omega),List.drop_append_of_le_length (by omega),List.drop_of_length_le (by omega),List.nil_append]
  simp
theorem mS_hd0 {l : List (List Int)} {i : Nat} (h : i < l.length) : (mS (l.drop i)).headD any = .sl false false (mI (l.getD i [])) := by
  rw [List.drop_eq_getElem_cons h,List.getD_eq_getElem?_getD,List.getElem?_eq_getElem h]; rfl
set_option maxRecDepth 20000 in
set_option maxHeartbeats 4000000 in
theorem s95g (b0 : Blk) (hb0 : blkOk 2 b0 = true) (hbc : ∀ i,i = 0 → blkN (fun _ _ => False) 4 i b0) (hbc2 : blkN (fun _ _ => False) 2 0 b0) (l : List (List Int)) (x : List Int) (n : Nat) (h4 : ∀ y ∈ l,y.length = n) (hx : x.length = n) (hn : n ≤ 4) (hs : l.Pairwise fun a b => Sp.cmpL a b < 0) (hl : l.length ≤ 40000000000) :
    Abs.Spec Try.prog 95 [.own 1 0 l.length l.length 1,.sl false false (mI x)] [b0,.cells (mS l)] fun v H' => (x ∈ l ∧ v = .tup [.own 1 0 l.length l.length 1,B false] ∧ H' = [b0,.cells (mS l)]) ∨ x ∉ l ∧ ∃ m : List (List Int),m.length = l.length + 1 ∧ m.Pairwise (fun a b => Sp.cmpL a b < 0) ∧ (∀ y,y ∈ m ↔ y ∈ l ∨ y = x) ∧ v = .tup [.own 3 0 m.length m.length 1,B true] ∧ H' = [b0,.dead,.cells [nilSl],.cells (mS m)] := by
  refine Abs.Spec.walk mixed fn95 nn95 t95 q95 nt95 (by simp) ?_
  simp only [w95,go_sem,Nat.reduceEqDiff,Nat.reduceAdd,Nat.reduceLT,Nat.reduceLeDiff,reduceIte,reduceCtorEq]
  refine W_loop (fun q : { q : Nat × Nat // q.1 ≤ q.2 ∧ q.2 ≤ l.length ∧ (∀ i < q.1,Sp.cmpL (l.getD i []) x < 0) ∧ ∀ i,q.2 ≤ i → i < l.length → ¬ Sp.cmpL (l.getD i []) x < 0 } => ([(0,.own 1 0 l.length l.length 1),(1,.sl false false (mI x)),(6,I q.1.1),(7,I q.1.2)],[b0,.cells (mS l)])) (fun q => q.1.2 - q.1.1) ⟨(0,l.length),by simp,by simp,by simp,fun i h1 h2 => by dsimp only at h1; omega⟩ (idρ 2) (WkB (B := 2) rfl (ok1 hb0 l) (by simp [Fr.get,vid,AVal.bnd,mI_bnd])) ?_
  rintro ⟨⟨f,t⟩,h1,h2,h3,h5⟩
  dsimp only at h1 h2 h3 h5 ⊢
  by_cases hft : f < t
  · have d1 : (f : Int) < t := by omega
    obtain ⟨m,hm⟩ : ∃ m : Nat,(f + t) / 2 = m := ⟨_,rfl⟩
    have e1 : IntKind.i64.wrap ((f : Int) + t) = (f : Int) + t := wrap64 (by omega) (by omega)
    have e2 : IntKind.i64.wrap (((f : Int) + t).tdiv 2) = m := by
      rw [Int.tdiv_eq_ediv_of_nonneg (by omega),wrap64 (by omega) (by omega)]; omega
    have e3 : IntKind.i64.wrap ((m : Int) + 1) = (m : Int) + 1 := wrap64 (by omega) (by omega)
    have hml : m < l.length := by omega
    have gm := mS_hd0 hml
    have lm := h4 _ (gd_mem' hml)
    have d2 : (m : Int) < l.length := by omega
    obtain ⟨z,hz⟩ : ∃ z,l.getD m [] = z := ⟨_,rfl⟩
    rw [hz] at gm lm
    simp only [w95L0,d1,e1,e2,gm,d2,go_sem,Nat.reduceEqDiff,Nat.reduceAdd,Nat.reduceLT,Nat.reduceLeDiff,reduceIte,reduceCtorEq]
    refine ⟨by decide,by omega,?_⟩
    refine CallK.pure (liftV (s83 false false false false z x (by omega) (by omega)) (by simp [bndL,AVal.bnd,mI_bnd]) rfl _) ?_
    have asc : ∀ i j,i ≤ j → j < l.length → Sp.cmpL (l.getD i []) (l.getD j []) ≤ 0 := fun i j hij hj => by
      rw [List.getD_eq_getElem?_getD,List.getD_eq_getElem?_getD,List.getElem?_eq_getElem (by omega),List.getElem?_eq_getElem hj]
      rcases Nat.lt_or_eq_of_le hij with h | h
      · have := List.pairwise_iff_getElem.1 hs i j (by omega) hj h
        simp only [Option.getD_some]; omega
      · subst h; simp only [Option.getD_some]; rw [Sp.cmpL_self]; exact Int.le_refl _
    by_cases hc : Sp.cmpL z x < 0
    · simp only [hc,decide_true,e3,go_sem,Nat.reduceEqDiff,Nat.reduceAdd,Nat.reduceLT,Nat.reduceLeDiff,reduceIte,reduceCtorEq]
      refine roundB ⟨(m + 1,t),by dsimp only; omega,h2,fun i hi => ?_,h5⟩ (by dsimp only; omega) rfl rfl (ok1 hb0 l) (by simp [Fr.get,vid,AVal.bnd,mI_bnd])
      have k1 := asc i m (by dsimp only at hi; omega) hml
      rw [hz] at k1
      by_cases h0 : Sp.cmpL (l.getD i []) x < 0
      · exact h0
      · exfalso
        have k2 := Sp.cmpL_anti (l.getD i []) x
        have k3 := Sp.cmpL_trans (a := x) (b := l.getD i []) (c := z) (by omega) k1
        have k4 := Sp.cmpL_anti z x
        omega
    · simp only [hc,decide_false,go_sem,Nat.reduceEqDiff,Nat.reduceAdd,Nat.reduceLT,Nat.reduceLeDiff,reduceIte,reduceCtorEq]
      refine roundB ⟨(f,m),by dsimp only; omega,by dsimp only; omega,h3,fun i hi hil => ?_⟩ (by dsimp only; omega) rfl rfl (ok1 hb0 l) (by simp [Fr.get,vid,AVal.bnd,mI_bnd])
      have k1 := asc m i (by dsimp only at hi; omega) hil
      rw [hz] at k1
      intro h0
      have k2 := Sp.cmpL_trans (a := z) (b := l.getD i []) (c := x) k1 (by omega)
      have : z = x := Sp.cmpL_eq (by omega)
      subst this
      have := Sp.cmpL_anti (l.getD i []) z
      omega
  · have d1 : ¬ (f : Int) < t := by omega
    have ef : t = f := by omega
    subst ef
    by_cases hxl : x ∈ l
    · obtain ⟨j,hj,hjx⟩ := List.getElem_of_mem hxl
      have gj : l.getD j [] = x := by rw [List.getD_eq_getElem?_getD,List.getElem?_eq_getElem hj]; exact hjx
      have htj : t ≤ j := by
        refine Decidable.byContradiction fun h => ?_
        have := h3 j (by omega)
        rw [gj,Sp.cmpL_self] at this
        omega
      have htl : t < l.length := by omega
      have etj : t = j := by
        refine Decidable.byContradiction fun h => ?_
        have k1 := List.pairwise_iff_getElem.1 hs t j (by omega) hj (by omega)
        have k2 := h5 t (Nat.le_refl _) htl
        rw [List.getD_eq_getElem?_getD,List.getElem?_eq_getElem htl] at k2
        rw [hjx] at k1
        exact k2 k1
      subst etj
      have d2 : (t : Int) < l.length := by omega
      have gt := mS_hd0 htl
      rw [gj] at gt
      have z : (x == x) = true := beq_self_eq_true x
      have ok2 : HOk (fun _ _ => False) [b0,.cells (mS l)] := fun i b hi => by
        rcases i with _ | _ | i
        · cases hi; exact hbc2
        · cases hi; simp [blkN,mS_bnd]
        · simp at hi
      simp only [w95L0,w95T1,d1,d2,decide_true,gt,go_sem,Nat.reduceEqDiff,Nat.reduceAdd,Nat.reduceLT,Nat.reduceLeDiff,reduceIte,reduceCtorEq]
      refine ⟨by omega,?_⟩
      refine CallK.pure (liftV (s75 false false false false x x (by omega) (by omega)) (by simp [bndL,AVal.bnd,mI_bnd]) rfl _) ?_
      rw [z]
      simp only [go_sem,Nat.reduceEqDiff,Nat.reduceAdd,Nat.reduceLT,Nat.reduceLeDiff,reduceIte,reduceCtorEq]
      exact leafK2 _ rfl ok2 (by simp) rfl (.inl ⟨hxl,rfl,rfl⟩)
    have hni : x ∉ l := hxl
    obtain ⟨M,hM⟩ : ∃ M,l.take t ++ x :: l.drop t = M := ⟨_,rfl⟩
    have Ml : M.length = l.length + 1 := by rw [← hM]; simp; omega
    have fin : M.Pairwise (fun a b => Sp.cmpL a b < 0) ∧ ∀ y,y ∈ M ↔ y ∈ l ∨ y = x := by
      have hlo : ∀ y ∈ l.take t,Sp.cmpL y x < 0 := fun y hy => by
        obtain ⟨i,hi,rfl⟩ := List.getElem_of_mem hy
        rw [List.length_take] at hi
        have := h3 i (by omega)
        rw [List.getD_eq_getElem?_getD,List.getElem?_eq_getElem (by omega)] at this
        rw [List.getElem_take]; exact this
      have hhi : ∀ y ∈ l.drop t,Sp.cmpL x y < 0 := fun y hy => by
        have hyl := List.mem_of_mem_drop hy
        obtain ⟨i,hi,rfl⟩ := List.getElem_of_mem hy
        rw [List.length_drop] at hi
        have := h5 (t + i) (by omega) (by omega)
        rw [List.getD_eq_getElem?_getD,List.getElem?_eq_getElem (by omega)] at this
        rw [List.getElem_drop] at hyl ⊢
        simp only [Option.getD_some] at this
        have k1 := Sp.cmpL_anti l[t + i] x
        have k2 : Sp.cmpL l[t + i] x ≠ 0 := fun e => hni (by rw [← Sp.cmpL_eq e]; exact hyl)
        omega
      refine ⟨?_,fun y => ?_⟩
      · rw [← hM,List.pairwise_append,List.pairwise_cons]
        refine ⟨hs.sublist (List.take_sublist t l),⟨hhi,hs.sublist (List.drop_sublist t l)⟩,fun a ha b hb => ?_⟩
        rcases List.mem_cons.1 hb with rfl | hb
        · exact hlo a ha
        · have k1 := hlo a ha
          have k2 := hhi b hb
          have k3 := Sp.cmpL_trans (a := a) (b := x) (c := b) (by omega) (by omega)
          have k4 : Sp.cmpL a b ≠ 0 := fun e => by
            have := Sp.cmpL_eq e
            subst this
            have := Sp.cmpL_anti a x
            omega
          omega
      · rw [← hM,List.mem_append,List.mem_cons]
        have : y ∈ l ↔ y ∈ l.take t ∨ y ∈ l.drop t := by rw [← List.mem_append,List.take_append_drop]
        rw [this]
        constructor
        · rintro (h | h | h)
          · exact .inl (.inl h)
          · exact .inr h
          · exact .inl (.inr h)
        · rintro ((h | h) | h)
          · exact .inl h
          · exact .inr (.inr h)
          · exact .inr (.inl h)
    have mc : (mS l).length = l.length := mS_length
    have allc : ∀ u ∈ mS l ++ [val (Value.slice none 0 0)],u.isCell = true := fun u hu => by
      rcases List.mem_append.1 hu with hu | hu
      · obtain ⟨y,-,rfl⟩ := List.mem_map.1 hu; rfl
      · simp at hu; subst hu; rfl
    have hM' : List.take t (mS l) ++ .sl false false (mI x) :: List.drop t (mS l) = mS M := by
      rw [← hM]; simp [mS,sI,List.map_take,List.map_drop]
    have hok : HOk (fun _ _ => False) [b0,.dead,.cells [val (Value.slice none 0 0)],.cells (mS M)] := fun i b hi => by
      rcases i with _ | _ | _ | _ | i
      · cases hi; exact hbc 0 rfl
      · cases hi; trivial
      · cases hi; rfl
      · cases hi; simp [blkN,mS_bnd]
      · simp at hi
    simp only [w95L0,w95T1,d1,go_sem,Nat.reduceEqDiff,Nat.reduceAdd,Nat.reduceLT,Nat.reduceLeDiff,reduceIte,reduceCtorEq]
    have e4 : IntKind.i64.wrap ((t : Int) + 1) = ((t + 1 : Nat) : Int) := by rw [wrap64 (by omega) (by omega)]; rfl
    have n2 : ¬ ((t : Int) = ((l.length + 1 : Nat) : Int) ∧ 0 < (t : Int)) := by omega
    have zc : (val (Value.slice none 0 0)).cellsOk = true := rfl
    by_cases htl : t < l.length
    · have d2 : (t : Int) < l.length := by omega
      have gt := mS_hd0 htl
      have lt' := h4 _ (gd_mem' htl)
      have hne : (l.getD t [] == x) = false := beq_eq_false_iff_ne.2 fun e => hni (by rw [← e]; exact gd_mem' htl)
      obtain ⟨z,hz⟩ : ∃ z,l.getD t [] = z := ⟨_,rfl⟩
      rw [hz] at gt lt' hne
      have n1 : ¬ (((t + 1 : Nat) : Int) = ((l.length + 1 : Nat) : Int) ∧ 0 < ((t + 1 : Nat) : Int)) := by omega
      simp only [d2,decide_true,gt,go_sem,Nat.reduceEqDiff,Nat.reduceAdd,Nat.reduceLT,Nat.reduceLeDiff,reduceIte,reduceCtorEq]
      refine ⟨by omega,?_⟩
      refine CallK.pure (liftV (s75 false false false false z x (by omega) (by omega)) (by simp [bndL,AVal.bnd,mI_bnd]) rfl _) ?_
      rw [hne]
      simp only [e4,n1,n2,Int.toNat_natCast,go_sem,Nat.reduceEqDiff,Nat.reduceAdd,Nat.reduceLT,Nat.reduceLeDiff,reduceIte,reduceCtorEq]
      have hic := ins_cells (mS l) (val (Value.slice none 0 0)) (.sl false false (mI x)) mS_length htl
      rw [hic,hM']
      refine ⟨by omega,⟨by omega,by omega⟩,⟨by omega,by omega⟩,⟨⟨?_,fun u hu => allc u (List.mem_of_mem_drop (List.mem_of_mem_take hu))⟩,?_⟩,by omega,?_,?_⟩
      · simp [mS_length]; omega
      · simp [mS_length]; omega
      · simp [mS_length]; omega
      · exact leafK2 _ rfl hok (by simp) rfl (.inr ⟨hni,M,Ml,fin.1,fin.2,by rw [Ml]; rfl,rfl⟩)
    · have d2 : ¬ (t : Int) < l.length := by omega
      have n1 : ((t + 1 : Nat) : Int) = ((l.length + 1 : Nat) : Int) ∧ 0 < ((t + 1 : Nat) : Int) := by omega
      have pos : (0 : Int) < ((l.length + 1 : Nat) : Int) := by omega
      simp only [d2,decide_false,e4,n1,n2,pos,Int.toNat_natCast,go_sem,Nat.reduceEqDiff,Nat.reduceAdd,Nat.reduceLT,Nat.reduceLeDiff,reduceIte,reduceCtorEq]
      have et : t = l.length := by omega
      have hic : List.take t (mS l ++ [val (Value.slice none 0 0)]) ++ [.sl false false (mI x)] ++ List.drop (t + 1) (mS l ++ [val (Value.slice none 0 0)]) = mS M := by
        have q1 : List.drop (t + 1) (mS l ++ [val (Value.slice none 0 0)]) = [] := List.drop_of_length_le (by simp [mS_length]; omega)
        have q2 : List.drop t (mS l) = [] := List.drop_of_length_le (by omega)
        rw [← hM',List.take_append_of_le_length (by omega),q1,q2,List.append_nil]
      rw [hic]
      refine ⟨by omega,⟨by omega,by omega⟩,⟨?_,fun u hu => allc u (List.mem_of_mem_drop (List.mem_of_mem_take hu))⟩,by omega,?_,?_⟩
      · simp [mS_length]; omega
      · simp [mS_length]; omega
      · exact leafK2 _ rfl hok (by simp) rfl (.inr ⟨hni,M,Ml,fin.1,fin.2,by rw [Ml]; rfl,rfl⟩)
theorem s95 (b0 : Blk) (hb0 : blkOk 2 b0 = true) (hbc : ∀ i,i = 0 → blkN (fun _ _ => False) 4 i b0) (hbc2 : blkN (fun _ _ => False) 2 0 b0) (l : List (List Int)) (x : List Int) (n : Nat) (h4 : ∀ y ∈ l,y.length = n) (hx : x.length = n) (hn : n ≤ 4) (hs : l.Pairwise fun a b => Sp.cmpL a b < 0) (hni : x ∉ l) (hl : l.length ≤ 1000) :
    Abs.Spec Try.prog 95 [.own 1 0 l.length l.length 1,.sl false false (mI x)] [b0,.cells (mS l)] fun v H' => ∃ m : List (List Int),m.length = l.length + 1 ∧ m.Pairwise (fun a b => Sp.cmpL a b < 0) ∧ (∀ y,y ∈ m ↔ y ∈ l ∨ y = x) ∧ v = .tup [.own 3 0 m.length m.length 1,B true] ∧ H' = [b0,.dead,.cells [nilSl],.cells (mS m)] :=
  (s95g b0 hb0 hbc hbc2 l x n h4 hx hn hs (by omega)).mono fun v H' h => by
    rcases h with ⟨h,-⟩ | ⟨-,h⟩
    · exact absurd h hni
    · exact h
end Go.Proofs.Ytipfjfmdjmaflaa
