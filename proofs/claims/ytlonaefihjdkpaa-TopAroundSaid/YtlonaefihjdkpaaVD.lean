/- Contracts: a works: its parts,whether it is one,the states of which something holds; Contracts: Reach,Always; a mark that holds. -/
import Derived.Test.YtlonaefihjdkpaaVC
import Derived.Test.YtlonaefihjdkpaaVA
import Derived.Test.YtlonaefihjdkpaaUBA
namespace Go.Proofs.Ytlonaefihjdkpaa
open Go.Abs AVal
set_option linter.unusedSimpArgs false
attribute [local go_sem] W_skip W_keep KQ_canon canon Fr.norm W_seq W_block W_scope W_exit W_ret W_ops W_draw KQ_nil KQ_norm_seq KQ_exit_seq KQ_ret_seq KQ_norm_block KQ_ret_block KQ_exit_block KQ_exit_loop KQ_ret_loop O_nil O_cons S_call S_mv SE_mv SD_mv S_pick SE_pick SD_pick S_bin SE_bin SD_bin S_eqb SE_eqb SD_eqb S_eqv SE_eqv SD_eqv S_eqnil SE_eqnil SD_eqnil S_eqs SE_eqs SD_eqs S_eqp SE_eqp SD_eqp S_slT SE_slT SD_slT S_un SE_un SD_un S_conv SE_conv SD_conv S_mkfn SE_mkfn SD_mkfn S_load SE_load SD_load S_nilck SE_nilck SD_nilck S_slS SE_slS SD_slS S_slP SE_slP SD_slP S_fldA SE_fldA SD_fldA S_fld SE_fld SD_fld S_ixS SE_ixS SD_ixS S_ixP SE_ixP SD_ixP S_ixV SE_ixV SD_ixV S_ixStr SE_ixStr SD_ixStr S_ext SE_ext SD_ext S_len SE_len SD_len S_lenStr SE_lenStr SD_lenStr S_lenc SE_lenc SD_lenc S_mn SE_mn SD_mn S_mx SE_mx SD_mx S_build SE_build SD_build S_alloc SD_alloc S_box SD_box S_bslice SD_bslice S_mksl SD_mksl S_store SD_store S_append SD_append S_copy SD_copy S_clr SD_clr S_mlen SE_mlen SD_mlen S_mget SE_mget SD_mget S_mval SE_mval SD_mval S_mentry SE_mentry SD_mentry S_mkmap SD_mkmap S_mset SD_mset S_mrange SD_mrange S_mnext mlenA mgetA mvalA mentryA msetA mrangeA cells_mp isCell_mp cellsOk_mp aq_some aa_some al_some alA_some aqd_some aad_some ald_some ape_some D_done D_both D_early D_step SE_call SD_call IOpd.ev Fr.get Fr.put Fr.putd entryFr pickA binA binI isSh shI eqbA eqvA ints ints_mI Option.map_some eqnilA eqsA eqpA slTA unA convA loadA nilckA intA slSA slPA fldAA fldVA ixSA ixPA ixVA ixStrA extA lenA lenStrA mnA mxA AVal.fits fillA fillOk buildA opa srcA appA stoA copA clrA rdFree zeros List.length_nil List.length_cons List.length_map List.map_cons List.map_nil Option.map_some Option.map_none if_true if_false ite_true ite_false true_and and_true and_self implies_true forall_const true_implies Bool.false_eq_true Bool.not_true Bool.not_false decide_eq_true_eq decide_eq_false_iff_not eq_self List.getElem?_cons_zero List.getElem?_cons_succ List.getElem?_nil List.set_cons_zero List.set_cons_succ List.nil_append List.cons_append List.append_nil List.replicate_zero List.replicate_succ Nat.zero_add false_implies rng_lt rng_end rng_get cells_I cells_B cells_sl cut_one Int.toNat_natCast Int.natCast_nonneg List.headD_cons Int.lt_irrefl not_false_eq_true decide_false decide_true mI_length mI_cells mI_sz mI_isCell mI_mid mI_append mI_take mI_drop cells_val cells_own cells_agg isCell_I isCell_B isCell_nil isCell_sl isCell_own isCell_ptr isCell_fn isCell_rp isCell_yld cellsOk_I cellsOk_B cellsOk_nil cellsOk_sl cellsOk_own cellsOk_ptr cellsOk_fn cellsOk_rp cellsOk_yld cellsOk_agg cells_nil cells_ptr cells_fn cells_rp List.all_cons List.all_nil Bool.and_true Nat.mul_one Nat.zero_mul Nat.one_mul List.take_zero List.take_nil List.drop_nil List.drop_zero List.not_mem_nil Nat.le_refl Nat.zero_le mS_length mS_cells mS_sz mS_isCell mS_mid mS_append mS_take mS_drop cells_sI isCell_sI cellsOk_sI sI_eq succ_le_self' List.take_succ_cons List.drop_succ_cons List.take_length beq_self_eq_true List.mem_cons or_false forall_eq mI_put mI_rep O_guard' D_earlyG' D_stepG' W_cond' G_tt G_tf G_ft G_ff GE_tt GE_tf GE_ft GE_ff GS_tt GS_tf GS_ft GS_ff G_u GE_u GS_u IC_t IC_f xft xff xtt xtf z00 z20 z22 z02 zz tn0
def minL : List Int → Int
  | [] => 0
  | x :: r => r.foldl (fun a b => if b < a then b else a) x
def maxL : List Int → Int
  | [] => 0
  | x :: r => r.foldl (fun a b => if b > a then b else a) x
theorem fold_min {m : Int} : ∀ (r : List Int) (x : Int),m ≤ x → (∀ y ∈ r,m ≤ y) → m ≤ r.foldl (fun a b => if b < a then b else a) x
  | [],_,h,_ => h
  | y :: r,x,h,hr => by
    rw [List.foldl_cons]
    have := hr y (by simp)
    exact fold_min r _ (by split <;> omega) fun z hz => hr z (by simp [hz])
theorem fold_max {m : Int} : ∀ (r : List Int) (x : Int),x < m → (∀ y ∈ r,y < m) → r.foldl (fun a b => if b > a then b else a) x < m
  | [],_,h,_ => h
  | y :: r,x,h,hr => by
    rw [List.foldl_cons]
    have := hr y (by simp)
    exact fold_max r _ (by split <;> omega) fun z hz => hr z (by simp [hz])
theorem minL_ge {l : List Int} (h1 : 1 ≤ l.length) {m : Int} (h : ∀ x ∈ l,m ≤ x) : m ≤ minL l := by
  cases l with
  | nil => simp at h1
  | cons x r => exact fold_min r x (h x (by simp)) fun y hy => h y (by simp [hy])
theorem maxL_lt {l : List Int} (h1 : 1 ≤ l.length) {m : Int} (h : ∀ x ∈ l,x < m) : maxL l < m := by
  cases l with
  | nil => simp at h1
  | cons x r => exact fold_max r x (h x (by simp)) fun y hy => h y (by simp [hy])
theorem s77 (nn t : Bool) (l : List Int) (h1 : 1 ≤ l.length) (hl : l.length < 9223372036854775807) : Abs.Spec Try.prog 77 [.sl nn t (mI l)] [] fun v H' => H' = [] ∧ v = I (minL l) := by
  refine Abs.Spec.walk mixed fn77 nn77 t77 q77 nt77 (by simp) ?_
  have d0 : decide ((l.length : Int) < 1) = false := decide_eq_false (by omega)
  have l0 : (0 : Int) < l.length := by omega
  obtain ⟨x,hx⟩ : ∃ x,l.getD 0 0 = x := ⟨_,rfl⟩
  have h0 : 0 < l.length := h1
  simp only [w77,d0,l0,mI_get,h0,hx,mI_hd,go_sem,Nat.reduceEqDiff,Nat.reduceAdd,Nat.reduceLT,Nat.reduceLeDiff,reduceIte,reduceCtorEq]
  refine ⟨by omega,?_⟩
  refine W_loop (fun q : { q : Nat × Int // 1 ≤ q.1 ∧ q.1 ≤ l.length ∧ (l.drop q.1).foldl (fun a b => if b < a then b else a) q.2 = minL l } => ([(0,.sl nn t (mI l)),(3,I q.1.2),(4,I q.1.1)],[])) (fun q => l.length - q.1.1) ⟨(1,x),Nat.le_refl _,h1,?_⟩ [] (Wk.nil (by simp [fle,vle,Fr.get,mI_bnd])) ?_
  · cases l with
    | nil => simp at h1
    | cons y r => rw [← hx]; rfl
  rintro ⟨⟨i,m⟩,hi1,hi,hm⟩
  dsimp only at hi1 hi hm ⊢
  by_cases hil : i < l.length
  · have d1 : (i : Int) < l.length := by omega
    have hwk : IntKind.i64.wrap ((i : Int) + 1) = ((i + 1 : Nat) : Int) := by rw [wrap64 (by omega) (by omega)]; rfl
    obtain ⟨y,hy⟩ : ∃ y,l.getD i 0 = y := ⟨_,rfl⟩
    have hy' : l[i] = y := by rw [← hy,List.getD_eq_getElem?_getD,List.getElem?_eq_getElem hil]; rfl
    rw [List.drop_eq_getElem_cons hil,hy',List.foldl_cons] at hm
    simp only [w77L0,d1,decide_true,mI_get,hil,hy,mI_hd,hwk,go_sem,Nat.reduceEqDiff,Nat.reduceAdd,Nat.reduceLT,Nat.reduceLeDiff,reduceIte,reduceCtorEq]
    exact round0 rfl ⟨(i + 1,if y < m then y else m),by dsimp only; omega,hil,hm⟩ (by dsimp only; omega) rfl (by simp [fle,vle,Fr.get,mI_bnd])
  · have d1 : ¬ (i : Int) < l.length := by omega
    obtain rfl : i = l.length := by omega
    rw [List.drop_length] at hm
    simp only [w77L0,d1,decide_false,w77T1,go_sem,Nat.reduceEqDiff,Nat.reduceAdd,Nat.reduceLT,Nat.reduceLeDiff,reduceIte,reduceCtorEq]
    exact leaf (I _) rfl ⟨rfl,by rw [← hm]; rfl⟩
theorem s78 (nn t : Bool) (l : List Int) (h1 : 1 ≤ l.length) (hl : l.length < 9223372036854775807) : Abs.Spec Try.prog 78 [.sl nn t (mI l)] [] fun v H' => H' = [] ∧ v = I (maxL l) := by
  refine Abs.Spec.walk mixed fn78 nn78 t78 q78 nt78 (by simp) ?_
  have d0 : decide ((l.length : Int) < 1) = false := decide_eq_false (by omega)
  have l0 : (0 : Int) < l.length := by omega
  obtain ⟨x,hx⟩ : ∃ x,l.getD 0 0 = x := ⟨_,rfl⟩
  have h0 : 0 < l.length := h1
  simp only [w78,d0,l0,mI_get,h0,hx,mI_hd,go_sem,Nat.reduceEqDiff,Nat.reduceAdd,Nat.reduceLT,Nat.reduceLeDiff,reduceIte,reduceCtorEq]
  refine ⟨by omega,?_⟩
  refine W_loop (fun q : { q : Nat × Int // 1 ≤ q.1 ∧ q.1 ≤ l.length ∧ (l.drop q.1).foldl (fun a b => if b > a then b else a) q.2 = maxL l } => ([(0,.sl nn t (mI l)),(3,I q.1.2),(4,I q.1.1)],[])) (fun q => l.length - q.1.1) ⟨(1,x),Nat.le_refl _,h1,?_⟩ [] (Wk.nil (by simp [fle,vle,Fr.get,mI_bnd])) ?_
  · cases l with
    | nil => simp at h1
    | cons y r => rw [← hx]; rfl
  rintro ⟨⟨i,m⟩,hi1,hi,hm⟩
  dsimp only at hi1 hi hm ⊢
  by_cases hil : i < l.length
  · have d1 : (i : Int) < l.length := by omega
    have hwk : IntKind.i64.wrap ((i : Int) + 1) = ((i + 1 : Nat) : Int) := by rw [wrap64 (by omega) (by omega)]; rfl
    obtain ⟨y,hy⟩ : ∃ y,l.getD i 0 = y := ⟨_,rfl⟩
    have hy' : l[i] = y := by rw [← hy,List.getD_eq_getElem?_getD,List.getElem?_eq_getElem hil]; rfl
    rw [List.drop_eq_getElem_cons hil,hy',List.foldl_cons] at hm
    simp only [w78L0,d1,decide_true,mI_get,hil,hy,mI_hd,hwk,go_sem,Nat.reduceEqDiff,Nat.reduceAdd,Nat.reduceLT,Nat.reduceLeDiff,reduceIte,reduceCtorEq]
    exact round0 rfl ⟨(i + 1,if y > m then y else m),by dsimp only; omega,hil,hm⟩ (by dsimp only; omega) rfl (by simp [fle,vle,Fr.get,mI_bnd])
  · have d1 : ¬ (i : Int) < l.length := by omega
    obtain rfl : i = l.length := by omega
    rw [List.drop_length] at hm
    simp only [w78L0,d1,decide_false,w78T1,go_sem,Nat.reduceEqDiff,Nat.reduceAdd,Nat.reduceLT,Nat.reduceLeDiff,reduceIte,reduceCtorEq]
    exact leaf (I _) rfl ⟨rfl,by rw [← hm]; rfl⟩
def wks (N M : List Int) : AVal := .agg [.sl false false (mI N),.sl false false (mI M)]
structure Works (N M : List Int) : Prop where
  n1 : 1 ≤ N.length
  n6 : N.length ≤ 6
  ml : M.length = N.length
  nx : ∀ x ∈ N,0 ≤ x ∧ x < (2 ^ N.length : Nat)
  mr : ∀ x ∈ M,0 ≤ x ∧ x < 16
set_option maxRecDepth 20000 in
theorem s48 {N M : List Int} (h : Works N M) : Abs.Spec Try.prog 48 [wks N M] [] fun v H' => H' = [] ∧ v = B true := by
  refine Abs.Spec.walk mixed fn48 nn48 t48 q48 nt48 (by simp) ?_
  have n1 := h.n1
  have n6 := h.n6
  have d1 : decide ((N.length : Int) ≥ 1) = true := decide_eq_true (by omega)
  have d6 : decide ((N.length : Int) ≤ 6) = true := decide_eq_true (by omega)
  have dm : ((M.length : Int) == N.length) = true := by rw [h.ml]; exact beq_self_eq_true _
  obtain ⟨p1,p2,p3⟩ := two_pow6 n6
  have e1 : decide (minL N ≥ 0) = true := decide_eq_true (minL_ge n1 fun x hx => (h.nx x hx).1)
  have e2 : decide (maxL N < ((2 ^ N.length : Nat) : Int)) = true := decide_eq_true (maxL_lt n1 fun x hx => (h.nx x hx).2)
  have e3 : decide (minL M ≥ 0) = true := decide_eq_true (minL_ge (by rw [h.ml]; exact n1) fun x hx => (h.mr x hx).1)
  have e4 : decide (maxL M < 16) = true := decide_eq_true (maxL_lt (by rw [h.ml]; exact n1) fun x hx => (h.mr x hx).2)
  have e77 : ∀ l : List Int,1 ≤ l.length → l.length ≤ 6 → ∀ H,CallV Try.prog (.fn (.func 77) [] []) [.sl false false (mI l)] H fun v H' => v = I (minL l) ∧ H' = H := fun l h1 h2 H => liftV (s77 false false l h1 (by omega)) (by simp [bndL,AVal.bnd,mI_bnd]) rfl H
  have e78 : ∀ l : List Int,1 ≤ l.length → l.length ≤ 6 → ∀ H,CallV Try.prog (.fn (.func 78) [] []) [.sl false false (mI l)] H fun v H' => v = I (maxL l) ∧ H' = H := fun l h1 h2 H => liftV (s78 false false l h1 (by omega)) (by simp [bndL,AVal.bnd,mI_bnd]) rfl H
  have ml := h.ml
  simp only [w48,wks,d1,d6,dm,go_sem,Nat.reduceEqDiff,Nat.reduceAdd,Nat.reduceLT,Nat.reduceLeDiff,reduceIte,reduceCtorEq]
  refine CallKD.pure (e77 N n1 n6) ?_
  simp only [e1,go_sem,Nat.reduceEqDiff,Nat.reduceAdd,Nat.reduceLT,Nat.reduceLeDiff,reduceIte,reduceCtorEq]
  refine ⟨by simp,CallKD.pure (e78 N n1 n6) ?_⟩
  simp only [p3,e2,go_sem,Nat.reduceEqDiff,Nat.reduceAdd,Nat.reduceLT,Nat.reduceLeDiff,reduceIte,reduceCtorEq]
  refine CallKD.pure (e77 M (by omega) (by omega)) ?_
  simp only [e3,go_sem,Nat.reduceEqDiff,Nat.reduceAdd,Nat.reduceLT,Nat.reduceLeDiff,reduceIte,reduceCtorEq]
  refine CallKD.pure (e78 M (by omega) (by omega)) ?_
  simp only [e4,go_sem,Nat.reduceEqDiff,Nat.reduceAdd,Nat.reduceLT,Nat.reduceLeDiff,reduceIte,reduceCtorEq]
  exact leaf (B true) rfl ⟨rfl,rfl⟩
theorem s49 {N M : List Int} (h : Works N M) : Abs.Spec Try.prog 49 [wks N M] [] fun v H' => H' = [] ∧ v = I ((2 ^ N.length : Nat) - 1) := by
  refine Abs.Spec.walk mixed fn49 nn49 t49 q49 nt49 (by simp) ?_
  have n6 := h.n6
  obtain ⟨p1,p2,p3⟩ := two_pow6 n6
  have hw : IntKind.i64.wrap (((2 ^ N.length : Nat) : Int) - 1) = ((2 ^ N.length : Nat) : Int) - 1 := wrap64 (by omega) (by omega)
  simp only [w49,wks,p3,hw,go_sem,Nat.reduceEqDiff,Nat.reduceAdd,Nat.reduceLT,Nat.reduceLeDiff,reduceIte,reduceCtorEq]
  exact leaf (I _) rfl ⟨rfl,rfl⟩
theorem wks_bnd (N M : List Int) : (wks N M).bnd 0 = true := by simp [wks,AVal.bnd,bndL,mI_bnd]
theorem s22 {N M : List Int} (h : Works N M) (set : Int) (h0 : 0 ≤ set) (h1 : set < (2 ^ N.length : Nat)) : Abs.Spec Try.prog 22 [wks N M,I set] [] fun v H' => H' = [] ∧ v = B true := by
  refine Abs.Spec.walk mixed fn22 nn22 t22 q22 nt22 (by simp) ?_
  have d0 : decide (set ≥ 0) = true := decide_eq_true h0
  have d1 : decide (set ≤ ((2 ^ N.length : Nat) : Int) - 1) = true := decide_eq_true (by omega)
  have ew : AVal.agg [.sl false false (mI N),.sl false false (mI M)] = wks N M := rfl
  have e48 := fun H => liftV (s48 h) (by simp [bndL,wks_bnd]) rfl H
  have e49 := fun H => liftV (s49 h) (by simp [bndL,wks_bnd]) rfl H
  rw [wks] at e48 e49
  simp only [w22,wks,go_sem,Nat.reduceEqDiff,Nat.reduceAdd,Nat.reduceLT,Nat.reduceLeDiff,reduceIte,reduceCtorEq]
  refine CallK.pure (e48 _) ?_
  simp only [d0,go_sem,Nat.reduceEqDiff,Nat.reduceAdd,Nat.reduceLT,Nat.reduceLeDiff,reduceIte,reduceCtorEq]
  refine CallK.pure (e49 _) ?_
  simp only [d1,go_sem,Nat.reduceEqDiff,Nat.reduceAdd,Nat.reduceLT,Nat.reduceLeDiff,reduceIte,reduceCtorEq]
  exact leaf (B true) rfl ⟨rfl,rfl⟩
def whereP (p : Nat → Bool) : Nat → Int
  | 0 => 0
  | n + 1 => if p n then Sp.orI (whereP p n) (Sp.shl1 n) else whereP p n
theorem s23 (N M : List Int) (fv : AVal) (p : Nat → Bool) (n6 : N.length ≤ 6) (hf : ∀ i : Nat,i < N.length → ∀ H,CallV Try.prog fv [I i] H fun v H' => v = B (p i) ∧ H' = H) (hv : ∀ H,vle H [] [] 3 fv fv) : Abs.Spec Try.prog 23 [wks N M,fv] [] fun v H' => H' = [] ∧ v = I (whereP p N.length) := by
  refine Abs.Spec.walk mixed fn23 nn23 t23 q23 nt23 (by simp) ?_
  simp only [w23,wks,go_sem,Nat.reduceEqDiff,Nat.reduceAdd,Nat.reduceLT,Nat.reduceLeDiff,reduceIte,reduceCtorEq]
  refine W_loop (fun q : { i : Nat // i ≤ N.length } => ([(1,fv),(5,I (whereP p q.1)),(9,I N.length),(10,I q.1)],[])) (fun q => N.length - q.1) ⟨0,by omega⟩ [] (Wk.nil (by simp [fle,vle,Fr.get,hv,whereP])) ?_
  rintro ⟨i,hi⟩
  dsimp only
  by_cases hil : i < N.length
  · have d1 : (i : Int) < N.length := by omega
    have hwk : IntKind.i64.wrap ((i : Int) + 1) = ((i + 1 : Nat) : Int) := by rw [wrap64 (by omega) (by omega)]; rfl
    simp only [w23L0,d1,decide_true,go_sem,Nat.reduceEqDiff,Nat.reduceAdd,Nat.reduceLT,Nat.reduceLeDiff,reduceIte,reduceCtorEq]
    refine CallK.pure (hf i hil _) ?_
    cases hp : p i with
    | false =>
      simp only [hwk,go_sem,Nat.reduceEqDiff,Nat.reduceAdd,Nat.reduceLT,Nat.reduceLeDiff,reduceIte,reduceCtorEq]
      exact round0 rfl ⟨i + 1,hil⟩ (by dsimp only; omega) rfl (by simp [fle,vle,Fr.get,hv,whereP,hp])
    | true =>
      simp only [hwk,go_sem,Nat.reduceEqDiff,Nat.reduceAdd,Nat.reduceLT,Nat.reduceLeDiff,reduceIte,reduceCtorEq]
      exact round0 rfl ⟨i + 1,hil⟩ (by dsimp only; omega) rfl (by simp [fle,vle,Fr.get,hv,whereP,hp,Sp.orI,Sp.shl1,IntKind.bits])
  · have d1 : ¬ (i : Int) < N.length := by omega
    obtain rfl : i = N.length := by omega
    simp only [w23L0,d1,decide_false,w23T1,go_sem,Nat.reduceEqDiff,Nat.reduceAdd,Nat.reduceLT,Nat.reduceLeDiff,reduceIte,reduceCtorEq]
    exact leaf (I _) rfl ⟨rfl,rfl⟩
def into (N : List Int) (set : Int) (i : Nat) : Bool := and2 (N.getD i 0) set != 0
theorem s27 (N M : List Int) (set : Int) (i : Nat) (hi : i < N.length) : Abs.Spec Try.prog 27 [I i,.rp [.sl false false (mI N),.sl false false (mI M)],.rp [I set]] [] fun v H' => H' = [] ∧ v = B (into N set i) := by
  refine Abs.Spec.walk mixed fn27 nn27 t27 q27 nt27 (by simp) ?_
  have d : (i : Int) < N.length := by omega
  simp only [w27,mI_get,hi,mI_hd,d,go_sem,Nat.reduceEqDiff,Nat.reduceAdd,Nat.reduceLT,Nat.reduceLeDiff,reduceIte,reduceCtorEq]
  exact leaf (B _) rfl ⟨rfl,rfl⟩
open Go.Abs AVal
def fnIn (f : Nat) (N M : List Int) (set : Int) : AVal := .fn (.func f) [] [.rp [.sl false false (mI N),.sl false false (mI M)],.rp [I set]]
theorem s23in {f : Nat} {N M : List Int} {set : Int} (n6 : N.length ≤ 6) (hf : ∀ i : Nat,i < N.length → Abs.Spec Try.prog f [I i,.rp [.sl false false (mI N),.sl false false (mI M)],.rp [I set]] [] fun v H' => H' = [] ∧ v = B (into N set i)) :
    Abs.Spec Try.prog 23 [wks N M,fnIn f N M set] [] fun v H' => H' = [] ∧ v = I (whereP (into N set) N.length) :=
  s23 N M _ _ n6 (fun i hi H => CallV.of_spec (first := []) (cap := [.rp [.sl false false (mI N),.sl false false (mI M)],.rp [I set]]) (Spec.lift (hf i hi) (by simp [bndL,AVal.bnd,mI_bnd]) rfl H)) (fun H => by simp [fnIn,vle,vle.vleL,bndL,AVal.bnd,mI_bnd])
theorem lendIn {f : Nat} {N M : List Int} {set : Int} {H : AHeap} (h0 : H[0]? = some (.cells [.sl false false (mI N),.sl false false (mI M)])) (h1 : H[1]? = some (.cells [I set])) :
    vle.vleL H [] [] 3 [.agg [.sl false false (mI N),.sl false false (mI M)],.fn (.func f) [] [.ptr 0 0,.ptr 1 0]] [wks N M,fnIn f N M set] := by
  simp [wks,fnIn,vle,vle.vleL,bndL,AVal.bnd,mI_bnd,h0,h1]
def alwaysK (N : List Int) : Nat → Int → Int
  | 0,s => s
  | k + 1,s => alwaysK N k (and2 s (whereP (into N s) N.length))
theorem s13 {N M : List Int} (h : Works N M) (set : Int) (h0 : 0 ≤ set) (h1 : set < (2 ^ N.length : Nat)) : Abs.Spec Try.prog 13 [wks N M,I set] [] fun v H' => H' = [] ∧ v = .tup [I (alwaysK N N.length set),I 0] := by
  have n6 := h.n6
  refine Abs.Spec.walk mixed fn13 nn13 t13 q13 nt13 (by simp) ?_
  have e22 := fun H => liftV (s22 h set h0 h1) (by simp [bndL,AVal.bnd,wks_bnd]) rfl H
  rw [wks] at e22
  have hc : cut true 2 [.sl false false (mI N),.sl false false (mI M)] = .agg [.sl false false (mI N),.sl false false (mI M)] := rfl
  simp only [w13,wks,hc,go_sem,Nat.reduceEqDiff,Nat.reduceAdd,Nat.reduceLT,Nat.reduceLeDiff,reduceIte,reduceCtorEq]
  refine CallK.pure (e22 _) ?_
  simp only [go_sem,Nat.reduceEqDiff,Nat.reduceAdd,Nat.reduceLT,Nat.reduceLeDiff,reduceIte,reduceCtorEq]
  refine W_loop (fun q : { q : Nat × Int // q.1 ≤ N.length ∧ alwaysK N (N.length - q.1) q.2 = alwaysK N N.length set } => ([(2,.ptr 0 0),(3,.ptr 1 0),(12,I N.length),(13,I q.1.1)],[.cells [.sl false false (mI N),.sl false false (mI M)],.cells [I q.1.2]])) (fun q => N.length - q.1.1) ⟨(0,set),by simp,rfl⟩ [some 0,some 1] (Wk.mk0 rfl (by simp [imgs,Blk.alive]) (by simp [hle,csle,bndL,AVal.bnd,mI_bnd]) (by simp [fle,vle,Fr.get])) ?_
  rintro ⟨⟨i,s⟩,hi,hinv⟩
  dsimp only at hi hinv ⊢
  by_cases hil : i < N.length
  · have d1 : (i : Int) < N.length := by omega
    have hwk : IntKind.i64.wrap ((i : Int) + 1) = ((i + 1 : Nat) : Int) := by rw [wrap64 (by omega) (by omega)]; rfl
    rw [show N.length - i = (N.length - (i + 1)) + 1 by omega,alwaysK] at hinv
    simp only [w13L0,d1,decide_true,hc,go_sem,Nat.reduceEqDiff,Nat.reduceAdd,Nat.reduceLT,Nat.reduceLeDiff,reduceIte,reduceCtorEq]
    refine ⟨by simp,CallKD.fills (by omega) (fun H' hf => CallV.of_spec (first := []) (cap := []) (Spec.lend (s23in n6 fun i hi => s27 N M s i hi) rfl (lendIn (hf 0 _ rfl (by simp)) (hf 1 _ rfl (by simp))))) ?_⟩
    simp only [hwk,go_sem,Nat.reduceEqDiff,Nat.reduceAdd,Nat.reduceLT,Nat.reduceLeDiff,reduceIte,reduceCtorEq]
    exact round1 rfl ⟨(i + 1,and2 s (whereP (into N s) N.length)),hil,hinv⟩ [some 0,some 1] (by dsimp only; omega) (Wk.mk0 rfl (by simp [imgs,Blk.alive]) (by simp [hle,csle,bndL,AVal.bnd,mI_bnd,and2]) (by simp [fle,vle,Fr.get]))
  · have d1 : ¬ (i : Int) < N.length := by omega
    obtain rfl : i = N.length := by omega
    rw [Nat.sub_self,alwaysK] at hinv
    simp only [w13L0,d1,decide_false,w13T1,go_sem,Nat.reduceEqDiff,Nat.reduceAdd,Nat.reduceLT,Nat.reduceLeDiff,reduceIte,reduceCtorEq]
    exact leaf2 (.tup [I s,I 0]) ⟨rfl,rfl,trivial⟩ ⟨rfl,by rw [← hinv]⟩
/-! A formula of one mark. -/
def S0 : AVal := .val (.string ⟨#[48]⟩)
def Se : AVal := .val (.string ⟨#[]⟩)
def F0 : List AVal := [.val (.int .u8 48),I 0,.val (.int .u8 0),nilSl]
theorem b_ne : ((⟨#[48]⟩ : ByteArray).toList == (⟨#[]⟩ : ByteArray).toList) = false := by decide +kernel
theorem b_eq : ((⟨#[]⟩ : ByteArray).toList == (⟨#[]⟩ : ByteArray).toList) = true := beq_self_eq_true _
theorem b_sz : (⟨#[48]⟩ : ByteArray).size = 1 := rfl
theorem b_get : ((⟨#[48]⟩ : ByteArray).get! 0).toNat = 48 := rfl
theorem b_cut : (⟨#[48]⟩ : ByteArray).extract 1 1 = ⟨#[]⟩ := rfl
theorem s120 : Abs.Spec Try.prog 120 [.val (.int .u8 48)] [] fun v H' => H' = [] ∧ v = B true := by
  refine Abs.Spec.walk mixed fn120 nn120 t120 q120 nt120 (by simp) ?_
  have d1 : decide ((48 : Int) ≥ 48) = true := rfl
  have d2 : decide ((48 : Int) ≤ 51) = true := rfl
  simp only [w120,d1,d2,go_sem,Nat.reduceEqDiff,Nat.reduceAdd,Nat.reduceLT,Nat.reduceLeDiff,reduceIte,reduceCtorEq]
  exact leaf (B true) rfl ⟨rfl,rfl⟩
theorem leafW {B t : Nat} {e : Ex} {fr : Fr} {H : AHeap} {R : AVal → AHeap → Prop} (v : AVal) (H2 : AHeap) (ρ : List (Option Nat)) (hw : Wk B [] ρ [(0,fr.get t)] H [(0,v)] H2) (hR : R v H2) (he : e = .norm ∨ e = .ret := by simp) : retA B [.tmp t] R e fr H [] :=
  ⟨he,by simp only [killM,resL,resA]; exact ⟨⟨trivial,trivial⟩,ρ,v,H2,hw,hR⟩⟩
theorem s119 : Abs.Spec Try.prog 119 [.ptr 0 0] [.cells [S0,Se]] fun v H' => v = .val (.int .u8 48) ∧ H' = [.cells [Se,Se]] := by
  refine Abs.Spec.walk mixed fn119 nn119 t119 q119 nt119 (by simp) ?_
  have tn1 : Int.toNat 1 = 1 := rfl
  have tc : ((1 : Nat) : Int).toNat = 1 := rfl
  simp only [w119,S0,Se,b_ne,b_sz,tn1,tn0,b_get,b_cut,tc,go_sem,Nat.reduceEqDiff,Nat.reduceAdd,Nat.reduceLT,Nat.reduceLeDiff,reduceIte,reduceCtorEq]
  refine ⟨by simp,by simp,rfl,?_⟩
  exact leafW (.val (.int .u8 48)) [.cells [Se,Se]] [some 0] ⟨rfl,fun i hi => by (obtain rfl : i = 0 := by omega); rfl,by simp [imgs,Blk.alive],by simp [hle,csle,bndL,AVal.bnd,Se],by simp [fle,vle,Fr.get],fun m hm => by cases hm⟩ ⟨rfl,rfl⟩
theorem w00 : IntKind.i64.wrap (IntKind.u8.wrap 0) = 0 := by decide
theorem s97 : Abs.Spec Try.prog 97 [.ptr 0 0] [.cells [S0,Se]] fun v H' => v = .ptr 1 0 ∧ H' = [.cells [Se,Se],.cells F0] := by
  refine Abs.Spec.walk mixed fn97 nn97 t97 q97 nt97 (by simp) ?_
  simp only [w97,go_sem,Nat.reduceEqDiff,Nat.reduceAdd,Nat.reduceLT,Nat.reduceLeDiff,reduceIte,reduceCtorEq]
  refine CallK.by (CallV.of_spec (first := []) (cap := []) s119) ?_
  rintro _ _ ⟨rfl,rfl⟩
  simp only [go_sem,Nat.reduceEqDiff,Nat.reduceAdd,Nat.reduceLT,Nat.reduceLeDiff,reduceIte,reduceCtorEq]
  refine CallK.pure (liftV s120 rfl rfl _) ?_
  simp only [go_sem,Nat.reduceEqDiff,Nat.reduceAdd,Nat.reduceLT,Nat.reduceLeDiff,reduceIte,reduceCtorEq]
  refine ⟨rfl,rfl,?_⟩
  exact leafW (.ptr 1 0) [.cells [Se,Se],.cells F0] [some 0,some 1] ⟨rfl,fun i hi => by (obtain rfl : i = 0 := by omega); rfl,by simp [imgs,Blk.alive],by simp [hle,csle,bndL,AVal.bnd,Se,F0,vle,vle.vleL,w00],by simp [fle,vle,Fr.get],fun m hm => by cases hm⟩ ⟨rfl,rfl⟩
theorem s71 : Abs.Spec Try.prog 71 [S0,I 40] [] fun v H' => v = .ptr 0 0 ∧ H' = [.cells F0] := by
  refine Abs.Spec.walk mixed fn71 nn71 t71 q71 nt71 (by simp) ?_
  have e97 := s97
  rw [S0,Se] at e97
  have d1 : decide (((1 : Nat) : Int) > 40) = false := rfl
  simp only [w71,S0,b_sz,d1,go_sem,Nat.reduceEqDiff,Nat.reduceAdd,Nat.reduceLT,Nat.reduceLeDiff,reduceIte,reduceCtorEq]
  refine ⟨rfl,rfl,CallK.by (CallV.of_spec (first := []) (cap := []) e97) ?_⟩
  rintro _ _ ⟨rfl,rfl⟩
  simp only [Se,b_eq,go_sem,Nat.reduceEqDiff,Nat.reduceAdd,Nat.reduceLT,Nat.reduceLeDiff,reduceIte,reduceCtorEq]
  refine leafO (.ptr 0 0) [.cells F0] [some 1] (Wk.mk0 rfl (by simp [imgs,Blk.alive]) (by simp [hle,csle,bndL,AVal.bnd,F0,vle,vle.vleL]) (by simp [fle,vle,Fr.get])) ⟨rfl,rfl⟩
theorem s46 {N M : List Int} (h : Works N M) : Abs.Spec Try.prog 46 [wks N M,S0] [] fun v H' => H' = [] ∧ v = .tup [.rp F0,I 0] := by
  refine Abs.Spec.walk mixed fn46 nn46 t46 q46 nt46 (by simp) ?_
  have e48 := fun H => liftV (s48 h) (by simp [bndL,wks_bnd]) rfl H
  rw [wks] at e48
  have hc : cut true 2 [.sl false false (mI N),.sl false false (mI M)] = .agg [.sl false false (mI N),.sl false false (mI M)] := rfl
  simp only [w46,wks,hc,go_sem,Nat.reduceEqDiff,Nat.reduceAdd,Nat.reduceLT,Nat.reduceLeDiff,reduceIte,reduceCtorEq]
  refine CallK.pure (e48 _) ?_
  simp only [go_sem,Nat.reduceEqDiff,Nat.reduceAdd,Nat.reduceLT,Nat.reduceLeDiff,reduceIte,reduceCtorEq]
  refine W_view [] [(1,S0),(4,.val (.pointer none)),(5,I 0)] [] ?_ ?_
  · exact Wk.mk0 rfl (by simp [imgs,Blk.alive]) (by simp [hle]) (by simp [fle,vle,Fr.get,S0,AVal.bnd])
  simp only [go_sem,Nat.reduceEqDiff,Nat.reduceAdd,Nat.reduceLT,Nat.reduceLeDiff,reduceIte,reduceCtorEq]
  refine CallK.by (CallV.of_spec (first := []) (cap := []) s71) ?_
  rintro _ _ ⟨rfl,rfl⟩
  simp only [go_sem,Nat.reduceEqDiff,Nat.reduceAdd,Nat.reduceLT,Nat.reduceLeDiff,reduceIte,reduceCtorEq]
  exact leaf2 (.tup [.rp F0,I 0]) (by simp [vle,vle.vleL,bndL,AVal.bnd,F0,Fr.get]) ⟨rfl,rfl⟩
theorem s72 (N M : List Int) (i : Nat) (hi : i < M.length) : Abs.Spec Try.prog 72 [I i,.rp [.sl false false (mI N),.sl false false (mI M)],.rp [.rp F0]] [] fun v H' => H' = [] ∧ v = B (Sp.bitAt (M.getD i 0) 0 == 1) := by
  refine Abs.Spec.walk mixed fn72 nn72 t72 q72 nt72 (by simp) ?_
  have d : (i : Int) < M.length := by omega
  simp only [w72,F0,mI_get,hi,mI_hd,d,go_sem,Nat.reduceEqDiff,Nat.reduceAdd,Nat.reduceLT,Nat.reduceLeDiff,reduceIte,reduceCtorEq]
  exact ⟨by simp,leaf (B (Sp.bitAt (M.getD i 0) 0 == 1)) rfl ⟨rfl,rfl⟩⟩
theorem s47 {N M : List Int} (h : Works N M) : Abs.Spec Try.prog 47 [wks N M,.rp F0,.any] [] fun v H' => H' = [] ∧ v = I (whereP (fun i => Sp.bitAt (M.getD i 0) 0 == 1) N.length) := by
  refine Abs.Spec.walk mixed fn47 nn47 t47 q47 nt47 (by simp) ?_
  have hc : cut true 2 [.sl false false (mI N),.sl false false (mI M)] = .agg [.sl false false (mI N),.sl false false (mI M)] := rfl
  have e23 := s23 N M (.fn (.func 72) [] [.rp [.sl false false (mI N),.sl false false (mI M)],.rp [.rp F0]]) (fun i => Sp.bitAt (M.getD i 0) 0 == 1) h.n6 (fun i hi H => CallV.of_spec (first := []) (cap := [.rp [.sl false false (mI N),.sl false false (mI M)],.rp [.rp F0]]) (Spec.lift (s72 N M i (by rw [h.ml]; exact hi)) (by simp [bndL,AVal.bnd,mI_bnd,F0]) rfl H)) (fun H => by simp [vle,vle.vleL,bndL,AVal.bnd,mI_bnd,F0])
  simp only [w47,wks,hc,F0,go_sem,Nat.reduceEqDiff,Nat.reduceAdd,Nat.reduceLT,Nat.reduceLeDiff,reduceIte,reduceCtorEq]
  refine CallK.pure (CallV.of_spec (first := []) (cap := []) (Spec.lend e23 rfl ?_)) ?_
  · simp [wks,vle,vle.vleL,bndL,AVal.bnd,mI_bnd,F0]
  simp only [go_sem,Nat.reduceEqDiff,Nat.reduceAdd,Nat.reduceLT,Nat.reduceLeDiff,reduceIte,reduceCtorEq]
  exact leaf (I _) rfl ⟨rfl,rfl⟩
theorem s21 : Abs.Spec Try.prog 21 [wks [2,1] [0,1],S0] [] fun v H' => H' = [] ∧ v = .tup [I 2,I 0] := by
  have hw : Works [2,1] [0,1] := ⟨by simp,by simp,rfl,by simp,by simp⟩
  have hv : whereP (fun i => Sp.bitAt ([0,1].getD i 0) 0 == 1) [(2 : Int),1].length = 2 := by decide +kernel
  refine Abs.Spec.walk mixed fn21 nn21 t21 q21 nt21 (by simp) ?_
  have e46 := fun H => liftV (s46 hw) (by simp [bndL,wks_bnd,S0,AVal.bnd]) (by simp [AVal.bnd,bndL,F0]) H
  have e47 := s47 hw
  rw [hv] at e47
  rw [wks] at e46
  have hc : cut true 2 [.sl false false (mI [2,1]),.sl false false (mI [0,1])] = .agg [.sl false false (mI [2,1]),.sl false false (mI [0,1])] := rfl
  simp only [w21,wks,hc,go_sem,Nat.reduceEqDiff,Nat.reduceAdd,Nat.reduceLT,Nat.reduceLeDiff,reduceIte,reduceCtorEq]
  refine CallK.pure (e46 _) ?_
  simp only [List.getD_cons_zero,List.getD_cons_succ,go_sem,Nat.reduceEqDiff,Nat.reduceAdd,Nat.reduceLT,Nat.reduceLeDiff,reduceIte,reduceCtorEq]
  refine CallK.pure (CallV.of_spec (first := []) (cap := []) (Spec.lend e47 rfl ?_)) ?_
  · simp [hc,wks,vle,vle.vleL,bndL,AVal.bnd,mI_bnd,F0]
  simp only [go_sem,Nat.reduceEqDiff,Nat.reduceAdd,Nat.reduceLT,Nat.reduceLeDiff,reduceIte,reduceCtorEq]
  exact leaf2 (.tup [I 2,I 0]) ⟨rfl,rfl,trivial⟩ ⟨rfl,rfl⟩
theorem s9 : Abs.Spec Try.prog 9 [] [] fun v H' => H' = [] ∧ v = B true := by
  refine Abs.Spec.walk mixed fn9 nn9 t9 q9 nt9 (by simp) ?_
  simp only [w9,go_sem,Nat.reduceEqDiff,Nat.reduceAdd,Nat.reduceLT,Nat.reduceLeDiff,reduceIte,reduceCtorEq]
  refine CallK.pure (CallV.of_spec (first := []) (cap := []) (Spec.lend s21 rfl ?_)) ?_
  · simp [wks,S0,vle,vle.vleL,bndL,AVal.bnd,mI]
    exact ⟨⟨of_eq_true (mI_sz (xs := [2,1])),rfl⟩,of_eq_true (mI_sz (xs := [0,1])),rfl⟩
  simp only [List.getD_cons_zero,List.getD_cons_succ,go_sem,Nat.reduceEqDiff,Nat.reduceAdd,Nat.reduceLT,Nat.reduceLeDiff,reduceIte,reduceCtorEq]
  exact leaf (B true) rfl ⟨rfl,rfl⟩
end Go.Proofs.Ytlonaefihjdkpaa
