/- Contracts: packets of cards that are equally often: sums,powers,fractions; Contracts: the chance that just all kinds came. -/
import Derived.Test.YtlonaefihjdkpaaWA
import Derived.Test.YtlonaefihjdkpaaSP
import Derived.Test.YtlonaefihjdkpaaAN
namespace Go.Proofs.Ytlonaefihjdkpaa
open Go.Abs AVal
set_option linter.unusedSimpArgs false
attribute [local go_sem] W_skip W_keep KQ_canon canon Fr.norm W_seq W_block W_scope W_exit W_ret W_ops W_draw KQ_nil KQ_norm_seq KQ_exit_seq KQ_ret_seq KQ_norm_block KQ_ret_block KQ_exit_block KQ_exit_loop KQ_ret_loop O_nil O_cons S_call S_mv SE_mv SD_mv S_pick SE_pick SD_pick S_bin SE_bin SD_bin S_eqb SE_eqb SD_eqb S_eqv SE_eqv SD_eqv S_eqnil SE_eqnil SD_eqnil S_eqs SE_eqs SD_eqs S_eqp SE_eqp SD_eqp S_slT SE_slT SD_slT S_un SE_un SD_un S_conv SE_conv SD_conv S_mkfn SE_mkfn SD_mkfn S_load SE_load SD_load S_nilck SE_nilck SD_nilck S_slS SE_slS SD_slS S_slP SE_slP SD_slP S_fldA SE_fldA SD_fldA S_fld SE_fld SD_fld S_ixS SE_ixS SD_ixS S_ixP SE_ixP SD_ixP S_ixV SE_ixV SD_ixV S_ixStr SE_ixStr SD_ixStr S_ext SE_ext SD_ext S_len SE_len SD_len S_lenStr SE_lenStr SD_lenStr S_lenc SE_lenc SD_lenc S_mn SE_mn SD_mn S_mx SE_mx SD_mx S_build SE_build SD_build S_alloc SD_alloc S_box SD_box S_bslice SD_bslice S_mksl SD_mksl S_store SD_store S_append SD_append S_copy SD_copy S_clr SD_clr S_mlen SE_mlen SD_mlen S_mget SE_mget SD_mget S_mval SE_mval SD_mval S_mentry SE_mentry SD_mentry S_mkmap SD_mkmap S_mset SD_mset S_mrange SD_mrange S_mnext mlenA mgetA mvalA mentryA msetA mrangeA cells_mp isCell_mp cellsOk_mp aq_some aa_some al_some alA_some aqd_some aad_some ald_some ape_some D_done D_both D_early D_step SE_call SD_call IOpd.ev Fr.get Fr.put Fr.putd entryFr pickA binA binI isSh shI eqbA eqvA ints ints_mI Option.map_some eqnilA eqsA eqpA slTA unA convA loadA nilckA intA slSA slPA fldAA fldVA ixSA ixPA ixVA ixStrA extA lenA lenStrA mnA mxA AVal.fits fillA fillOk buildA opa srcA appA stoA copA clrA rdFree zeros List.length_nil List.length_cons List.length_map List.map_cons List.map_nil Option.map_some Option.map_none if_true if_false ite_true ite_false true_and and_true and_self implies_true forall_const true_implies Bool.false_eq_true Bool.not_true Bool.not_false decide_eq_true_eq decide_eq_false_iff_not eq_self List.getElem?_cons_zero List.getElem?_cons_succ List.getElem?_nil List.set_cons_zero List.set_cons_succ List.nil_append List.cons_append List.append_nil List.replicate_zero List.replicate_succ Nat.zero_add false_implies rng_lt rng_end rng_get cells_I cells_B cells_sl cut_one Int.toNat_natCast Int.natCast_nonneg List.headD_cons Int.lt_irrefl not_false_eq_true decide_false decide_true mI_length mI_cells mI_sz mI_isCell mI_mid mI_append mI_take mI_drop cells_val cells_own cells_agg isCell_I isCell_B isCell_nil isCell_sl isCell_own isCell_ptr isCell_fn isCell_rp isCell_yld cellsOk_I cellsOk_B cellsOk_nil cellsOk_sl cellsOk_own cellsOk_ptr cellsOk_fn cellsOk_rp cellsOk_yld cellsOk_agg cells_nil cells_ptr cells_fn cells_rp List.all_cons List.all_nil Bool.and_true Nat.mul_one Nat.zero_mul Nat.one_mul List.take_zero List.take_nil List.drop_nil List.drop_zero List.not_mem_nil Nat.le_refl Nat.zero_le mS_length mS_cells mS_sz mS_isCell mS_mid mS_append mS_take mS_drop cells_sI isCell_sI cellsOk_sI sI_eq succ_le_self' List.take_succ_cons List.drop_succ_cons List.take_length beq_self_eq_true List.mem_cons or_false forall_eq mI_put mI_rep O_guard' D_earlyG' D_stepG' W_cond' G_tt G_tf G_ft G_ff GE_tt GE_tf GE_ft GE_ff GS_tt GS_tf GS_ft GS_ff G_u GE_u GS_u IC_t IC_f xft xff xtt xtf z00 z20 z22 z02 zz tn0
def onesL (n : Nat) : List Int := List.replicate n 1
theorem ones_len (n : Nat) : (onesL n).length = n := by simp [onesL]
theorem ones_get {n i : Nat} (h : i < n) : (onesL n).getD i 0 = 1 := by
  rw [onesL,List.getD_eq_getElem?_getD,List.getElem?_replicate,if_pos h]; rfl
theorem s95 (n : Nat) (h1 : 1 ≤ n) (h6 : n ≤ 6) : Abs.Spec Try.prog 95 [.sl false false (mI (onesL n))] [] fun v H' => H' = [] ∧ v = I 1 := by
  refine Abs.Spec.walk mixed fn95 nn95 t95 q95 nt95 (by simp) ?_
  have d0 : decide ((n : Int) < 1) = false := decide_eq_false (by omega)
  have l0 : 0 < n := by omega
  have i0 : (0 : Int) < n := by omega
  have g0 : (onesL n).getD 0 0 = 1 := ones_get (by omega)
  simp only [w95,ones_len,d0,tn0,mI_get,l0,g0,mI_hd,i0,go_sem,Nat.reduceEqDiff,Nat.reduceAdd,Nat.reduceLT,Nat.reduceLeDiff,reduceIte,reduceCtorEq]
  refine ⟨by omega,?_⟩
  refine W_loop (fun q : { q : Nat // 1 ≤ q ∧ q ≤ n } => ([(0,.sl false false (mI (onesL n))),(3,I 1),(4,I q.1)],[])) (fun q => n - q.1) ⟨1,Nat.le_refl _,h1⟩ [] (Wk.nil (by simp [fle,vle,Fr.get,mI_bnd])) ?_
  rintro ⟨i,hi1,hi⟩
  dsimp only
  by_cases hil : i < n
  · have d1 : decide ((i : Int) < n) = true := decide_eq_true (by omega)
    have di : (i : Int) < n := by omega
    have li : i < n := hil
    have gi : (onesL n).getD i 0 = 1 := ones_get hil
    have hwk : IntKind.i64.wrap ((i : Int) + 1) = ((i + 1 : Nat) : Int) := by rw [wrap64 (by omega) (by omega)]; rfl
    simp only [w95L0,ones_len,d1,mI_get,li,gi,mI_hd,di,hwk,go_sem,Nat.reduceEqDiff,Nat.reduceAdd,Nat.reduceLT,Nat.reduceLeDiff,reduceIte,reduceCtorEq]
    exact round0 rfl ⟨i + 1,by omega,hil⟩ (by dsimp only; omega) rfl (by simp [fle,vle,Fr.get,mI_bnd])
  · have d1 : decide ((i : Int) < n) = false := decide_eq_false (by omega)
    simp only [w95L0,ones_len,d1,w95T1,go_sem,Nat.reduceEqDiff,Nat.reduceAdd,Nat.reduceLT,Nat.reduceLeDiff,reduceIte,reduceCtorEq]
    exact leaf (I 1) rfl ⟨rfl,rfl⟩
theorem s96 (n : Nat) (h1 : 1 ≤ n) (h6 : n ≤ 6) : Abs.Spec Try.prog 96 [.sl false false (mI (onesL n))] [] fun v H' => H' = [] ∧ v = I 1 := by
  refine Abs.Spec.walk mixed fn96 nn96 t96 q96 nt96 (by simp) ?_
  have d0 : decide ((n : Int) < 1) = false := decide_eq_false (by omega)
  have l0 : 0 < n := by omega
  have i0 : (0 : Int) < n := by omega
  have g0 : (onesL n).getD 0 0 = 1 := ones_get (by omega)
  simp only [w96,ones_len,d0,tn0,mI_get,l0,g0,mI_hd,i0,go_sem,Nat.reduceEqDiff,Nat.reduceAdd,Nat.reduceLT,Nat.reduceLeDiff,reduceIte,reduceCtorEq]
  refine ⟨by omega,?_⟩
  refine W_loop (fun q : { q : Nat // 1 ≤ q ∧ q ≤ n } => ([(0,.sl false false (mI (onesL n))),(3,I 1),(4,I q.1)],[])) (fun q => n - q.1) ⟨1,Nat.le_refl _,h1⟩ [] (Wk.nil (by simp [fle,vle,Fr.get,mI_bnd])) ?_
  rintro ⟨i,hi1,hi⟩
  dsimp only
  by_cases hil : i < n
  · have d1 : decide ((i : Int) < n) = true := decide_eq_true (by omega)
    have di : (i : Int) < n := by omega
    have li : i < n := hil
    have gi : (onesL n).getD i 0 = 1 := ones_get hil
    have hwk : IntKind.i64.wrap ((i : Int) + 1) = ((i + 1 : Nat) : Int) := by rw [wrap64 (by omega) (by omega)]; rfl
    simp only [w96L0,ones_len,d1,mI_get,li,gi,mI_hd,di,hwk,go_sem,Nat.reduceEqDiff,Nat.reduceAdd,Nat.reduceLT,Nat.reduceLeDiff,reduceIte,reduceCtorEq]
    exact round0 rfl ⟨i + 1,by omega,hil⟩ (by dsimp only; omega) rfl (by simp [fle,vle,Fr.get,mI_bnd])
  · have d1 : decide ((i : Int) < n) = false := decide_eq_false (by omega)
    simp only [w96L0,ones_len,d1,w96T1,go_sem,Nat.reduceEqDiff,Nat.reduceAdd,Nat.reduceLT,Nat.reduceLeDiff,reduceIte,reduceCtorEq]
    exact leaf (I 1) rfl ⟨rfl,rfl⟩
theorem s61 (n : Nat) (h1 : 1 ≤ n) (h6 : n ≤ 6) : Abs.Spec Try.prog 61 [.sl false false (mI (onesL n))] [] fun v H' => H' = [] ∧ v = B true := by
  refine Abs.Spec.walk mixed fn61 nn61 t61 q61 nt61 (by simp) ?_
  have d1 : decide ((n : Int) ≥ 1) = true := decide_eq_true (by omega)
  have d2 : decide ((n : Int) ≤ 6) = true := decide_eq_true (by omega)
  have d3 : decide ((1 : Int) ≥ 1) = true := rfl
  have d4 : decide ((1 : Int) ≤ 9) = true := rfl
  simp only [w61,ones_len,d1,d2,go_sem,Nat.reduceEqDiff,Nat.reduceAdd,Nat.reduceLT,Nat.reduceLeDiff,reduceIte,reduceCtorEq]
  refine CallK.pure (liftV (s95 n h1 h6) (by simp [bndL,AVal.bnd,mI_bnd]) rfl _) ?_
  simp only [d3,go_sem,Nat.reduceEqDiff,Nat.reduceAdd,Nat.reduceLT,Nat.reduceLeDiff,reduceIte,reduceCtorEq]
  refine CallK.pure (liftV (s96 n h1 h6) (by simp [bndL,AVal.bnd,mI_bnd]) rfl _) ?_
  simp only [d4,go_sem,Nat.reduceEqDiff,Nat.reduceAdd,Nat.reduceLT,Nat.reduceLeDiff,reduceIte,reduceCtorEq]
  exact leaf (B true) rfl ⟨rfl,rfl⟩
theorem s34 (k : Int) (h0 : 0 ≤ k) (h8 : k ≤ 8) : Abs.Spec Try.prog 34 [I k] [] fun v H' => H' = [] ∧ v = B true := by
  refine Abs.Spec.walk mixed fn34 nn34 t34 q34 nt34 (by simp) ?_
  have d1 : decide (k ≥ 0) = true := decide_eq_true h0
  have d2 : decide (k ≤ 8) = true := decide_eq_true h8
  simp only [w34,d1,d2,go_sem,Nat.reduceEqDiff,Nat.reduceAdd,Nat.reduceLT,Nat.reduceLeDiff,reduceIte,reduceCtorEq]
  exact leaf (B true) rfl ⟨rfl,rfl⟩
theorem s63 (n : Nat) (h6 : n ≤ 6) (set : Int) (h0 : 0 ≤ set) (h1 : set < (2 ^ n : Nat)) : Abs.Spec Try.prog 63 [I set,.rp [.sl false false (mI (onesL n))]] [] fun v H' => H' = [] ∧ v = B false := by
  refine Abs.Spec.walk mixed fn63 nn63 t63 q63 nt63 (by simp) ?_
  have d1 : decide (set < 0) = false := decide_eq_false (by omega)
  have hp : IntKind.i64.wrap (1 * 2 ^ min n 64) = ((2 ^ n : Nat) : Int) := by
    have : ∀ n : Nat,n < 7 → IntKind.i64.wrap (1 * 2 ^ min n 64) = ((2 ^ n : Nat) : Int) := by decide +kernel
    exact this n (by omega)
  have d2 : decide (set ≥ ((2 ^ n : Nat) : Int)) = false := decide_eq_false (by omega)
  simp only [w63,ones_len,d1,hp,d2,go_sem,Nat.reduceEqDiff,Nat.reduceAdd,Nat.reduceLT,Nat.reduceLeDiff,reduceIte,reduceCtorEq]
  exact leaf (B false) rfl ⟨rfl,rfl⟩
theorem s69p (set : Int) (fv : AVal) (hf : ∀ H,CallV Try.prog fv [I set] H fun v H' => v = B false ∧ H' = H) (hv : ∀ H,vle H [] [] 3 fv fv) : Abs.Spec Try.prog 69 [.sl false false (mI [set]),fv] [] fun v H' => H' = [] ∧ v = I (-1) := by
  refine Abs.Spec.walk mixed fn69 nn69 t69 q69 nt69 (by simp) ?_
  simp only [w69,go_sem,Nat.reduceEqDiff,Nat.reduceAdd,Nat.reduceLT,Nat.reduceLeDiff,reduceIte,reduceCtorEq]
  refine W_loop (fun q : { q : Nat // q ≤ 1 } => ([(0,.sl false false (mI [set])),(1,fv),(7,I 1),(8,I q.1)],[])) (fun q => 1 - q.1) ⟨0,by omega⟩ [] (Wk.nil (by simp [fle,vle,Fr.get,mI_bnd,hv])) ?_
  rintro ⟨i,hi⟩
  dsimp only
  by_cases h : i = 0
  · subst h
    have d1 : decide (((0 : Nat) : Int) < 1) = true := rfl
    have l1 : 0 < [set].length := by simp
    have g1 : [set].getD 0 0 = set := rfl
    have hwk : IntKind.i64.wrap (((0 : Nat) : Int) + 1) = ((1 : Nat) : Int) := rfl
    simp only [w69L0,d1,mI_get,l1,g1,mI_hd,go_sem,Nat.reduceEqDiff,Nat.reduceAdd,Nat.reduceLT,Nat.reduceLeDiff,reduceIte,reduceCtorEq]
    refine ⟨by omega,CallK.pure (hf _) ?_⟩
    simp only [hwk,go_sem,Nat.reduceEqDiff,Nat.reduceAdd,Nat.reduceLT,Nat.reduceLeDiff,reduceIte,reduceCtorEq]
    exact round0 rfl ⟨1,Nat.le_refl _⟩ (by dsimp only; omega) rfl (by simp [fle,vle,Fr.get,mI_bnd,hv])
  · obtain rfl : i = 1 := by omega
    have d1 : decide (((1 : Nat) : Int) < 1) = false := rfl
    simp only [w69L0,d1,w69T1,go_sem,Nat.reduceEqDiff,Nat.reduceAdd,Nat.reduceLT,Nat.reduceLeDiff,reduceIte,reduceCtorEq]
    exact leaf (I (-1)) rfl ⟨rfl,rfl⟩
theorem s62 (set : Int) (fv : AVal) (hf : ∀ H,CallV Try.prog fv [I set] H fun v H' => v = B false ∧ H' = H) (hv : ∀ H,vle H [] [] 3 fv fv) : Abs.Spec Try.prog 62 [.sl false false (mI [set]),fv] [] fun v H' => H' = [] ∧ v = B false := by
  refine Abs.Spec.walk mixed fn62 nn62 t62 q62 nt62 (by simp) ?_
  have d1 : decide ((-1 : Int) ≥ 0) = false := rfl
  simp only [w62,go_sem,Nat.reduceEqDiff,Nat.reduceAdd,Nat.reduceLT,Nat.reduceLeDiff,reduceIte,reduceCtorEq]
  refine CallK.by (CallV.of_spec (s69p set fv hf hv)) fun v H' ⟨h1,h2⟩ => ?_
  subst h1 h2
  simp only [d1,go_sem,Nat.reduceEqDiff,Nat.reduceAdd,Nat.reduceLT,Nat.reduceLeDiff,reduceIte,reduceCtorEq]
  exact leaf (B false) rfl ⟨rfl,rfl⟩
theorem s33 (n : Nat) (h1 : 1 ≤ n) (h6 : n ≤ 6) (set : Int) (h0 : 0 ≤ set) (hs : set < (2 ^ n : Nat)) : Abs.Spec Try.prog 33 [.sl false false (mI (onesL n)),.sl false false (mI [set])] [] fun v H' => H' = [] ∧ v = B true := by
  refine Abs.Spec.walk mixed fn33 nn33 t33 q33 nt33 (by simp) ?_
  simp only [w33,go_sem,Nat.reduceEqDiff,Nat.reduceAdd,Nat.reduceLT,Nat.reduceLeDiff,reduceIte,reduceCtorEq]
  refine CallK.pure (liftV (s61 n h1 h6) (by simp [bndL,AVal.bnd,mI_bnd]) rfl _) ?_
  simp only [go_sem,Nat.reduceEqDiff,Nat.reduceAdd,Nat.reduceLT,Nat.reduceLeDiff,reduceIte,reduceCtorEq]
  have e62 := s62 set (.fn (.func 63) [] [.rp [.sl false false (mI (onesL n))]]) (fun H => CallV.of_spec (first := []) (cap := [.rp [.sl false false (mI (onesL n))]]) (Spec.lift (s63 n h6 set h0 hs) (by simp [bndL,AVal.bnd,mI_bnd]) rfl H)) (fun H => by simp [vle,vle.vleL,bndL,AVal.bnd,mI_bnd])
  refine CallK.pure (CallV.of_spec (first := []) (cap := []) (Spec.lend e62 rfl ?_)) ?_
  · simp [vle,vle.vleL,bndL,AVal.bnd,mI_bnd]
  simp only [go_sem,Nat.reduceEqDiff,Nat.reduceAdd,Nat.reduceLT,Nat.reduceLeDiff,reduceIte,reduceCtorEq]
  exact leaf (B true) rfl ⟨rfl,rfl⟩
/-! What is worked out,told with the machine's numbers. -/
def ofW (n : Nat) (set : Int) : Nat → Int
  | 0 => 0
  | k + 1 => IntKind.i64.wrap (ofW n set k + IntKind.i64.wrap (Sp.bitAt set k * 1))
theorem s38 (n : Nat) (h6 : n ≤ 6) (set : Int) : Abs.Spec Try.prog 38 [.sl false false (mI (onesL n)),I set] [] fun v H' => H' = [] ∧ v = I (ofW n set n) := by
  refine Abs.Spec.walk mixed fn38 nn38 t38 q38 nt38 (by simp) ?_
  simp only [w38,ones_len,go_sem,Nat.reduceEqDiff,Nat.reduceAdd,Nat.reduceLT,Nat.reduceLeDiff,reduceIte,reduceCtorEq]
  refine W_loop (fun q : { q : Nat // q ≤ n } => ([(1,I set),(5,I (ofW n set q.1)),(8,.sl false false (mI (onesL n))),(9,I n),(10,I q.1)],[])) (fun q => n - q.1) ⟨0,by omega⟩ [] (Wk.nil (by simp [fle,vle,Fr.get,mI_bnd,ofW])) ?_
  rintro ⟨i,hi⟩
  dsimp only
  by_cases hil : i < n
  · have d1 : decide ((i : Int) < n) = true := decide_eq_true (by omega)
    have li : i < n := hil
    have gi : (onesL n).getD i 0 = 1 := ones_get hil
    have hwk : IntKind.i64.wrap ((i : Int) + 1) = ((i + 1 : Nat) : Int) := by rw [wrap64 (by omega) (by omega)]; rfl
    have di : (i : Int) < n := by omega
    simp only [w38L0,ones_len,d1,mI_get,li,gi,mI_hd,hwk,go_sem,Nat.reduceEqDiff,Nat.reduceAdd,Nat.reduceLT,Nat.reduceLeDiff,reduceIte,reduceCtorEq]
    refine ⟨di,?_⟩
    exact round0 rfl ⟨i + 1,hil⟩ (by dsimp only; omega) rfl (by simp [fle,vle,Fr.get,mI_bnd,ofW,Sp.bitAt,IntKind.bits])
  · have d1 : decide ((i : Int) < n) = false := decide_eq_false (by omega)
    obtain rfl : i = n := by omega
    simp only [w38L0,ones_len,d1,w38T1,go_sem,Nat.reduceEqDiff,Nat.reduceAdd,Nat.reduceLT,Nat.reduceLeDiff,reduceIte,reduceCtorEq]
    exact leaf (I _) rfl ⟨rfl,rfl⟩
def allW (n : Nat) : Int := IntKind.i64.wrap (Sp.shl1 n - 1)
theorem s40 (n : Nat) : Abs.Spec Try.prog 40 [.sl false false (mI (onesL n))] [] fun v H' => H' = [] ∧ v = I (allW n) := by
  refine Abs.Spec.walk mixed fn40 nn40 t40 q40 nt40 (by simp) ?_
  simp only [w40,ones_len,go_sem,Nat.reduceEqDiff,Nat.reduceAdd,Nat.reduceLT,Nat.reduceLeDiff,reduceIte,reduceCtorEq]
  exact leaf (I _) rfl ⟨rfl,rfl⟩
def lowW (s : Int) : Int := bitsI .and .i64 s (IntKind.i64.wrap (s - 1))
def sgnW : Nat → Int → Int → Int
  | 0,_,o => o
  | f + 1,s,o => if s = 0 then o else sgnW f (lowW s) (IntKind.i64.wrap (-o))
theorem low_dec : ∀ k : Nat,k < 64 → k ≠ 0 → 0 ≤ lowW k ∧ lowW k < k := by decide +kernel
theorem sgn_fuel : ∀ (s : Nat) (f f' : Nat) (o : Int),s < 64 → s ≤ f → s ≤ f' → sgnW f s o = sgnW f' s o := by
  intro s
  induction s using Nat.strongRecOn with
  | _ s ih =>
    intro f f' o h hf hf'
    cases s with
    | zero => cases f <;> cases f' <;> simp [sgnW]
    | succ s =>
      cases f with
      | zero => omega
      | succ f =>
      cases f' with
      | zero => omega
      | succ f' =>
      obtain ⟨a,b⟩ := low_dec (s + 1) h (by omega)
      have hne : ¬ ((s + 1 : Nat) : Int) = 0 := by omega
      rw [sgnW,sgnW,if_neg hne,if_neg hne]
      have := ih (lowW (s + 1 : Nat)).toNat (by omega) f f' (IntKind.i64.wrap (-o)) (by omega) (by omega) (by omega)
      rwa [Int.toNat_of_nonneg a] at this
theorem s36 (s0 : Int) (h0 : 0 ≤ s0) (h1 : s0 < 64) : Abs.Spec Try.prog 36 [I s0] [] fun v H' => H' = [] ∧ v = I (sgnW 64 s0 1) := by
  refine Abs.Spec.walk mixed fn36 nn36 t36 q36 nt36 (by simp) ?_
  simp only [w36,go_sem,Nat.reduceEqDiff,Nat.reduceAdd,Nat.reduceLT,Nat.reduceLeDiff,reduceIte,reduceCtorEq]
  refine W_loop (fun q : { q : Int × Int // 0 ≤ q.1 ∧ q.1 < 64 ∧ sgnW 64 q.1 q.2 = sgnW 64 s0 1 } => ([(0,I q.1.1),(3,I q.1.2)],[])) (fun q => q.1.1.toNat) ⟨(s0,1),h0,h1,rfl⟩ [] (Wk.nil (by simp [fle,vle,Fr.get])) ?_
  rintro ⟨⟨s,o⟩,a,b,hinv⟩
  dsimp only at a b hinv ⊢
  by_cases hs : s = 0
  · subst hs
    have z : ((0 : Int) != 0) = false := rfl
    simp only [w36L0,z,w36T1,go_sem,Nat.reduceEqDiff,Nat.reduceAdd,Nat.reduceLT,Nat.reduceLeDiff,reduceIte,reduceCtorEq]
    exact leaf (I _) rfl ⟨rfl,by rw [← hinv]; rfl⟩
  · have z : (s != 0) = true := by simpa using hs
    obtain ⟨c,d⟩ := low_dec s.toNat (by omega) (by omega)
    rw [Int.toNat_of_nonneg a] at c d
    have hlow : bitsI .and .i64 s (IntKind.i64.wrap (s - 1)) = lowW s := rfl
    simp only [w36L0,z,hlow,go_sem,Nat.reduceEqDiff,Nat.reduceAdd,Nat.reduceLT,Nat.reduceLeDiff,reduceIte,reduceCtorEq]
    refine round0 rfl ⟨(lowW s,IntKind.i64.wrap (-o)),c,by dsimp only; omega,?_⟩ (by dsimp only; omega) rfl (by simp [fle,vle,Fr.get])
    rw [← hinv]
    have e1 : sgnW 64 s o = sgnW 63 (lowW s) (IntKind.i64.wrap (-o)) := by rw [sgnW,if_neg hs]
    rw [e1]
    have := sgn_fuel (lowW s).toNat 64 63 (IntKind.i64.wrap (-o)) (by omega) (by omega) (by omega)
    rwa [Int.toNat_of_nonneg c] at this
def powW (x : Int) : Nat → Int
  | 0 => 1
  | k + 1 => IntKind.i64.wrap (powW x k * x)
theorem s37 (x : Int) (k : Nat) (hk : k ≤ 8) : Abs.Spec Try.prog 37 [I x,I k] [] fun v H' => H' = [] ∧ v = I (powW x k) := by
  refine Abs.Spec.walk mixed fn37 nn37 t37 q37 nt37 (by simp) ?_
  simp only [w37,go_sem,Nat.reduceEqDiff,Nat.reduceAdd,Nat.reduceLT,Nat.reduceLeDiff,reduceIte,reduceCtorEq]
  refine W_loop (fun q : { q : Nat // q ≤ k } => ([(0,I x),(5,I (powW x q.1)),(6,I k),(7,I q.1)],[])) (fun q => k - q.1) ⟨0,by omega⟩ [] (Wk.nil (by simp [fle,vle,Fr.get,powW])) ?_
  rintro ⟨i,hi⟩
  dsimp only
  by_cases hil : i < k
  · have d1 : decide ((i : Int) < k) = true := decide_eq_true (by omega)
    have hwk : IntKind.i64.wrap ((i : Int) + 1) = ((i + 1 : Nat) : Int) := by rw [wrap64 (by omega) (by omega)]; rfl
    simp only [w37L0,d1,hwk,go_sem,Nat.reduceEqDiff,Nat.reduceAdd,Nat.reduceLT,Nat.reduceLeDiff,reduceIte,reduceCtorEq]
    exact round0 rfl ⟨i + 1,hil⟩ (by dsimp only; omega) rfl (by simp [fle,vle,Fr.get,powW])
  · have d1 : decide ((i : Int) < k) = false := decide_eq_false (by omega)
    obtain rfl : i = k := by omega
    simp only [w37L0,d1,w37T1,go_sem,Nat.reduceEqDiff,Nat.reduceAdd,Nat.reduceLT,Nat.reduceLeDiff,reduceIte,reduceCtorEq]
    exact leaf (I _) rfl ⟨rfl,rfl⟩
def Sml (x : Int) : Prop := -4611686018427387904 < x ∧ x < 4611686018427387904
theorem tmod_lt (a b : Int) (hb : b ≠ 0) : (a.tmod b).natAbs < b.natAbs := by
  rw [Int.natAbs_tmod]; exact Nat.mod_lt _ (by omega)
theorem s65 (a0 b0 : Int) (ha : Sml a0) (hb : Sml b0) : Abs.Spec Try.prog 65 [I a0,I b0] [] fun v H' => H' = [] ∧ v = I (Int.gcd a0 b0) := by
  refine Abs.Spec.walk mixed fn65 nn65 t65 q65 nt65 (by simp) ?_
  simp only [w65,go_sem,Nat.reduceEqDiff,Nat.reduceAdd,Nat.reduceLT,Nat.reduceLeDiff,reduceIte,reduceCtorEq]
  refine W_loop (fun q : { q : Int × Int // Sml q.1 ∧ Sml q.2 ∧ Int.gcd q.1 q.2 = Int.gcd a0 b0 } => ([(0,I q.1.1),(1,I q.1.2)],[])) (fun q => q.1.2.natAbs) ⟨(a0,b0),ha,hb,rfl⟩ [] (Wk.nil (by simp [fle,vle,Fr.get])) ?_
  rintro ⟨⟨a,b⟩,sa,sb,hinv⟩
  dsimp only at sa sb hinv ⊢
  by_cases hz : b = 0
  · subst hz
    have z : ((0 : Int) != 0) = false := rfl
    have hw : IntKind.i64.wrap (0 - a) = -a := by rw [wrap64 (by have := sa.2; omega) (by have := sa.1; omega)]; omega
    simp only [w65L0,z,w65T1,hw,go_sem,Nat.reduceEqDiff,Nat.reduceAdd,Nat.reduceLT,Nat.reduceLeDiff,reduceIte,reduceCtorEq]
    refine leaf (I (if -a > a then -a else a)) rfl ⟨rfl,?_⟩
    rw [← hinv,Int.gcd_zero_right]
    congr 2
    split <;> omega
  · have z : (b != 0) = true := by simpa using hz
    simp only [w65L0,z,go_sem,Nat.reduceEqDiff,Nat.reduceAdd,Nat.reduceLT,Nat.reduceLeDiff,reduceIte,reduceCtorEq]
    have hl := tmod_lt a b hz
    refine ⟨hz,round0 rfl ⟨(b,a.tmod b),sb,?_,?_⟩ hl rfl (by simp [fle,vle,Fr.get])⟩
    · have := sb.1; have := sb.2
      exact ⟨by show -4611686018427387904 < a.tmod b; omega,by show a.tmod b < 4611686018427387904; omega⟩
    · rw [← hinv]
      show Int.gcd b (a.tmod b) = Int.gcd a b
      unfold Int.gcd
      rw [Int.natAbs_tmod,Nat.gcd_comm a.natAbs b.natAbs,Nat.gcd_rec b.natAbs a.natAbs,Nat.gcd_comm]
def fracV (a b : Int) : AVal := .agg [I (IntKind.i64.wrap (a.tdiv (Int.gcd a b))),I (IntKind.i64.wrap (b.tdiv (Int.gcd a b)))]
theorem s39 (a b : Int) (ha : Sml a) (hb : Sml b) (hz : b ≠ 0) : Abs.Spec Try.prog 39 [I a,I b] [] fun v H' => H' = [] ∧ v = fracV a b := by
  refine Abs.Spec.walk mixed fn39 nn39 t39 q39 nt39 (by simp) ?_
  have hg : (Int.gcd a b : Int) ≠ 0 := fun h => hz (by have := Int.gcd_eq_zero_iff.1 (by exact_mod_cast h : Int.gcd a b = 0); exact this.2)
  simp only [w39,go_sem,Nat.reduceEqDiff,Nat.reduceAdd,Nat.reduceLT,Nat.reduceLeDiff,reduceIte,reduceCtorEq]
  refine CallK.pure (liftV (s65 a b ha hb) rfl rfl _) ?_
  simp only [go_sem,Nat.reduceEqDiff,Nat.reduceAdd,Nat.reduceLT,Nat.reduceLeDiff,reduceIte,reduceCtorEq]
  exact ⟨hg,hg,leafC (fracV a b) (fracV a b) rfl (by simp) (by simp [fracV,vle,vle.vleL,bndL,AVal.bnd]) ⟨rfl,rfl⟩⟩
theorem s66 (a : Int) : Abs.Spec Try.prog 66 [I a] [] fun v H' => H' = [] ∧ v = .agg [I a,I 1] := by
  refine Abs.Spec.walk mixed fn66 nn66 t66 q66 nt66 (by simp) ?_
  simp only [w66,go_sem,Nat.reduceEqDiff,Nat.reduceAdd,Nat.reduceLT,Nat.reduceLeDiff,reduceIte,reduceCtorEq]
  exact leafC (.agg [I a,I 1]) (.agg [I a,I 1]) rfl (by simp) (by simp [vle,vle.vleL,bndL,AVal.bnd]) ⟨rfl,rfl⟩
def plusN (a b c d : Int) : Int := IntKind.i64.wrap (IntKind.i64.wrap (a * IntKind.i64.wrap (d.tdiv (Int.gcd b d))) + IntKind.i64.wrap (c * IntKind.i64.wrap (b.tdiv (Int.gcd b d))))
def plusD (b d : Int) : Int := IntKind.i64.wrap (IntKind.i64.wrap (b.tdiv (Int.gcd b d)) * d)
theorem s67 (a b c d : Int) (hb : Sml b) (hd : Sml d) (hb0 : b ≠ 0) (hn : Sml (plusN a b c d)) (hm : Sml (plusD b d)) (hm0 : plusD b d ≠ 0) : Abs.Spec Try.prog 67 [.agg [I a,I b],.agg [I c,I d]] [] fun v H' => H' = [] ∧ v = fracV (plusN a b c d) (plusD b d) := by
  refine Abs.Spec.walk mixed fn67 nn67 t67 q67 nt67 (by simp) ?_
  have hg : (Int.gcd b d : Int) ≠ 0 := fun h => hb0 (by have := Int.gcd_eq_zero_iff.1 (by exact_mod_cast h : Int.gcd b d = 0); exact this.1)
  simp only [w67,go_sem,Nat.reduceEqDiff,Nat.reduceAdd,Nat.reduceLT,Nat.reduceLeDiff,reduceIte,reduceCtorEq]
  refine CallK.pure (liftV (s65 b d hb hd) rfl rfl _) ?_
  have hN : IntKind.i64.wrap (IntKind.i64.wrap (a * IntKind.i64.wrap (d.tdiv (Int.gcd b d))) + IntKind.i64.wrap (c * IntKind.i64.wrap (b.tdiv (Int.gcd b d)))) = plusN a b c d := rfl
  have hM : IntKind.i64.wrap (IntKind.i64.wrap (b.tdiv (Int.gcd b d)) * d) = plusD b d := rfl
  have e39 := fun H => liftV (s39 _ _ hn hm hm0) rfl rfl H
  obtain ⟨x,y,hxy⟩ : ∃ x y,fracV (plusN a b c d) (plusD b d) = .agg [I x,I y] := ⟨_,_,rfl⟩
  rw [hxy] at e39 ⊢
  simp only [hN,hM,go_sem,Nat.reduceEqDiff,Nat.reduceAdd,Nat.reduceLT,Nat.reduceLeDiff,reduceIte,reduceCtorEq]
  refine ⟨hg,hg,hg,CallKD.pure' (e39 _) ?_⟩
  simp only [go_sem,Nat.reduceEqDiff,Nat.reduceAdd,Nat.reduceLT,Nat.reduceLeDiff,reduceIte,reduceCtorEq]
  exact leafC (.agg [I x,I y]) (.agg [I x,I y]) rfl (by simp) (by simp [vle,vle.vleL,bndL,AVal.bnd]) ⟨rfl,rfl⟩
open Go.Abs AVal
theorem s35 (set : Int) : Abs.Spec Try.prog 35 [I set] [] fun v H' => H' = [] ∧ v = .fn (.func 64) [] [.rp [I set]] := by
  refine Abs.Spec.walk mixed fn35 nn35 t35 q35 nt35 (by simp) ?_
  simp only [w35,go_sem,Nat.reduceEqDiff,Nat.reduceAdd,Nat.reduceLT,Nat.reduceLeDiff,reduceIte,reduceCtorEq]
  exact leaf (.fn (.func 64) [] [.rp [I set]]) (by simp [vle,vle.vleL,bndL,AVal.bnd,Fr.get]) ⟨rfl,rfl⟩
def nextP (set p : Int) : Int := bitsI .and .i64 (IntKind.i64.wrap (p - 1)) set
def partsG : Nat → Int → Int → List Int
  | 0,_,_ => []
  | f + 1,set,p => p :: if p > 0 then partsG f set (nextP set p) else []
def partsL (set : Int) : List Int := partsG 16 set set
theorem next_dec : ∀ set : Nat,set < 16 → ∀ p : Nat,p < 16 → 0 < p → 0 ≤ nextP set p ∧ nextP set p < p := by decide +kernel
theorem parts_fuel {set : Int} (h0 : 0 ≤ set) (h1 : set < 16) : ∀ (p f f' : Nat),p < 16 → p < f → p < f' → partsG f set p = partsG f' set p := by
  intro p
  induction p using Nat.strongRecOn with
  | _ p ih =>
    intro f f' h hf hf'
    cases f with
    | zero => omega
    | succ f =>
    cases f' with
    | zero => omega
    | succ f' =>
    rw [partsG,partsG]
    by_cases hp : 0 < p
    · obtain ⟨a,b⟩ := next_dec set.toNat (by omega) p h hp
      rw [Int.toNat_of_nonneg h0] at a b
      rw [if_pos (by omega : (p : Int) > 0),if_pos (by omega : (p : Int) > 0)]
      have := ih (nextP set p).toNat (by omega) f f' (by omega) (by omega) (by omega)
      rw [Int.toNat_of_nonneg a] at this
      rw [this]
    · rw [if_neg (by omega : ¬ (p : Int) > 0),if_neg (by omega : ¬ (p : Int) > 0)]
theorem s64 {σ : Type} {St : σ → AHeap} {upd : σ → Int → σ} {ok : σ → Int → Prop} {L b : Nat} (hlen : ∀ s,(St s).length = b) (hok : ∀ s,∀ x ∈ St s,blkOk b x = true) (hL : L < b)
    (Y : ∀ s p,0 ≤ p → p < 16 → ok s p → CallV Try.prog (.yld L) [I p] (St s) fun v H' => v = B true ∧ H' = St (upd s p)) (set : Int) (h0 : 0 ≤ set) (h1 : set < 16) (s0 : σ)
    (hdom : ∀ pre p post,partsL set = pre ++ p :: post → ok (pre.foldl upd s0) p) :
    Abs.Spec Try.prog 64 [.yld L,.rp [I set]] (St s0) fun v H' => v = .tup [] ∧ H' = St ((partsL set).foldl upd s0) := by
  refine Abs.Spec.walk mixed fn64 nn64 t64 q64 nt64 (by simp) ?_
  rw [hlen]
  simp only [w64,go_sem,Nat.reduceEqDiff,Nat.reduceAdd,Nat.reduceLT,Nat.reduceLeDiff,reduceIte,reduceCtorEq]
  refine W_loop (fun q : { q : Int × σ // 0 ≤ q.1 ∧ q.1 < 16 ∧ ∃ pre,partsL set = pre ++ partsG 16 set q.1 ∧ q.2 = pre.foldl upd s0 } => ([(0,.yld L),(1,.rp [I set]),(3,I q.1.1)],St q.1.2)) (fun q => q.1.1.toNat) ⟨(set,s0),h0,h1,[],rfl,rfl⟩ (idρ b) (WkB (hlen _) (hok _) (by
      simp only [List.mem_cons,List.not_mem_nil,or_false,forall_eq_or_imp,forall_eq]
      exact ⟨⟨rfl,by simp [vid]; omega⟩,⟨rfl,rfl⟩,rfl,rfl⟩)) ?_
  rintro ⟨⟨p,s⟩,a,c,pre,hpre,hs⟩
  dsimp only at a c hpre hs ⊢
  have hpo : partsG 16 set p = p :: (if p > 0 then partsG 15 set (nextP set p) else []) := by rw [partsG]
  rw [hpo] at hpre
  have hoks : ok s p := by rw [hs]; exact hdom pre p _ hpre
  simp only [w64L0,go_sem,Nat.reduceEqDiff,Nat.reduceAdd,Nat.reduceLT,Nat.reduceLeDiff,reduceIte,reduceCtorEq]
  refine CallK.by (Y s p a c hoks) ?_
  rintro _ _ ⟨rfl,rfl⟩
  by_cases hp : p > 0
  · have d1 : decide (p > 0) = true := decide_eq_true hp
    have hnx : bitsI .and .i64 (IntKind.i64.wrap (p - 1)) set = nextP set p := rfl
    simp only [d1,hnx,go_sem,Nat.reduceEqDiff,Nat.reduceAdd,Nat.reduceLT,Nat.reduceLeDiff,reduceIte,reduceCtorEq]
    obtain ⟨e1,e2⟩ := next_dec set.toNat (by omega) p.toNat (by omega) (by omega)
    rw [Int.toNat_of_nonneg h0,Int.toNat_of_nonneg a] at e1 e2
    refine roundB ⟨(nextP set p,upd s p),e1,by dsimp only; omega,pre ++ [p],?_,?_⟩ (by dsimp only; omega) rfl (hlen _) (hok _) ?_
    · rw [hpre,if_pos hp]
      have := parts_fuel h0 h1 (nextP set p).toNat 16 15 (by omega) (by omega) (by omega)
      rw [Int.toNat_of_nonneg e1] at this
      rw [this]; simp
    · rw [hs,List.foldl_append]; rfl
    · simp only [List.mem_cons,List.not_mem_nil,or_false,forall_eq_or_imp,forall_eq]
      exact ⟨⟨rfl,by simp [vid]; omega⟩,⟨rfl,rfl⟩,rfl,rfl⟩
  · have d1 : decide (p > 0) = false := decide_eq_false hp
    obtain rfl : p = 0 := by omega
    simp only [d1,go_sem,Nat.reduceEqDiff,Nat.reduceAdd,Nat.reduceLT,Nat.reduceLeDiff,reduceIte,reduceCtorEq]
    have hl := leafB0 (B := b) (e := .norm) (fr := [(11,B false)]) (H0 := St (upd s 0)) (H1 := []) (R := fun v H' => v = .tup [] ∧ H' = St ((partsL set).foldl upd s0)) (hlen _) (hok _) ⟨rfl,by rw [hpre,if_neg hp,List.foldl_append,← hs]; rfl⟩
    rw [List.append_nil] at hl
    exact hl
/-! The rounds of Exact. -/
def upd16 (n : Nat) (set : Int) (k : Nat) (s p : Int) : Int := IntKind.i64.wrap (s + IntKind.i64.wrap (sgnW 64 (bitsI .andNot .i64 set p) 1 * powW (ofW n p n) k))
noncomputable def lp16 (st : LoopState) (fr : Fr) : Blk := .loop st none fr 46 #[25] (asOf Try.f16 0) (bdOf Try.f16 0)
noncomputable def St16 (n : Nat) (set : Int) (k : Nat) (fr : Fr) (s : Int) : AHeap :=
  [.cells [I set],.cells [I k],.cells [I 0,I 0],.cells [.sl false false (mI (onesL n))],.cells [I set],.cells [I s],.defs,lp16 .ready fr]
theorem St16_ok (n : Nat) (set : Int) (k : Nat) {fr : Fr} (hfr : (fr.all fun q => q.2.bnd 8) = true) (s : Int) : ∀ x ∈ St16 n set k fr s,blkOk 8 x = true := by
  intro x hx
  simp only [St16,lp16,List.mem_cons,List.not_mem_nil,or_false] at hx
  rcases hx with rfl | rfl | rfl | rfl | rfl | rfl | rfl | rfl <;> first | exact hfr | rfl | simp [blkOk,bndL,AVal.bnd,mI_bnd]
theorem without_dec : ∀ set : Nat,set < 16 → ∀ p : Nat,p < 16 → 0 ≤ bitsI .andNot .i64 set p ∧ bitsI .andNot .i64 set p < 16 := by decide +kernel
set_option maxHeartbeats 2000000 in
theorem y16 (n : Nat) (h1 : 1 ≤ n) (h6 : n ≤ 4) (set : Int) (hs0 : 0 ≤ set) (hs1 : set < 16) (k : Nat) (hk : k ≤ 8) {fr : Fr} (f4 : fr.get 4 = .ptr 0 0) (f5 : fr.get 5 = .ptr 1 0) (f8 : fr.get 8 = .ptr 3 0) (f9 : fr.get 9 = .ptr 5 0) (hfr : (fr.all fun q => q.2.bnd 8) = true) (s p : Int) (p0 : 0 ≤ p) (p1 : p < 16) :
    CallV Try.prog (.yld 7) [I p] (St16 n set k fr s) fun v H' => v = B true ∧ H' = St16 n set k fr (upd16 n set k s p) := by
  refine CallV.yldW mixed (L := 7) (fr := fr) (n := 46) (ps := [25]) rfl t16R0a t16R0b rfl (by simp) ?_
  simp only [w16R0a,putArgs,go_sem,Nat.reduceEqDiff,Nat.reduceAdd,Nat.reduceLT,Nat.reduceLeDiff,reduceIte,reduceCtorEq]
  refine ⟨rfl,?_⟩
  simp only [St16,lp16,w16R0b,f4,f5,f8,f9,go_sem,Nat.reduceEqDiff,Nat.reduceAdd,Nat.reduceLT,Nat.reduceLeDiff,reduceIte,reduceCtorEq]
  obtain ⟨a1,a2⟩ := without_dec set.toNat (by omega) p.toNat (by omega)
  rw [Int.toNat_of_nonneg hs0,Int.toNat_of_nonneg p0] at a1 a2
  refine ⟨by simp,CallKD.pure (fun H => liftV (s36 _ a1 (by omega)) rfl rfl H) ?_⟩
  simp only [f4,f5,f8,f9,go_sem,Nat.reduceEqDiff,Nat.reduceAdd,Nat.reduceLT,Nat.reduceLeDiff,reduceIte,reduceCtorEq]
  refine ⟨by simp,CallKD.pure (fun H => liftV (s38 n (by omega) p) (by simp [bndL,AVal.bnd,mI_bnd]) rfl H) ?_⟩
  simp only [f4,f5,f8,f9,go_sem,Nat.reduceEqDiff,Nat.reduceAdd,Nat.reduceLT,Nat.reduceLeDiff,reduceIte,reduceCtorEq]
  refine ⟨by simp,CallKD.pure (fun H => liftV (s37 (ofW n p n) k hk) rfl rfl H) ?_⟩
  simp only [f4,f5,f8,f9,go_sem,Nat.reduceEqDiff,Nat.reduceAdd,Nat.reduceLT,Nat.reduceLeDiff,reduceIte,reduceCtorEq]
  exact ⟨idρ 8,St16 n set k fr (upd16 n set k s p),WkB (H := St16 n set k fr (upd16 n set k s p)) rfl (St16_ok n set k hfr _) (by simp),rfl,rfl⟩
theorem leafCTM {ag : Bool} {k t t' : Nat} {e : Ex} {fr : Fr} {H H' : AHeap} {ms : List Nat} {R : AVal → AHeap → Prop} (u v : AVal) {p : Prop} (hk : killM ms H = some H') (h : loadA ag k (fr.get t) H' = some (p,u)) (hp : p)
    (hv : vle H' [] [] 3 (.tup [u,fr.get t']) v) (hR : R v []) (he : e = .norm ∨ e = .ret := by simp) : retA 0 [.cell ag k t,.tmp t'] R e fr H ms := by
  refine ⟨he,?_⟩
  simp only [hk,resL,resA,h]
  exact ⟨⟨hp,trivial,trivial⟩,[],v,[],Wk.nil ⟨hv,trivial⟩,hR⟩
def sum16 (n : Nat) (set : Int) (k : Nat) : Int := (partsL set).foldl (upd16 n set k) 0
def den16 (n : Nat) (k : Nat) : Int := powW (ofW n (allW n) n) k
set_option maxHeartbeats 2000000 in
theorem s16 (n : Nat) (h1 : 1 ≤ n) (h6 : n ≤ 4) (set : Int) (hs0 : 0 ≤ set) (hs1 : set < (2 ^ n : Nat)) (k : Nat) (hk : k ≤ 8) (hS : Sml (sum16 n set k)) (hD : Sml (den16 n k)) (hD0 : den16 n k ≠ 0) :
    Abs.Spec Try.prog 16 [.sl false false (mI (onesL n)),I set,I k] [] fun v H' => H' = [] ∧ v = .tup [fracV (sum16 n set k) (den16 n k),I 0] := by
  have h16 : set < 16 := by
    have : 2 ^ n ≤ 2 ^ 4 := Nat.pow_le_pow_right (by decide) h6
    omega
  refine Abs.Spec.walk mixed fn16 nn16 t16 q16 nt16 (by simp) ?_
  simp only [w16,go_sem,Nat.reduceEqDiff,Nat.reduceAdd,Nat.reduceLT,Nat.reduceLeDiff,reduceIte,reduceCtorEq]
  refine CallK.pure (CallV.of_spec (first := []) (cap := []) (Spec.lend (s33 n h1 (by omega) set hs0 hs1) rfl ?_)) ?_
  · simp [vle,vle.vleL,bndL,AVal.bnd,mI_bnd]
    exact ⟨rfl,of_eq_true (mI_sz (xs := [set])),rfl⟩
  simp only [go_sem,Nat.reduceEqDiff,Nat.reduceAdd,Nat.reduceLT,Nat.reduceLeDiff,reduceIte,reduceCtorEq]
  refine CallK.pure (liftV (s34 k (by omega) (by omega)) rfl rfl _) ?_
  simp only [go_sem,Nat.reduceEqDiff,Nat.reduceAdd,Nat.reduceLT,Nat.reduceLeDiff,reduceIte,reduceCtorEq]
  refine CallK.pure (liftV (s35 set) rfl rfl _) ?_
  simp only [go_sem,Nat.reduceEqDiff,Nat.reduceAdd,Nat.reduceLT,Nat.reduceLeDiff,reduceIte,reduceCtorEq]
  generalize hfr : (List.cons (24,_) _ : Fr) = fr
  have f4 : Fr.get fr 4 = .ptr 0 0 := by rw [← hfr]; rfl
  have f5 : Fr.get fr 5 = .ptr 1 0 := by rw [← hfr]; rfl
  have f6 : Fr.get fr 6 = .ptr 2 0 := by rw [← hfr]; rfl
  have f8 : Fr.get fr 8 = .ptr 3 0 := by rw [← hfr]; rfl
  have f9 : Fr.get fr 9 = .ptr 5 0 := by rw [← hfr]; rfl
  have f24 : Fr.get fr 24 = .fn (.func 64) [] [.rp [I set]] := by rw [← hfr]; rfl
  have hbnd : (List.all fr fun q => q.2.bnd 8) = true := by rw [← hfr]; simp [AVal.bnd,bndL,mI_bnd]
  clear hfr
  refine W_range rfl f24 ?_
  refine (s64 (St := St16 n set k fr) (upd := upd16 n set k) (L := 7) (b := 8) (fun _ => rfl) (fun s => St16_ok n set k hbnd s) (by omega) (ok := fun _ _ => True) (fun s p p0 p1 _ => y16 n h1 h6 set hs0 h16 k hk f4 f5 f8 f9 hbnd s p p0 p1) set hs0 h16 0 (fun _ _ _ _ => trivial)).mono ?_
  rintro v H' ⟨_,rfl⟩
  refine ⟨.ready,none,rfl,(fun h => by cases h),?_⟩
  show KQ _ _ .norm _ _ _ _
  have hsum : (partsL set).foldl (upd16 n set k) 0 = sum16 n set k := rfl
  rw [hsum]
  simp only [St16,lp16,w16T0,f4,f5,f6,f8,f9,go_sem,Nat.reduceEqDiff,Nat.reduceAdd,Nat.reduceLT,Nat.reduceLeDiff,reduceIte,reduceCtorEq]
  have e39 := fun H => liftV (s39 _ _ hS hD hD0) rfl rfl H
  obtain ⟨x,y,hxy⟩ : ∃ x y,fracV (sum16 n set k) (den16 n k) = .agg [I x,I y] := ⟨_,_,rfl⟩
  rw [hxy] at e39 ⊢
  refine ⟨by simp,CallKD.pure (fun H => liftV (s40 n) (by simp [bndL,AVal.bnd,mI_bnd]) rfl H) ?_⟩
  simp only [f4,f5,f6,f8,f9,go_sem,Nat.reduceEqDiff,Nat.reduceAdd,Nat.reduceLT,Nat.reduceLeDiff,reduceIte,reduceCtorEq]
  refine ⟨by simp,CallKD.pure (fun H => liftV (s38 n (by omega) (allW n)) (by simp [bndL,AVal.bnd,mI_bnd]) rfl H) ?_⟩
  simp only [f4,f5,f6,f8,f9,go_sem,Nat.reduceEqDiff,Nat.reduceAdd,Nat.reduceLT,Nat.reduceLeDiff,reduceIte,reduceCtorEq]
  have hd : powW (ofW n (allW n) n) k = den16 n k := rfl
  refine ⟨by simp,CallKD.pure (fun H => liftV (s37 (ofW n (allW n) n) k hk) rfl rfl H) ?_⟩
  rw [hd]
  simp only [f4,f5,f6,f8,f9,go_sem,Nat.reduceEqDiff,Nat.reduceAdd,Nat.reduceLT,Nat.reduceLeDiff,reduceIte,reduceCtorEq]
  refine CallKD.pure e39 ?_
  simp only [f4,f5,f6,f8,f9,go_sem,Nat.reduceEqDiff,Nat.reduceAdd,Nat.reduceLT,Nat.reduceLeDiff,reduceIte,reduceCtorEq]
  refine leafCTM (p := 0 + 2 ≤ 2 ∧ (true = false → 2 = 1)) (H' := [.cells [I set],.cells [I k],.cells [I x,I y],.cells [.sl false false (mI (onesL n))],.cells [I set],.cells [I (sum16 n set k)],.dead,.dead]) (.agg [I x,I y]) (.tup [.agg [I x,I y],I 0]) rfl ?_ (by simp) ?_ ⟨rfl,rfl⟩
  · have : Fr.get ((7,I 0) :: (45,.agg [I x,I y]) :: (44,I (den16 n k)) :: (43,I k) :: (42,I (ofW n (allW n) n)) :: (41,I (allW n)) :: (40,.sl false false (mI (onesL n))) :: (39,.sl false false (mI (onesL n))) :: (38,I (sum16 n set k)) :: fr) 6 = .ptr 2 0 := f6
    rw [this]; rfl
  · simp [vle,vle.vleL,bndL,AVal.bnd,Fr.get]
/-! The mean of two kinds. -/
def fN (a b : Int) : Int := IntKind.i64.wrap (a.tdiv (Int.gcd a b))
def fD (a b : Int) : Int := IntKind.i64.wrap (b.tdiv (Int.gcd a b))
def nu41 (p : Int) : Int := IntKind.i64.wrap (IntKind.i64.wrap (0 - sgnW 64 p 1) * ofW 2 (allW 2) 2)
def de41 (p : Int) : Int := ofW 2 p 2
def upd41 (s : Int × Int) (p : Int) : Int × Int :=
  if p > 0 then (fN (plusN s.1 s.2 (fN (nu41 p) (de41 p)) (fD (nu41 p) (de41 p))) (plusD s.2 (fD (nu41 p) (de41 p))),fD (plusN s.1 s.2 (fN (nu41 p) (de41 p)) (fD (nu41 p) (de41 p))) (plusD s.2 (fD (nu41 p) (de41 p)))) else s
def Ok41 (s : Int × Int) (p : Int) : Prop := p > 0 → Sml (nu41 p) ∧ Sml (de41 p) ∧ de41 p ≠ 0 ∧ Sml s.2 ∧ Sml (fD (nu41 p) (de41 p)) ∧ s.2 ≠ 0 ∧ Sml (plusN s.1 s.2 (fN (nu41 p) (de41 p)) (fD (nu41 p) (de41 p))) ∧ Sml (plusD s.2 (fD (nu41 p) (de41 p))) ∧ plusD s.2 (fD (nu41 p) (de41 p)) ≠ 0
noncomputable def lp41 (st : LoopState) (fr : Fr) : Blk := .loop st none fr 37 #[19] (asOf Try.f41 0) (bdOf Try.f41 0)
noncomputable def St41 (fr : Fr) (s : Int × Int) : AHeap :=
  [.cells [I 0,I 0],.cells [.sl false false (mI (onesL 2))],.cells [I 3],.cells [I s.1,I s.2],.defs,lp41 .ready fr]
theorem St41_ok {fr : Fr} (hfr : (fr.all fun q => q.2.bnd 6) = true) (s : Int × Int) : ∀ x ∈ St41 fr s,blkOk 6 x = true := by
  intro x hx
  simp only [St41,lp41,List.mem_cons,List.not_mem_nil,or_false] at hx
  rcases hx with rfl | rfl | rfl | rfl | rfl | rfl <;> first | exact hfr | rfl | simp [blkOk,bndL,AVal.bnd,mI_bnd]
set_option maxHeartbeats 2000000 in
theorem y41 {fr : Fr} (f6 : fr.get 6 = .ptr 1 0) (f7 : fr.get 7 = .ptr 3 0) (hfr : (fr.all fun q => q.2.bnd 6) = true) (s : Int × Int) (p : Int) (p0 : 0 ≤ p) (p1 : p < 16) (hok : Ok41 s p) :
    CallV Try.prog (.yld 5) [I p] (St41 fr s) fun v H' => v = B true ∧ H' = St41 fr (upd41 s p) := by
  refine CallV.yldW mixed (L := 5) (fr := fr) (n := 37) (ps := [19]) rfl t41R0a t41R0b rfl (by simp) ?_
  simp only [w41R0a,putArgs,go_sem,Nat.reduceEqDiff,Nat.reduceAdd,Nat.reduceLT,Nat.reduceLeDiff,reduceIte,reduceCtorEq]
  refine ⟨rfl,?_⟩
  by_cases hp : p > 0
  · have d1 : decide (p > 0) = true := decide_eq_true hp
    obtain ⟨k1,k2,k3,k4,k5,k6,k7,k8,k9⟩ := hok hp
    obtain ⟨X,hX⟩ : ∃ X,nu41 p = X := ⟨_,rfl⟩
    obtain ⟨Z,hZ⟩ : ∃ Z,de41 p = Z := ⟨_,rfl⟩
    obtain ⟨x,hx⟩ : ∃ x,fN X Z = x := ⟨_,rfl⟩
    obtain ⟨z,hz⟩ : ∃ z,fD X Z = z := ⟨_,rfl⟩
    obtain ⟨u,v⟩ := s
    dsimp only at k4 k6 k7 k8 k9
    rw [hX,hZ,hx,hz] at k7
    rw [hX,hZ,hz] at k8 k9 k5
    rw [hX] at k1
    rw [hZ] at k2 k3
    have hu : upd41 (u,v) p = (fN (plusN u v x z) (plusD v z),fD (plusN u v x z) (plusD v z)) := by
      unfold upd41; rw [if_pos hp,hX,hZ,hx,hz]
    rw [hu]
    have e39 : ∀ H,CallV Try.prog (.fn (.func 39) [] []) [I X,I Z] H fun v H' => v = .agg [I x,I z] ∧ H' = H := fun H => by
      have := liftV (s39 X Z k1 k2 k3) rfl rfl H
      have hf : fracV X Z = .agg [I (fN X Z),I (fD X Z)] := rfl
      rw [hf,hx,hz] at this
      exact this
    have e67 : ∀ H,CallV Try.prog (.fn (.func 67) [] []) [.agg [I u,I v],.agg [I x,I z]] H fun w H' => w = .agg [I (fN (plusN u v x z) (plusD v z)),I (fD (plusN u v x z) (plusD v z))] ∧ H' = H := fun H => liftV (s67 u v x z k4 k5 k6 k7 k8 k9) rfl rfl H
    have hcu : cut true 2 [I u,I v] = .agg [I u,I v] := rfl
    have hnu : IntKind.i64.wrap (IntKind.i64.wrap (0 - sgnW 64 p 1) * ofW 2 (allW 2) 2) = X := hX
    have hde : ofW 2 p 2 = Z := hZ
    simp only [St41,lp41,w41R0b,f6,f7,d1,hcu,go_sem,Nat.reduceEqDiff,Nat.reduceAdd,Nat.reduceLT,Nat.reduceLeDiff,reduceIte,reduceCtorEq]
    refine ⟨by simp,CallKD.pure (fun H => liftV (s36 p p0 (by omega)) rfl rfl H) ?_⟩
    simp only [f6,f7,hcu,go_sem,Nat.reduceEqDiff,Nat.reduceAdd,Nat.reduceLT,Nat.reduceLeDiff,reduceIte,reduceCtorEq]
    refine ⟨by simp,CallKD.pure (fun H => liftV (s40 2) (by simp [bndL,AVal.bnd,mI_bnd]) rfl H) ?_⟩
    simp only [f6,f7,go_sem,Nat.reduceEqDiff,Nat.reduceAdd,Nat.reduceLT,Nat.reduceLeDiff,reduceIte,reduceCtorEq]
    refine ⟨by simp,CallKD.pure (fun H => liftV (s38 2 (by omega) (allW 2)) (by simp [bndL,AVal.bnd,mI_bnd]) rfl H) ?_⟩
    simp only [f6,f7,hnu,go_sem,Nat.reduceEqDiff,Nat.reduceAdd,Nat.reduceLT,Nat.reduceLeDiff,reduceIte,reduceCtorEq]
    refine ⟨by simp,CallKD.pure (fun H => liftV (s38 2 (by omega) p) (by simp [bndL,AVal.bnd,mI_bnd]) rfl H) ?_⟩
    rw [hde]
    simp only [f6,f7,go_sem,Nat.reduceEqDiff,Nat.reduceAdd,Nat.reduceLT,Nat.reduceLeDiff,reduceIte,reduceCtorEq]
    refine ⟨by simp,CallKD.pure e39 ?_⟩
    simp only [f6,f7,go_sem,Nat.reduceEqDiff,Nat.reduceAdd,Nat.reduceLT,Nat.reduceLeDiff,reduceIte,reduceCtorEq]
    refine CallKD.pure e67 ?_
    simp only [f6,f7,go_sem,Nat.reduceEqDiff,Nat.reduceAdd,Nat.reduceLT,Nat.reduceLeDiff,reduceIte,reduceCtorEq]
    exact ⟨idρ 6,St41 fr (fN (plusN u v x z) (plusD v z),fD (plusN u v x z) (plusD v z)),WkB (H := St41 fr (fN (plusN u v x z) (plusD v z),fD (plusN u v x z) (plusD v z))) rfl (St41_ok hfr _) (by simp),rfl,rfl⟩
  · have d1 : decide (p > 0) = false := decide_eq_false hp
    have hu : upd41 s p = s := by unfold upd41; rw [if_neg hp]
    rw [hu]
    simp only [St41,lp41,w41R0b,f6,f7,d1,go_sem,Nat.reduceEqDiff,Nat.reduceAdd,Nat.reduceLT,Nat.reduceLeDiff,reduceIte,reduceCtorEq]
    exact ⟨idρ 6,St41 fr s,WkB (H := St41 fr s) rfl (St41_ok hfr _) (by simp),rfl,rfl⟩
instance (x : Int) : Decidable (Sml x) := inferInstanceAs (Decidable (_ ∧ _))
instance (s : Int × Int) (p : Int) : Decidable (Ok41 s p) := inferInstanceAs (Decidable (_ → _ ∧ _ ∧ _ ∧ _ ∧ _ ∧ _ ∧ _ ∧ _ ∧ _))
theorem ok41_dec : ∀ i,i < 4 → Ok41 (((partsL 3).take i).foldl upd41 (0,1)) ((partsL 3).getD i 0) := by decide +kernel
theorem dom41 (pre : List Int) (p : Int) (post : List Int) (h : partsL 3 = pre ++ p :: post) : Ok41 (pre.foldl upd41 (0,1)) p := by
  have hl : (partsL 3).length = 4 := by decide +kernel
  have h4 : pre.length < 4 := by rw [h] at hl; simp at hl; omega
  have := ok41_dec pre.length h4
  rw [h,List.take_left',List.getD_eq_getElem?_getD,List.getElem?_append_right (Nat.le_refl _),Nat.sub_self] at this
  · exact this
  · rfl
theorem end41 : (partsL 3).foldl upd41 (0,1) = (3,1) := by decide +kernel
set_option maxHeartbeats 2000000 in
theorem s41 : Abs.Spec Try.prog 41 [.sl false false (mI (onesL 2)),I 3] [] fun v H' => H' = [] ∧ v = .tup [.agg [I 3,I 1],I 0] := by
  refine Abs.Spec.walk mixed fn41 nn41 t41 q41 nt41 (by simp) ?_
  simp only [w41,go_sem,Nat.reduceEqDiff,Nat.reduceAdd,Nat.reduceLT,Nat.reduceLeDiff,reduceIte,reduceCtorEq]
  refine CallK.pure (CallV.of_spec (first := []) (cap := []) (Spec.lend (s33 2 (by omega) (by omega) 3 (by omega) (by decide)) rfl ?_)) ?_
  · simp [vle,vle.vleL,bndL,AVal.bnd,mI_bnd]
    exact ⟨rfl,of_eq_true (mI_sz (xs := [3])),rfl⟩
  simp only [go_sem,Nat.reduceEqDiff,Nat.reduceAdd,Nat.reduceLT,Nat.reduceLeDiff,reduceIte,reduceCtorEq]
  refine CallK.pure (liftV (s66 0) rfl rfl _) ?_
  simp only [go_sem,Nat.reduceEqDiff,Nat.reduceAdd,Nat.reduceLT,Nat.reduceLeDiff,reduceIte,reduceCtorEq]
  refine CallK.pure (liftV (s35 3) rfl rfl _) ?_
  simp only [go_sem,Nat.reduceEqDiff,Nat.reduceAdd,Nat.reduceLT,Nat.reduceLeDiff,reduceIte,reduceCtorEq]
  generalize hfr : (List.cons (18,_) _ : Fr) = fr
  have f4 : Fr.get fr 4 = .ptr 0 0 := by rw [← hfr]; rfl
  have f6 : Fr.get fr 6 = .ptr 1 0 := by rw [← hfr]; rfl
  have f7 : Fr.get fr 7 = .ptr 3 0 := by rw [← hfr]; rfl
  have f18 : Fr.get fr 18 = .fn (.func 64) [] [.rp [I 3]] := by rw [← hfr]; rfl
  have hbnd : (List.all fr fun q => q.2.bnd 6) = true := by rw [← hfr]; simp [AVal.bnd,bndL,mI_bnd]
  clear hfr
  refine W_range rfl f18 ?_
  refine (s64 (St := St41 fr) (upd := upd41) (L := 5) (b := 6) (ok := Ok41) (fun _ => rfl) (fun s => St41_ok hbnd s) (by omega) (fun s p p0 p1 hok => y41 f6 f7 hbnd s p p0 p1 hok) 3 (by omega) (by omega) (0,1) dom41).mono ?_
  rintro v H' ⟨_,rfl⟩
  refine ⟨.ready,none,rfl,(fun h => by cases h),?_⟩
  show KQ _ _ .norm _ _ _ _
  rw [end41]
  have hcu : cut true 2 [I 3,I 1] = .agg [I 3,I 1] := rfl
  simp only [St41,lp41,w41T0,f4,f6,f7,hcu,go_sem,Nat.reduceEqDiff,Nat.reduceAdd,Nat.reduceLT,Nat.reduceLeDiff,reduceIte,reduceCtorEq]
  refine leafCTM (p := 0 + 2 ≤ 2 ∧ (true = false → 2 = 1)) (H' := [.cells [I 3,I 1],.cells [.sl false false (mI (onesL 2))],.cells [I 3],.cells [I 3,I 1],.dead,.dead]) (.agg [I 3,I 1]) (.tup [.agg [I 3,I 1],I 0]) rfl ?_ (by simp) ?_ ⟨rfl,rfl⟩
  · have : Fr.get ((5,I 0) :: (36,.agg [I 3,I 1]) :: fr) 4 = .ptr 0 0 := f4
    rw [this]; rfl
  · simp [vle,vle.vleL,bndL,AVal.bnd,Fr.get]
theorem s17 : Abs.Spec Try.prog 17 [] [] fun v H' => H' = [] ∧ v = B true := by
  refine Abs.Spec.walk mixed fn17 nn17 t17 q17 nt17 (by simp) ?_
  have z0 : ((0 : Int) == 0) = true := rfl
  simp only [w17,go_sem,Nat.reduceEqDiff,Nat.reduceAdd,Nat.reduceLT,Nat.reduceLeDiff,reduceIte,reduceCtorEq]
  refine CallK.pure (CallV.of_spec (first := []) (cap := []) (Spec.lend s41 rfl ?_)) ?_
  · refine ⟨vle_mI (cs := mI (onesL 2)) rfl (by simp) rfl rfl,rfl,trivial⟩
  have hcu : cut true 2 [I 3,I 1] = .agg [I 3,I 1] := rfl
  simp only [List.getD_cons_zero,List.getD_cons_succ,z0,hcu,go_sem,Nat.reduceEqDiff,Nat.reduceAdd,Nat.reduceLT,Nat.reduceLeDiff,reduceIte,reduceCtorEq]
  exact leaf (B true) rfl ⟨rfl,rfl⟩
end Go.Proofs.Ytlonaefihjdkpaa
