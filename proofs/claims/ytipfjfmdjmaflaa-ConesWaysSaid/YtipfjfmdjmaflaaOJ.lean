/- Contracts: a key is put into a table; Contracts: matrices and vectors. -/
import Derived.Test.YtipfjfmdjmaflaaOH
import Derived.Test.YtipfjfmdjmaflaaOI
import Derived.Test.YtipfjfmdjmaflaaAN
import Derived.Test.YtipfjfmdjmaflaaKB
namespace Go.Proofs.Ytipfjfmdjmaflaa
open Go.Abs AVal
set_option linter.unusedSimpArgs false
attribute [local go_sem] W_skip W_keep KQ_canon canon Fr.norm W_seq W_block W_scope W_exit W_ret W_ops W_draw KQ_nil KQ_norm_seq KQ_exit_seq KQ_ret_seq KQ_norm_block KQ_ret_block KQ_exit_block KQ_exit_loop KQ_ret_loop O_nil O_cons S_call S_mv SE_mv SD_mv S_pick SE_pick SD_pick S_bin SE_bin SD_bin S_eqb SE_eqb SD_eqb S_eqv SE_eqv SD_eqv S_eqnil SE_eqnil SD_eqnil S_un SE_un SD_un S_conv SE_conv SD_conv S_mkfn SE_mkfn SD_mkfn S_load SE_load SD_load S_nilck SE_nilck SD_nilck S_slS SE_slS SD_slS S_slP SE_slP SD_slP S_fldA SE_fldA SD_fldA S_fld SE_fld SD_fld S_ixS SE_ixS SD_ixS S_ixP SE_ixP SD_ixP S_ixV SE_ixV SD_ixV S_ixStr SE_ixStr SD_ixStr S_ext SE_ext SD_ext S_len SE_len SD_len S_lenStr SE_lenStr SD_lenStr S_lenc SE_lenc SD_lenc S_mn SE_mn SD_mn S_mx SE_mx SD_mx S_build SE_build SD_build S_alloc SD_alloc S_box SD_box S_bslice SD_bslice S_mksl SD_mksl S_store SD_store S_append SD_append S_copy SD_copy S_clr SD_clr S_mlen SE_mlen SD_mlen S_mget SE_mget SD_mget S_mval SE_mval SD_mval S_mentry SE_mentry SD_mentry S_mkmap SD_mkmap S_mset SD_mset S_mrange SD_mrange S_mnext mlenA mgetA mvalA mentryA msetA mrangeA cells_mp isCell_mp cellsOk_mp aq_some aa_some al_some alA_some aqd_some aad_some ald_some ape_some D_done D_both D_early D_step SE_call SD_call IOpd.ev Fr.get Fr.put Fr.putd entryFr pickA binA binI isSh shI eqbA eqvA ints ints_mI Option.map_some eqnilA unA convA loadA nilckA intA slSA slPA fldAA fldVA ixSA ixPA ixVA ixStrA extA lenA lenStrA mnA mxA AVal.fits fillA fillOk buildA opa srcA appA stoA copA clrA rdFree zeros List.length_nil List.length_cons List.length_map List.map_cons List.map_nil Option.map_some Option.map_none if_true if_false ite_true ite_false true_and and_true and_self implies_true forall_const true_implies Bool.false_eq_true Bool.not_true Bool.not_false decide_eq_true_eq decide_eq_false_iff_not eq_self List.getElem?_cons_zero List.getElem?_cons_succ List.getElem?_nil List.set_cons_zero List.set_cons_succ List.nil_append List.cons_append List.append_nil List.replicate_zero List.replicate_succ Nat.zero_add false_implies rng_lt rng_end rng_get cells_I cells_B cells_sl cut_one Int.toNat_natCast Int.natCast_nonneg List.headD_cons Int.lt_irrefl not_false_eq_true decide_false decide_true mI_length mI_cells mI_sz mI_isCell mI_mid mI_append mI_take mI_drop cells_val cells_own cells_agg isCell_I isCell_B isCell_nil isCell_sl isCell_own isCell_ptr isCell_fn isCell_rp isCell_yld cellsOk_I cellsOk_B cellsOk_nil cellsOk_sl cellsOk_own cellsOk_ptr cellsOk_fn cellsOk_rp cellsOk_yld cellsOk_agg cells_nil cells_ptr cells_fn cells_rp List.all_cons List.all_nil Bool.and_true Nat.mul_one Nat.zero_mul Nat.one_mul List.take_zero List.take_nil List.drop_nil List.drop_zero List.not_mem_nil Nat.le_refl Nat.zero_le mS_length mS_cells mS_sz mS_isCell mS_mid mS_append mS_take mS_drop cells_sI isCell_sI cellsOk_sI sI_eq succ_le_self' List.take_succ_cons List.drop_succ_cons List.take_length beq_self_eq_true List.mem_cons or_false forall_eq mI_put mI_rep O_guard' D_earlyG' D_stepG' W_cond' G_tt G_tf G_ft G_ff GE_tt GE_tf GE_ft GE_ff GS_tt GS_tf GS_ft GS_ff G_u GE_u GS_u IC_t IC_f xft xff xtt xtf z00 z20 z22 z02 zz tn0
theorem and_next {p : Nat} (hp : p ≤ 40) {m : Nat} (hm : m < 2 ^ p) : bitsI .and .i64 (IntKind.i64.wrap ((m : Int) + 1)) ((2 ^ p : Nat) - 1 : Int) = (((m + 1) % 2 ^ p : Nat) : Int) := by
  have h2 : 2 ^ p ≤ 2 ^ 40 := Nat.pow_le_pow_right (by decide) hp
  rw [wrap64 (by omega) (by omega),and_low hp,show (m : Int) + 1 = ((m + 1 : Nat) : Int) by omega,BitVec.ofInt_natCast,BitVec.toNat_ofNat,Nat.mod_eq_of_lt (show m + 1 < 2 ^ 64 by omega)]
set_option maxRecDepth 20000 in
set_option maxHeartbeats 4000000 in
/-- The part that looks for the place. -/
theorem tail108 {b0 : Nat} {R : AVal → AHeap → Prop} {H : AHeap} {fr : Fr} {mi ki p : Nat} {ks : List Int} {k : Int} (hmi : H[mi]? = some (.cells [.own ki 0 (2 ^ p) (2 ^ p) 1,I (cnt ks)])) (hki : H[ki]? = some (.cells (mI ks))) (hne : mi ≠ ki) (hok : HOk (LPb b0) H) (hB : b0 ≤ H.length)
    (hT : Tab ks p) (hp : p ≤ 37) (hc : cnt ks < 2 ^ p) (hk : k ≠ 0) (h0 : fr.get 0 = .ptr mi 0) (h1 : fr.get 1 = I k)
    (hold : ∀ fr' : Fr,fr'.get 4 = B false → k ∈ ks → retA b0 r108 R .ret fr' H [])
    (hnew : ∀ (fr' : Fr) (ks' : List Int),fr'.get 4 = .val (.bool true) → k ∉ ks → Tab ks' p → cnt ks' = cnt ks + 1 → (∀ z,z ≠ 0 → (z ∈ ks' ↔ z ∈ ks ∨ z = k)) → retA b0 r108 R .ret fr' ((H.set ki (.cells (mI ks'))).set mi (.cells [.own ki 0 (2 ^ p) (2 ^ p) 1,I (cnt ks' : Nat)])) []) :
    W ⟨Try.prog,b0,107,true⟩ (retA b0 r108 R) c108T1 [] fr H [] := by
  have h2 : 2 ^ p ≤ 2 ^ 37 := Nat.pow_le_pow_right (by decide) hp
  have hl := hT.len
  have hml : (mI ks).length = 2 ^ p := by rw [mI_length,hl]
  obtain ⟨N,hN⟩ : ∃ N,2 ^ p = N := ⟨_,rfl⟩
  have eN : IntKind.i64.wrap ((N : Int) - 1) = ((2 ^ p : Nat) - 1 : Int) := by rw [wrap64 (by omega) (by omega),hN]
  have eh : bitsI .and .i64 ((IntKind.i64.wrap (k * 2654435761)).fdiv (2 ^ min (Int.toNat 9) 64)) ((2 ^ p : Nat) - 1 : Int) = ((hm k p : Nat) : Int) := and_low (by omega) _
  rw [hN] at hmi
  simp only [w108T1,h0,h1,hmi,eN,eh,go_sem,Nat.reduceEqDiff,Nat.reduceAdd,Nat.reduceLT,Nat.reduceLeDiff,reduceIte,reduceCtorEq]
  obtain ⟨t0,ht0,hz0⟩ := hT.room hc (hm k p)
  have hN0 : 0 < N := by omega
  refine ⟨by decide,W_loop (fun q : { t : Nat // t ≤ t0 ∧ ∀ s,s < t → ks.getD ((hm k p + s) % 2 ^ p) 0 ≠ 0 ∧ ks.getD ((hm k p + s) % 2 ^ p) 0 ≠ k } => ([(0,.ptr mi 0),(1,I k),(8,I (((hm k p + q.1) % 2 ^ p : Nat)))],H)) (fun q => t0 - q.1)
    ⟨0,by omega,fun s hs => absurd hs (Nat.not_lt_zero s)⟩ (idρ _) (Wk.ok (LP := LPb b0) hok (fun _ _ h => h) hB (by
      simp only [List.mem_cons,List.not_mem_nil,or_false,forall_eq_or_imp,forall_eq]
      exact ⟨⟨rfl,by simp [vid]; exact (List.getElem?_eq_some_iff.1 hmi).1⟩,⟨rfl,rfl⟩,by rw [Nat.add_zero,Nat.mod_eq_of_lt (hm_lt k p)]; rfl,rfl⟩) fun _ h => by cases h) ?_⟩
  rintro ⟨t,ht,hs⟩
  dsimp only
  obtain ⟨m,hm'⟩ : ∃ m,(hm k p + t) % 2 ^ p = m := ⟨_,rfl⟩
  have hmN : m < N := by rw [← hm',← hN]; exact Nat.mod_lt _ (by omega)
  have hmi' : (m : Int) < N := by omega
  have gm := mI_hd (xs := ks) (i := m) (by omega)
  rw [hm']
  obtain ⟨z,hz⟩ : ∃ z,ks.getD m 0 = z := ⟨_,rfl⟩
  rw [hz] at gm
  have lmi := (List.getElem?_eq_some_iff.1 hmi).1
  have mkl : m < ks.length := by omega
  by_cases hzk : z = k
  · subst hzk
    have d1 : (z != 0) = true := bne_iff_ne.2 hk
    have d2 : (z != z) = false := bne_self_eq_false _
    have d3 : (z == z) = true := beq_self_eq_true _
    simp only [w108L2,w108T3,hmi,hki,hmi',gm,d1,d2,d3,go_sem,Nat.reduceEqDiff,Nat.reduceAdd,Nat.reduceLT,Nat.reduceLeDiff,reduceIte,reduceCtorEq]
    refine ⟨by omega,by omega,by omega,hold _ rfl ?_⟩
    rw [← hz,List.getD_eq_getElem?_getD,List.getElem?_eq_getElem mkl]
    exact List.getElem_mem mkl
  by_cases hz00 : z = 0
  · subst hz00
    have d1 : ((0 : Int) != 0) = false := rfl
    have d3 : ((0 : Int) == k) = false := by rw [beq_eq_false_iff_ne]; exact hzk
    have gs : ∀ b,(H.set ki b)[mi]? = some (.cells [.own ki 0 N N 1,I (cnt ks)]) := fun b => by rw [List.getElem?_set_ne (Ne.symm hne)]; exact hmi
    have ec : IntKind.i64.wrap ((cnt ks : Int) + 1) = ((cnt ks + 1 : Nat) : Int) := by rw [wrap64 (by omega) (by omega)]; omega
    simp only [w108L2,w108T3,hmi,hki,hmi',gm,d1,d3,gs,ec,mI_put,set_put,mkl,List.set_cons_succ,List.set_cons_zero,go_sem,Nat.reduceEqDiff,Nat.reduceAdd,Nat.reduceLT,Nat.reduceLeDiff,reduceIte,reduceCtorEq]
    refine ⟨by omega,by omega,by omega,?_⟩
    have hT' := hT.put hk (t := t) (by omega) (by rw [hm',hz]) fun s hs' => (hs s hs').1
    rw [hm'] at hT'
    have := fun fr' h4 => hnew fr' (ks.set m k) h4 (hT.none hk (t := t) (by rw [hm',hz]) fun s h => (hs s h).2) hT' (cnt_set mkl hz hk) fun z hz' => mem_set0 mkl hz hz'
    simp only [cnt_set mkl hz hk,hN] at this
    exact this _ rfl
  have d1 : (z != 0) = true := bne_iff_ne.2 hz00
  have d2 : (z != k) = true := bne_iff_ne.2 hzk
  have htt : t ≠ t0 := fun e => hz00 (by rw [← hz,← hm',e]; exact hz0)
  simp only [w108L2,hmi,hki,hmi',gm,d1,d2,eN,go_sem,Nat.reduceEqDiff,Nat.reduceAdd,Nat.reduceLT,Nat.reduceLeDiff,reduceIte,reduceCtorEq]
  have an := and_next (p := p) (by omega) (m := m) (by omega)
  refine ⟨by omega,by omega,roundN (LP := LPb b0) hok (fun _ _ h => h) hB ⟨t + 1,by omega,fun s hst => ?_⟩ (by dsimp only; omega) rfl ?_⟩
  · by_cases hst' : s < t
    · exact hs s hst'
    · obtain rfl : s = t := by omega
      rw [hm',hz]; exact ⟨hz00,hzk⟩
  · simp only [List.mem_cons,List.not_mem_nil,or_false,forall_eq_or_imp,forall_eq]
    refine ⟨⟨rfl,by simp [vid]; exact lmi⟩,⟨rfl,rfl⟩,?_,rfl⟩
    show AVal.val (.int .i64 (bitsI .and .i64 (IntKind.i64.wrap ((m : Int) + 1)) ((2 ^ p : Nat) - 1 : Int))) = _
    rw [an,← hm',Nat.mod_add_mod,Nat.add_assoc]
theorem set_same {H : AHeap} {i : Nat} {b : Blk} (h : H[i]? = some b) : H.set i b = H := List.ext_getElem? fun j => by
  rw [List.getElem?_set]
  split
  · rename_i e; subst e; rw [if_pos (List.getElem?_eq_some_iff.1 h).1,h]
  · rfl
structure TabIn (ks : List Int) (k : Int) (ks' : List Int) (p' : Nat) (b : Bool) : Prop where
  tab : Tab ks' p'
  new : b = true ↔ k ∉ ks
  mem : ∀ z,z ≠ 0 → (z ∈ ks' ↔ z ∈ ks ∨ z = k)
  cnt : cnt ks' ≤ cnt ks + if b then 1 else 0
theorem tab_hok {b0 : Nat} {H : AHeap} {mi ki N : Nat} {c : Int} {ks' : List Int} (hok : HOk (LPb b0) H) (lk : ki < H.length) : HOk (LPb b0) ((H.set ki (.cells (mI ks'))).set mi (.cells [.own ki 0 N N 1,I c])) := by
  refine (hok.set ?_).set ?_
  · simp [blkN,mI_bnd]
  · simp [blkN,vid]; omega
set_option maxRecDepth 20000 in
set_option maxHeartbeats 4000000 in
/-- With room in the table. -/
theorem s108r {H : AHeap} {mi ki p : Nat} {ks : List Int} {k : Int} (hmi : H[mi]? = some (.cells [.own ki 0 (2 ^ p) (2 ^ p) 1,I (cnt ks)])) (hki : H[ki]? = some (.cells (mI ks))) (hne : mi ≠ ki) (hok : HOk (LPb H.length) H)
    (hT : Tab ks p) (hp : p ≤ 37) (hc : 2 * cnt ks < 2 ^ p) (hk : k ≠ 0) :
    Abs.Spec Try.prog 108 [.ptr mi 0,I k] H fun v H' => ∃ ks' b,TabIn ks k ks' p b ∧ v = .val (.bool b) ∧ H' = (H.set ki (.cells (mI ks'))).set mi (.cells [.own ki 0 (2 ^ p) (2 ^ p) 1,I (cnt ks' : Nat)]) := by
  refine Abs.Spec.walk mixed fn108 nn108 t108 q108 nt108 (by simp) ?_
  have h2 : 2 ^ p ≤ 2 ^ 37 := Nat.pow_le_pow_right (by decide) hp
  have lmi := (List.getElem?_eq_some_iff.1 hmi).1
  have lki := (List.getElem?_eq_some_iff.1 hki).1
  have em : IntKind.i64.wrap (2 * (cnt ks : Int)) = 2 * (cnt ks : Int) := wrap64 (by omega) (by omega)
  have hmi0 := hmi
  obtain ⟨N,hN⟩ : ∃ N,2 ^ p = N := ⟨_,rfl⟩
  rw [hN] at hmi0
  have dg : decide (2 * (cnt ks : Int) ≥ (N : Int)) = false := decide_eq_false (by omega)
  simp only [w108,hmi0,em,dg,List.getElem?_cons_succ,List.getElem?_cons_zero,go_sem,Nat.reduceEqDiff,Nat.reduceAdd,Nat.reduceLT,Nat.reduceLeDiff,reduceIte,reduceCtorEq]
  have hTin : ∀ {ks' : List Int},k ∉ ks → Tab ks' p → cnt ks' = cnt ks + 1 → (∀ z,z ≠ 0 → (z ∈ ks' ↔ z ∈ ks ∨ z = k)) → TabIn ks k ks' p true := fun h1 h2 h3 h4 => ⟨h2,⟨fun _ => h1,fun _ => rfl⟩,h4,by simp [h3]⟩
  refine tail108 hmi hki hne hok (Nat.le_refl _) hT hp (by omega) hk rfl rfl (fun fr' h4 hin => ?_) fun fr' ks' h4 hin hT' hc' hm' => ?_
  · have es : (H.set ki (.cells (mI ks))).set mi (.cells [.own ki 0 (2 ^ p) (2 ^ p) 1,I (cnt ks : Nat)]) = H := by
      rw [set_same hki,set_same hmi]
    exact leafN (LP := LPb H.length) (B false) h4 hok (fun _ _ h => h) (Nat.le_refl _) rfl ⟨ks,false,⟨hT,⟨fun h => (by cases h),fun h => absurd hin h⟩,fun z _ => ⟨.inl,fun h => h.elim id fun e => by subst e; exact hin⟩,by simp⟩,rfl,es.symm⟩
  · exact leafN (LP := LPb H.length) (.val (.bool true)) h4 (tab_hok hok lki) (fun _ _ h => h) (by simp) rfl ⟨ks',true,hTin hin hT' hc' hm',rfl,rfl⟩
theorem take_snoc0 {l : List Int} {k : Nat} (h : k < l.length) : l.take (k + 1) = l.take k ++ [l.getD k 0] := by
  rw [List.take_add_one,List.getD_eq_getElem?_getD,List.getElem?_eq_getElem h]; rfl
theorem hok4 {b0 : Nat} {ki N : Nat} {c : Int} {ks cur : List Int} {nx : List (List Int)} (hki : ki < 4) : HOk (LPb b0) [.cells [.own ki 0 N N 1,I c],.cells (mI ks),.cells (mS nx),.cells (mI cur)] := fun i b hb => by
  rcases i with _ | _ | _ | _ | i
  · cases hb; simp [blkN,vid]; omega
  · cases hb; simp [blkN,mI_bnd]
  · cases hb; simp [blkN,mS_bnd]
  · cases hb; simp [blkN,mI_bnd]
  · simp at hb
theorem hok3 {b0 : Nat} {N : Nat} {c : Int} {ks : List Int} {nx : List (List Int)} : HOk (LPb b0) [.cells [.own 1 0 N N 1,I c],.cells (mI ks),.cells (mS nx)] := fun i b hb => by
  rcases i with _ | _ | _ | i
  · cases hb; simp [blkN,vid]
  · cases hb; simp [blkN,mI_bnd]
  · cases hb; simp [blkN,mS_bnd]
  · simp at hb
def TabH (ks : List Int) (nx : List (List Int)) (ks' : List Int) (p' : Nat) (H' : AHeap) : Prop :=
  H' = [.cells [.own 1 0 (2 ^ p') (2 ^ p') 1,I (cnt ks' : Nat)],.cells (mI ks'),.cells (mS nx)] ∨ H' = [.cells [.own 3 0 (2 ^ p') (2 ^ p') 1,I (cnt ks' : Nat)],.cells (mI ks),.cells (mS nx),.cells (mI ks')]
set_option maxRecDepth 20000 in
set_option maxHeartbeats 4000000 in
theorem s108 (nx : List (List Int)) (ks : List Int) (p : Nat) (k : Int) (hT : Tab ks p) (hp1 : 1 ≤ p) (hp : p ≤ 37) (hc : 2 * cnt ks ≤ 2 ^ p) (hcb : cnt ks ≤ 27500000000) (hk : k ≠ 0) :
    Abs.Spec Try.prog 108 [.ptr 0 0,I k] [.cells [.own 1 0 (2 ^ p) (2 ^ p) 1,I (cnt ks)],.cells (mI ks),.cells (mS nx)] fun v H' => ∃ ks' p' b,TabIn ks k ks' p' b ∧ 1 ≤ p' ∧ p' ≤ 37 ∧ 2 * cnt ks' ≤ 2 ^ p' ∧ v = .val (.bool b) ∧ TabH ks nx ks' p' H' := by
  have hev : 2 ^ p = 2 * 2 ^ (p - 1) := by rw [← Nat.pow_succ']; congr 1; omega
  by_cases hgr : 2 * cnt ks < 2 ^ p
  · refine (s108r (H := [.cells [.own 1 0 (2 ^ p) (2 ^ p) 1,I (cnt ks)],.cells (mI ks),.cells (mS nx)]) (mi := 0) (ki := 1) rfl rfl (by decide) hok3 hT hp hgr hk).mono fun v H' ⟨ks',b,h1,h2,h3⟩ => ⟨ks',p,b,h1,hp1,hp,?_,h2,.inl h3⟩
    have := h1.cnt
    split at this <;> omega
  refine Abs.Spec.walk mixed fn108 nn108 t108 q108 nt108 (by simp) ?_
  have h2 : 2 ^ p ≤ 2 ^ 37 := Nat.pow_le_pow_right (by decide) hp
  have em : IntKind.i64.wrap (2 * (cnt ks : Int)) = 2 * (cnt ks : Int) := wrap64 (by omega) (by omega)
  have hq : 2 ^ (p + 1) = 2 * 2 ^ p := Nat.pow_succ'
  have hp' : p + 1 ≤ 37 := by
    apply Classical.byContradiction
    intro h
    have := Nat.pow_le_pow_right (show 2 > 0 by decide) (show 38 ≤ p + 1 by omega)
    omega
  obtain ⟨N,hN⟩ : ∃ N,2 ^ p = N := ⟨_,rfl⟩
  obtain ⟨M,hM⟩ : ∃ M,2 ^ (p + 1) = M := ⟨_,rfl⟩
  rw [hN] at hgr hc hev h2 ⊢
  rw [hM,hN] at hq
  have dg : decide (2 * (cnt ks : Int) ≥ (N : Int)) = true := decide_eq_true (by omega)
  have eM : IntKind.i64.wrap (2 * (N : Int)) = (M : Int) := by rw [wrap64 (by omega) (by omega)]; omega
  simp only [w108,em,dg,eM,List.getElem?_cons_succ,List.getElem?_cons_zero,List.set_cons_succ,List.set_cons_zero,go_sem,Nat.reduceEqDiff,Nat.reduceAdd,Nat.reduceLT,Nat.reduceLeDiff,reduceIte,reduceCtorEq]
  have hl := hT.len
  rw [hN] at hl
  have hml : (mI ks).length = N := by rw [mI_length,hl]
  refine ⟨⟨Int.le_refl _,by omega,by omega⟩,W_loop (fun q : { q : Nat × List Int // q.1 ≤ N ∧ Tab q.2 (p + 1) ∧ cnt q.2 ≤ cnt (ks.take q.1) ∧ ∀ z,z ≠ 0 → (z ∈ q.2 ↔ z ∈ ks.take q.1) } =>
      ([(0,.ptr 0 0),(1,I k),(34,.own 1 0 N N 1),(35,I N),(36,I q.1.1)],[.cells [.own 3 0 M M 1,I (cnt q.1.2 : Nat)],.cells (mI ks),.cells (mS nx),.cells (mI q.1.2)])) (fun q => N - q.1.1)
    ⟨(0,List.replicate M 0),by omega,by rw [← hM]; exact tab_zeros _,by rw [cnt_zeros]; exact Nat.zero_le _,fun z hz => by
      rw [List.take_zero]
      exact ⟨fun h => absurd (List.mem_replicate.1 h).2 hz,fun h => by cases h⟩⟩ (idρ _) (by
      have e0 : (I ((cnt (List.replicate M 0) : Nat) : Int)) = .val (.int .i64 0) := by rw [cnt_zeros]; rfl
      dsimp only
      rw [e0]
      exact Wk.ok (LP := LPb 3) (hok4 (by decide)) (fun _ _ h => h) (by simp) (by
        simp only [List.mem_cons,List.not_mem_nil,or_false,forall_eq_or_imp,forall_eq]
        exact ⟨⟨rfl,rfl⟩,⟨rfl,rfl⟩,⟨rfl,rfl⟩,⟨rfl,rfl⟩,rfl,rfl⟩) fun _ h => by cases h) ?_⟩
  rintro ⟨⟨i,cur⟩,hi,hTc,hcc,hmc⟩
  dsimp only at hi hTc hcc hmc ⊢
  have hcl : cnt (ks.take i) ≤ cnt ks := List.Sublist.countP_le (List.take_sublist i ks)
  by_cases hiN : i < N
  · have d1 : (i : Int) < N := by omega
    have gi := mI_hd (xs := ks) (i := i) (by omega)
    have ei : IntKind.i64.wrap ((i : Int) + 1) = ((i + 1 : Nat) : Int) := by rw [wrap64 (by omega) (by omega)]; omega
    have tk := take_snoc0 (l := ks) (k := i) (by omega)
    obtain ⟨z,hz⟩ : ∃ z,ks.getD i 0 = z := ⟨_,rfl⟩
    rw [hz] at gi tk
    by_cases hz0 : z = 0
    · subst hz0
      have d2 : ((0 : Int) != 0) = false := rfl
      simp only [w108L0,d1,decide_true,gi,d2,ei,go_sem,Nat.reduceEqDiff,Nat.reduceAdd,Nat.reduceLT,Nat.reduceLeDiff,reduceIte,reduceCtorEq]
      refine ⟨by omega,roundN (LP := LPb 3) (hok4 (by decide)) (fun _ _ h => h) (by simp) ⟨(i + 1,cur),by omega,hTc,?_,fun z hz => ?_⟩ (by dsimp only; omega) rfl (by
        simp only [List.mem_cons,List.not_mem_nil,or_false,forall_eq_or_imp,forall_eq]
        exact ⟨⟨rfl,rfl⟩,⟨rfl,rfl⟩,⟨rfl,rfl⟩,⟨rfl,rfl⟩,rfl,rfl⟩)⟩
      · dsimp only; rw [tk]; exact Nat.le_trans hcc (List.Sublist.countP_le (List.sublist_append_left _ _))
      · dsimp only; rw [tk,hmc z hz,List.mem_append,List.mem_singleton]
        exact ⟨.inl,fun h => h.elim id fun e => absurd e hz⟩
    · have d2 : (z != 0) = true := bne_iff_ne.2 hz0
      have hroom : 2 * cnt cur < 2 ^ (p + 1) := by
        rw [hM]
        have hsub : cnt (ks.take i) + 1 ≤ cnt ks := by
          have e1 : cnt (ks.take (i + 1)) = cnt (ks.take i) + 1 := by rw [tk]; unfold cnt; rw [List.countP_append]; simp [d2]
          have e2 : cnt (ks.take (i + 1)) ≤ cnt ks := List.Sublist.countP_le (List.take_sublist _ ks)
          omega
        omega
      have h108 := s108r (H := [.cells [.own 3 0 (2 ^ (p + 1)) (2 ^ (p + 1)) 1,I (cnt cur : Nat)],.cells (mI ks),.cells (mS nx),.cells (mI cur)]) (mi := 0) (ki := 3) (k := z) rfl rfl (by decide) (hok4 (by decide)) hTc hp' hroom hz0
      rw [hM] at h108
      simp only [w108L0,d1,decide_true,gi,d2,ei,go_sem,Nat.reduceEqDiff,Nat.reduceAdd,Nat.reduceLT,Nat.reduceLeDiff,reduceIte,reduceCtorEq]
      refine ⟨by omega,CallK.by (CallV.of_spec (first := []) (cap := []) h108) fun v H' ⟨cur',b,hin,hv,hH⟩ => ?_⟩
      subst hv hH
      simp only [ei,List.set_cons_succ,List.set_cons_zero,go_sem,Nat.reduceEqDiff,Nat.reduceAdd,Nat.reduceLT,Nat.reduceLeDiff,reduceIte,reduceCtorEq]
      refine roundN (LP := LPb 3) (hok4 (by decide)) (fun _ _ h => h) (by simp) ⟨(i + 1,cur'),by omega,hin.tab,?_,fun w hw => ?_⟩ (by dsimp only; omega) rfl (by
        simp only [List.mem_cons,List.not_mem_nil,or_false,forall_eq_or_imp,forall_eq]
        exact ⟨⟨rfl,rfl⟩,⟨rfl,rfl⟩,⟨rfl,rfl⟩,⟨rfl,rfl⟩,rfl,rfl⟩)
      · dsimp only
        have e1 : cnt (ks.take (i + 1)) = cnt (ks.take i) + 1 := by rw [tk]; unfold cnt; rw [List.countP_append]; simp [d2]
        have := hin.cnt
        split at this <;> omega
      · dsimp only; rw [tk,hin.mem w hw,hmc w hw,List.mem_append,List.mem_singleton]
  · have d1 : ¬ (i : Int) < N := by omega
    obtain rfl : i = N := by omega
    simp only [w108L0,d1,decide_false,go_sem,Nat.reduceEqDiff,Nat.reduceAdd,Nat.reduceLT,Nat.reduceLeDiff,reduceIte,reduceCtorEq]
    have tf : ks.take i = ks := List.take_of_length_le (by omega)
    rw [tf] at hmc hcc
    have hN1 : 1 ≤ 2 ^ (p + 1) := Nat.one_le_two_pow
    have cc2 : 2 * cnt cur ≤ M := by omega
    have cc : cnt cur < 2 ^ (p + 1) := by rw [hM] at hN1 ⊢; omega
    have hki : (k ∈ cur ↔ k ∈ ks) := hmc k hk
    refine tail108 (p := p + 1) (mi := 0) (ki := 3) (by rw [hM]; rfl) rfl (by decide) (hok4 (b0 := 3) (by decide)) (by simp) hTc hp' cc hk rfl rfl (fun fr' h4 hin => ?_) fun fr' ks' h4 hin hT' hc' hm' => ?_
    · refine leafN (LP := LPb 3) (B false) h4 (hok4 (b0 := 3) (by decide)) (fun _ _ h => h) (by simp) rfl ⟨cur,p + 1,false,⟨hTc,⟨fun h => (by cases h),fun h => absurd (hki.1 hin) h⟩,fun z hz => ?_,by simp; omega⟩,by omega,hp',by omega,rfl,.inr (by rw [hM])⟩
      rw [hmc z hz]
      exact ⟨.inl,fun h => h.elim id fun e => by subst e; exact hki.1 hin⟩
    · rw [hM]
      refine leafN (LP := LPb 3) (.val (.bool true)) h4 (tab_hok (hok4 (b0 := 3) (by decide)) (by simp)) (fun _ _ h => h) (by simp) rfl ⟨ks',p + 1,true,⟨hT',⟨fun _ => fun h => hin (hki.2 h),fun _ => rfl⟩,fun z hz => by rw [hm' z hz,hmc z hz],by simp; omega⟩,by omega,hp',by omega,rfl,.inr (by rw [hM]; rfl)⟩
open Go.Abs AVal
theorem s24 (nn t : Bool) (xs : List Int) (lo hi : Int) (hl : xs.length < 9223372036854775808) : Abs.Spec Try.prog 24 [.sl nn t (mI xs),I lo,I hi] [] fun v H' => H' = [] ∧ v = B (Sp.numbers xs lo hi) := by
  refine Abs.Spec.walk mixed fn24 nn24 t24 q24 nt24 (by simp) ?_
  simp only [w24,go_sem,Nat.reduceEqDiff,Nat.reduceAdd,Nat.reduceLT,Nat.reduceLeDiff,reduceIte,reduceCtorEq]
  refine W_loop (fun p : { p : List Int × List Int // p.1 ++ p.2 = xs ∧ Sp.numbers xs lo hi = Sp.numbers p.2 lo hi } => ([(1,I lo),(2,I hi),(9,sl nn t (mI xs)),(10,I xs.length),(11,I p.1.1.length)],[])) (fun p => p.1.2.length) ⟨([],xs),rfl,rfl⟩ [] (Wk.nil (by simp [fle,vle,Fr.get,mI_bnd])) ?_
  rintro ⟨⟨pre,suf⟩,hp,hinv⟩
  dsimp only at hp hinv
  subst hp
  cases suf with
  | nil =>
    simp only [w24L0,w24T1,go_sem,Nat.reduceEqDiff,Nat.reduceAdd,Nat.reduceLT,Nat.reduceLeDiff,reduceIte,reduceCtorEq]
    rw [List.append_nil] at hinv
    exact leaf (B _) rfl ⟨rfl,by rw [hinv]; rfl⟩
  | cons x suf =>
    have hn : Sp.numbers (x :: suf) lo hi = ((decide (lo ≤ x) && decide (x ≤ hi)) && Sp.numbers suf lo hi) := rfl
    rw [hn] at hinv
    simp only [w24L0,go_sem,Nat.reduceEqDiff,Nat.reduceAdd,Nat.reduceLT,Nat.reduceLeDiff,reduceIte,reduceCtorEq]
    refine G.splitP (fun h1 => ?_) fun h1 => ?_
    · simp only [go_sem,Nat.reduceEqDiff,Nat.reduceAdd,Nat.reduceLT,Nat.reduceLeDiff,reduceIte,reduceCtorEq]
      exact leaf (B _) rfl ⟨rfl,by rw [hinv,decide_eq_false (show ¬ lo ≤ x by omega)]; rfl⟩
    simp only [go_sem,Nat.reduceEqDiff,Nat.reduceAdd,Nat.reduceLT,Nat.reduceLeDiff,reduceIte,reduceCtorEq]
    refine IC.splitP (fun h2 => ?_) fun h2 => ?_
    · simp only [go_sem,Nat.reduceEqDiff,Nat.reduceAdd,Nat.reduceLT,Nat.reduceLeDiff,reduceIte,reduceCtorEq]
      exact leaf (B _) rfl ⟨rfl,by rw [hinv,decide_eq_false (show ¬ x ≤ hi by omega),Bool.and_false]; rfl⟩
    simp only [go_sem,Nat.reduceEqDiff,Nat.reduceAdd,Nat.reduceLT,Nat.reduceLeDiff,reduceIte,reduceCtorEq]
    refine round0 rfl ⟨(pre ++ [x],suf),by simp,by rw [hinv,decide_eq_true (show lo ≤ x by omega),decide_eq_true (show x ≤ hi by omega)]; rfl⟩ (by simp) rfl ?_
    simp [fle,vle,Fr.get,rng_idx' hl,mI_bnd]
theorem s72 (nn t : Bool) (x : Int) (xs : List Int) (hl : (x :: xs).length < 9223372036854775808) : Abs.Spec Try.prog 72 [.sl nn t (mI (x :: xs))] [] fun v H' => H' = [] ∧ v = I (Sp.minL (x :: xs)) := by
  refine Abs.Spec.walk mixed fn72 nn72 t72 q72 nt72 (by simp) ?_
  have h0 : decide (((xs.length + 1 : Nat) : Int) < 1) = false := decide_eq_false (by omega)
  have h1 : (0 < xs.length + 1) = True := by simp
  simp only [w72,h0,mI_get,h1,List.getD_cons_zero,go_sem,Nat.reduceEqDiff,Nat.reduceAdd,Nat.reduceLT,Nat.reduceLeDiff,reduceIte,reduceCtorEq]
  refine ⟨by omega,?_⟩
  refine W_loop (fun p : { p : List Int × List Int // p.1 ++ p.2 = x :: xs ∧ p.1 ≠ [] } => ([(0,sl nn t (mI (x :: xs))),(3,I (Sp.minL p.1.1)),(4,I p.1.1.length)],[])) (fun p => p.1.2.length) ⟨([x],xs),rfl,by simp⟩ [] (Wk.nil (by simp [fle,vle,Fr.get,mI_bnd,Sp.minL])) ?_
  rintro ⟨⟨pre,suf⟩,hp,hne⟩
  dsimp only at hp hne
  rw [← hp] at hl
  simp only [← hp]
  cases suf with
  | nil =>
    simp only [w72L0,w72T1,go_sem,Nat.reduceEqDiff,Nat.reduceAdd,Nat.reduceLT,Nat.reduceLeDiff,reduceIte,reduceCtorEq]
    exact leaf (I _) rfl ⟨rfl,rfl⟩
  | cons y suf =>
    simp only [w72L0,go_sem,Nat.reduceEqDiff,Nat.reduceAdd,Nat.reduceLT,Nat.reduceLeDiff,reduceIte,reduceCtorEq]
    refine round0 rfl ⟨(pre ++ [y],suf),by simp [← hp],by simp⟩ (by simp) rfl ?_
    simp [fle,vle,Fr.get,rng_idx' hl,mI_bnd,← hp,Sp.minL_snoc hne]
theorem s101 (nn t : Bool) (x : Int) (xs : List Int) (hl : (x :: xs).length < 9223372036854775808) : Abs.Spec Try.prog 101 [.sl nn t (mI (x :: xs))] [] fun v H' => H' = [] ∧ v = I (Sp.maxL (x :: xs)) := by
  refine Abs.Spec.walk mixed fn101 nn101 t101 q101 nt101 (by simp) ?_
  have h0 : decide (((xs.length + 1 : Nat) : Int) < 1) = false := decide_eq_false (by omega)
  have h1 : (0 < xs.length + 1) = True := by simp
  simp only [w101,h0,mI_get,h1,List.getD_cons_zero,go_sem,Nat.reduceEqDiff,Nat.reduceAdd,Nat.reduceLT,Nat.reduceLeDiff,reduceIte,reduceCtorEq]
  refine ⟨by omega,?_⟩
  refine W_loop (fun p : { p : List Int × List Int // p.1 ++ p.2 = x :: xs ∧ p.1 ≠ [] } => ([(0,sl nn t (mI (x :: xs))),(3,I (Sp.maxL p.1.1)),(4,I p.1.1.length)],[])) (fun p => p.1.2.length) ⟨([x],xs),rfl,by simp⟩ [] (Wk.nil (by simp [fle,vle,Fr.get,mI_bnd,Sp.maxL])) ?_
  rintro ⟨⟨pre,suf⟩,hp,hne⟩
  dsimp only at hp hne
  rw [← hp] at hl
  simp only [← hp]
  cases suf with
  | nil =>
    simp only [w101L0,w101T1,go_sem,Nat.reduceEqDiff,Nat.reduceAdd,Nat.reduceLT,Nat.reduceLeDiff,reduceIte,reduceCtorEq]
    exact leaf (I _) rfl ⟨rfl,rfl⟩
  | cons y suf =>
    simp only [w101L0,go_sem,Nat.reduceEqDiff,Nat.reduceAdd,Nat.reduceLT,Nat.reduceLeDiff,reduceIte,reduceCtorEq]
    refine round0 rfl ⟨(pre ++ [y],suf),by simp [← hp],by simp⟩ (by simp) rfl ?_
    simp [fle,vle,Fr.get,rng_idx' hl,mI_bnd,← hp,Sp.maxL_snoc hne]
theorem s102 (x : Int) : Abs.Spec Try.prog 102 [I x] [] fun v H' => H' = [] ∧ v = I (Sp.absW x) := by
  refine Abs.Spec.walk mixed fn102 nn102 t102 q102 nt102 (by simp) ?_
  simp only [w102,go_sem,Nat.reduceEqDiff,Nat.reduceAdd,Nat.reduceLT,Nat.reduceLeDiff,reduceIte,reduceCtorEq]
  exact leaf (I _) rfl ⟨rfl,rfl⟩
theorem s74 (nn t : Bool) (xs : List Int) (hl : xs.length ≤ 4) : Abs.Spec Try.prog 74 [.sl nn t (mI xs)] [] fun v H' => H' = [] ∧ v = vec (Sp.pad xs) := by
  refine Abs.Spec.walk mixed fn74 nn74 t74 q74 nt74 (by simp) ?_
  have h4 := Sp.pad_len hl
  have hcl : (mI (Sp.pad xs)).length = 4 := by rw [mI_length,h4]
  have hpe := pad_eq hl
  have e4 : 4 - 0 = 4 := rfl
  have hac := allI_cell (Sp.pad xs)
  change _ = mI (Sp.pad xs) at hpe
  simp only [w74,e4,hpe,hcl,cut_vec,h4,cells_vec,go_sem,Nat.reduceEqDiff,Nat.reduceAdd,Nat.reduceLT,Nat.reduceLeDiff,reduceIte,reduceCtorEq]
  refine ⟨by simp,hac,?_⟩
  exact leafC (cut true 4 (mI (Sp.pad xs))) (vec (Sp.pad xs)) rfl ⟨by rw [hcl]; omega,fun h => by cases h⟩ (by rw [cut_vec h4]; exact vle_vec _) ⟨rfl,rfl⟩
theorem s82 (x y : List Int) (hx : x.length = 4) (hy : y.length = 4) : Abs.Spec Try.prog 82 [vec x,vec y] [] fun v H' => H' = [] ∧ v = I (Sp.dot x y) := by
  refine Abs.Spec.walk mixed fn82 nn82 t82 q82 nt82 (by simp) ?_
  simp only [w82T1,w82L0,w82,vec_eq,go_sem,Nat.reduceEqDiff,Nat.reduceAdd,Nat.reduceLT,Nat.reduceLeDiff,reduceIte,reduceCtorEq]
  refine ⟨allI_cell x,allI_cell y,?_⟩
  refine W_loop (fun p : { p : Nat × Int // p.1 ≤ 4 ∧ Sp.dotG p.2 (x.drop p.1) (y.drop p.1) = Sp.dot x y } => ([(2,ptr 0 0),(3,ptr 1 0),(5,I p.1.2),(7,I p.1.1)],[.cells (mI x),.cells (mI y)])) (fun p => 4 - p.1.1) ⟨(0,0),by omega,rfl⟩ [some 0,some 1] (Wk.mk0 rfl (by simp [imgs,Blk.alive]) (by simp [hle,csle,mI_bnd]) (by simp [fle,vle,Fr.get])) ?_
  rintro ⟨⟨i,s⟩,hi4,hinv⟩
  dsimp only at hi4 hinv
  by_cases hi : i < 4
  · have hi' : decide ((i : Int) < 4) = true := decide_eq_true (by omega)
    have hix : i < x.length := by omega
    have hiy : i < y.length := by omega
    have hw : IntKind.i64.wrap ((i : Int) + 1) = i + 1 := wrap64 (by omega) (by omega)
    simp only [w82L0,hi',mI_hd,hix,hiy,go_sem,Nat.reduceEqDiff,Nat.reduceAdd,Nat.reduceLT,Nat.reduceLeDiff,reduceIte,reduceCtorEq]
    refine ⟨by omega,by omega,by omega,by omega,?_⟩
    refine round1 rfl ⟨(i + 1,IntKind.i64.wrap (s + IntKind.i64.wrap (x.getD i 0 * y.getD i 0))),by omega,?_⟩ [some 0,some 1] (by dsimp only; omega) (Wk.mk0 rfl (by simp [imgs,Blk.alive]) (by simp [hle,csle,mI_bnd]) (by simp [fle,vle,Fr.get,hw]))
    rw [← hinv,List.drop_eq_getElem_cons hix,List.drop_eq_getElem_cons hiy]
    simp only [Sp.dotG,List.getD_eq_getElem?_getD,List.getElem?_eq_getElem hix,List.getElem?_eq_getElem hiy,Option.getD_some]
  · have hi' : decide ((i : Int) < 4) = false := decide_eq_false (by omega)
    simp only [w82L0,hi',w82T1,go_sem,Nat.reduceEqDiff,Nat.reduceAdd,Nat.reduceLT,Nat.reduceLeDiff,reduceIte,reduceCtorEq]
    rw [List.drop_of_length_le (by omega),List.drop_of_length_le (by omega)] at hinv
    exact leaf (I _) rfl ⟨rfl,by rw [← hinv]; rfl⟩
def matV (vs : List (List Int)) (n : Int) : AVal := .agg [.sl false false (mV vs),I n]
theorem matV_eq (vs : List (List Int)) (n : Int) : matV vs n = .agg [.sl false false (mV vs),I n] := rfl
theorem s40 (nn t : Bool) (a : List (List Int)) (ha : ∀ l ∈ a,l.length < 9223372036854775808) (hl : a.length < 9223372036854775808) : Abs.Spec Try.prog 40 [.sl nn t (mS a)] [] fun v H' => H' = [] ∧ v = B (Sp.mat a) := by
  refine Abs.Spec.walk mixed fn40 nn40 t40 q40 nt40 (by simp) ?_
  simp only [w40,go_sem,Nat.reduceEqDiff,Nat.reduceAdd,Nat.reduceLT,Nat.reduceLeDiff,reduceIte,reduceCtorEq]
  refine G.splitP (fun h1 => ?_) fun h1 => ?_
  · simp only [go_sem,Nat.reduceEqDiff,Nat.reduceAdd,Nat.reduceLT,Nat.reduceLeDiff,reduceIte,reduceCtorEq]
    exact leaf (B _) rfl ⟨rfl,by rw [Sp.mat,decide_eq_false (show ¬ 1 ≤ a.length by omega)]; rfl⟩
  simp only [go_sem,Nat.reduceEqDiff,Nat.reduceAdd,Nat.reduceLT,Nat.reduceLeDiff,reduceIte,reduceCtorEq]
  refine IC.splitP (fun h2 => ?_) fun h2 => ?_
  · simp only [go_sem,Nat.reduceEqDiff,Nat.reduceAdd,Nat.reduceLT,Nat.reduceLeDiff,reduceIte,reduceCtorEq]
    exact leaf (B _) rfl ⟨rfl,by rw [Sp.mat,decide_eq_false (show ¬ a.length ≤ 2 by omega),Bool.false_and,Bool.and_false]⟩
  simp only [go_sem,Nat.reduceEqDiff,Nat.reduceAdd,Nat.reduceLT,Nat.reduceLeDiff,reduceIte,reduceCtorEq]
  obtain ⟨n,hn⟩ : ∃ n,n = (a.getD 0 []).length := ⟨_,rfl⟩
  obtain ⟨q,hq⟩ : ∃ q : List Int → Bool,q = fun r => decide (r.length = n) && (decide (1 ≤ r.length) && (decide (r.length ≤ 4) && Sp.numbers r (-2) 2)) := ⟨_,rfl⟩
  have hmat : Sp.mat a = a.all q := by
    rw [Sp.mat,decide_eq_true (show 1 ≤ a.length by omega),decide_eq_true (show a.length ≤ 2 by omega),hq,hn]; rfl
  have h0 : 0 < a.length := by omega
  have h0' : (0 : Int) < a.length := by omega
  refine W_loop (fun p : { p : List (List Int) × List (List Int) // p.1 ++ p.2 = a ∧ a.all q = p.2.all q } => ([(0,sl nn t (mS a)),(13,sl nn t (mS a)),(14,I a.length),(15,I p.1.1.length)],[])) (fun p => p.1.2.length) ⟨([],a),rfl,rfl⟩ [] (Wk.nil (by simp [fle,vle,Fr.get,mS_bnd])) ?_
  rintro ⟨⟨pre,suf⟩,hp,hinv⟩
  dsimp only at hp hinv
  rw [← hmat] at hinv
  cases suf with
  | nil =>
    have hpl : pre.length = a.length := by rw [← hp]; simp
    have hz : decide ((pre.length : Int) < a.length) = false := decide_eq_false (by omega)
    simp only [w40L0,hz,w40T1,go_sem,Nat.reduceEqDiff,Nat.reduceAdd,Nat.reduceLT,Nat.reduceLeDiff,reduceIte,reduceCtorEq]
    exact leaf (B _) rfl ⟨rfl,by rw [hinv]; rfl⟩
  | cons r suf =>
    have hpl : pre.length < a.length := by rw [← hp]; simp
    have hz : decide ((pre.length : Int) < a.length) = true := decide_eq_true (by omega)
    have hget : a.getD pre.length [] = r := by rw [← hp]; simp [List.getD_eq_getElem?_getD]
    have hra : r ∈ a := by rw [← hp]; simp
    have hrl := ha r hra
    have hqr : (r :: suf).all q = (q r && suf.all q) := rfl
    rw [hqr] at hinv
    have bad : q r = false → Sp.mat a = false := fun h => by rw [hinv,h]; rfl
    have hwk : IntKind.i64.wrap ((pre.length : Int) + 1) = pre.length + 1 := wrap64 (by omega) (by omega)
    have hn' := hn.symm
    simp only [w40L0,hz,mS_get,hpl,h0,hget,hn',go_sem,Nat.reduceEqDiff,Nat.reduceAdd,Nat.reduceLT,Nat.reduceLeDiff,reduceIte,reduceCtorEq]
    refine ⟨by omega,by omega,?_⟩
    refine G.split (fun g1 => ?_) fun g1 => ?_
    · simp only [go_sem,Nat.reduceEqDiff,Nat.reduceAdd,Nat.reduceLT,Nat.reduceLeDiff,reduceIte,reduceCtorEq]
      exact leaf (B _) rfl ⟨rfl,by rw [bad]; rw [hq]; simp; simp at g1; omega⟩
    simp only [go_sem,Nat.reduceEqDiff,Nat.reduceAdd,Nat.reduceLT,Nat.reduceLeDiff,reduceIte,reduceCtorEq]
    refine G.splitP (fun g2 => ?_) fun g2 => ?_
    · simp only [go_sem,Nat.reduceEqDiff,Nat.reduceAdd,Nat.reduceLT,Nat.reduceLeDiff,reduceIte,reduceCtorEq]
      exact leaf (B _) rfl ⟨rfl,by rw [bad]; rw [hq]; simp; omega⟩
    simp only [go_sem,Nat.reduceEqDiff,Nat.reduceAdd,Nat.reduceLT,Nat.reduceLeDiff,reduceIte,reduceCtorEq]
    refine G.splitP (fun g3 => ?_) fun g3 => ?_
    · simp only [go_sem,Nat.reduceEqDiff,Nat.reduceAdd,Nat.reduceLT,Nat.reduceLeDiff,reduceIte,reduceCtorEq]
      exact leaf (B _) rfl ⟨rfl,by rw [bad]; rw [hq]; simp; omega⟩
    simp only [go_sem,Nat.reduceEqDiff,Nat.reduceAdd,Nat.reduceLT,Nat.reduceLeDiff,reduceIte,reduceCtorEq]
    refine CallK.by (CallV.of_spec (s24 false false r (-2) 2 hrl)) fun v H' ⟨e1,e2⟩ => ?_
    subst e1 e2
    simp only [go_sem,Nat.reduceEqDiff,Nat.reduceAdd,Nat.reduceLT,Nat.reduceLeDiff,reduceIte,reduceCtorEq]
    refine IC.split (fun g4 => ?_) fun g4 => ?_
    · simp only [go_sem,Nat.reduceEqDiff,Nat.reduceAdd,Nat.reduceLT,Nat.reduceLeDiff,reduceIte,reduceCtorEq]
      have g4 : Sp.numbers r (-2) 2 = false := by simpa using g4
      exact leaf (B _) rfl ⟨rfl,by rw [bad]; rw [hq]; simp [g4]⟩
    have g4 : Sp.numbers r (-2) 2 = true := by simpa using g4
    have hqt : q r = true := by
      rw [hq]
      simp only [g4,Bool.and_true,Bool.and_eq_true,decide_eq_true_eq]
      have g1 : r.length = n := by simp at g1; omega
      omega
    simp only [go_sem,Nat.reduceEqDiff,Nat.reduceAdd,Nat.reduceLT,Nat.reduceLeDiff,reduceIte,reduceCtorEq]
    refine round0 rfl ⟨(pre ++ [r],suf),by simp [hp],by rw [← hmat,hinv,hqt]; rfl⟩ (by simp) rfl ?_
    simp [fle,vle,Fr.get,mS_bnd,hwk]
theorem s21 (nn t nn' t' : Bool) (a : List (List Int)) (x : List Int) (lo hi : Int) (ha : ∀ l ∈ a,l.length < 9223372036854775808) (hl : a.length < 9223372036854775808) (hx : x.length < 9223372036854775808) :
    Abs.Spec Try.prog 21 [.sl nn t (mS a),.sl nn' t' (mI x),I lo,I hi] [] fun v H' => H' = [] ∧ v = B (Sp.vecOk a x lo hi) := by
  refine Abs.Spec.walk mixed fn21 nn21 t21 q21 nt21 (by simp) ?_
  simp only [w21,go_sem,Nat.reduceEqDiff,Nat.reduceAdd,Nat.reduceLT,Nat.reduceLeDiff,reduceIte,reduceCtorEq]
  refine CallK.by (CallV.of_spec (s40 nn t a ha hl)) fun v H' ⟨h1,h2⟩ => ?_
  subst h1 h2
  simp only [go_sem,Nat.reduceEqDiff,Nat.reduceAdd,Nat.reduceLT,Nat.reduceLeDiff,reduceIte,reduceCtorEq]
  refine G.split (fun hm => ?_) fun hm => ?_
  rotate_left
  · simp only [go_sem,Nat.reduceEqDiff,Nat.reduceAdd,Nat.reduceLT,Nat.reduceLeDiff,reduceIte,reduceCtorEq]
    exact leaf (B _) rfl ⟨rfl,by rw [Sp.vecOk,hm]; rfl⟩
  have h0 : 0 < a.length := by
    unfold Sp.mat at hm
    simp only [Bool.and_eq_true,decide_eq_true_eq] at hm
    omega
  have h0' : (0 : Int) < a.length := by omega
  simp only [mS_get,h0,go_sem,Nat.reduceEqDiff,Nat.reduceAdd,Nat.reduceLT,Nat.reduceLeDiff,reduceIte,reduceCtorEq]
  refine ⟨by omega,?_⟩
  refine G.split (fun he => ?_) fun he => ?_
  · simp only [go_sem,Nat.reduceEqDiff,Nat.reduceAdd,Nat.reduceLT,Nat.reduceLeDiff,reduceIte,reduceCtorEq]
    refine CallK.by (CallV.of_spec (s24 nn' t' x lo hi hx)) fun v H' ⟨h1,h2⟩ => ?_
    subst h1 h2
    simp only [go_sem,Nat.reduceEqDiff,Nat.reduceAdd,Nat.reduceLT,Nat.reduceLeDiff,reduceIte,reduceCtorEq]
    have he : x.length = (a.getD 0 []).length := by have := beq_iff_eq.1 he; omega
    exact leaf (B _) rfl ⟨rfl,by rw [Sp.vecOk,hm,decide_eq_true he]; rfl⟩
  · simp only [go_sem,Nat.reduceEqDiff,Nat.reduceAdd,Nat.reduceLT,Nat.reduceLeDiff,reduceIte,reduceCtorEq]
    have he : ¬ x.length = (a.getD 0 []).length := by have := beq_eq_false_iff_ne.1 he; omega
    exact leaf (B _) rfl ⟨rfl,by rw [Sp.vecOk,decide_eq_false he,Bool.false_and,Bool.and_false]⟩
theorem s23 (nn t nn' t' : Bool) (a : List (List Int)) (x : List Int) (ha : ∀ r ∈ a,r.length = x.length) (hl : a.length ≤ 1000) (hx : x.length ≤ 1000) :
    Abs.Spec Try.prog 23 [.sl nn t (mS a),.sl nn' t' (mI x)] [] fun v H' => H' = [] ∧ v = .sl false false (mI (a.map fun r => Sp.dotG 0 r x)) := by
  refine Abs.Spec.walk mixed fn23 nn23 t23 q23 nt23 (by simp) ?_
  simp only [w23,go_sem,Nat.reduceEqDiff,Nat.reduceAdd,Nat.reduceLT,Nat.reduceLeDiff,reduceIte,reduceCtorEq]
  refine W_loop (fun q : { q : List (List Int) × List (List Int) // q.1 ++ q.2 = a } => ([(1,sl nn' t' (mI x)),(5,own 0 0 q.1.1.length q.1.1.length 1),(11,sl nn t (mS a)),(12,I a.length),(13,I q.1.1.length)],[.cells (mI (q.1.1.map fun r => Sp.dotG 0 r x))])) (fun q => q.1.2.length) ⟨([],a),rfl⟩ [none] (Wk.mk0 rfl (by simp [imgs,Blk.alive]) (by simp [hle,mI]) (by simp [fle,vle,Fr.get,mS_bnd,mI_bnd])) ?_
  rintro ⟨⟨pre,suf⟩,hp⟩
  dsimp only at hp
  subst hp
  cases suf with
  | nil =>
    simp only [w23L0,w23T4,go_sem,Nat.reduceEqDiff,Nat.reduceAdd,Nat.reduceLT,Nat.reduceLeDiff,reduceIte,reduceCtorEq]
    exact leaf (.sl false false (mI (pre.map fun r => Sp.dotG 0 r x))) (vle_mI rfl (by simp) (by simp) (List.take_of_length_le (by simp [mI_length]))) ⟨rfl,rfl⟩
  | cons r suf =>
    have hr : r.length = x.length := ha r (by simp)
    simp only [w23L0,go_sem,Nat.reduceEqDiff,Nat.reduceAdd,Nat.reduceLT,Nat.reduceLeDiff,reduceIte,reduceCtorEq]
    refine W_loop (fun p : { p : Nat × Int // p.1 ≤ x.length ∧ Sp.dotG p.2 (r.drop p.1) (x.drop p.1) = Sp.dotG 0 r x } =>
      ([(1,sl nn' t' (mI x)),(5,own 0 0 pre.length pre.length 1),(7,sl false false (mI r)),(8,I p.1.2),(11,sl nn t (mS (pre ++ r :: suf))),(12,I (pre ++ r :: suf).length),(13,I pre.length),(17,sl nn' t' (mI x)),(18,I x.length),(19,I p.1.1)],
       [.cells (mI (pre.map fun r => Sp.dotG 0 r x))])) (fun p => x.length - p.1.1) ⟨(0,0),by omega,rfl⟩ [some 0] (Wk.mk0 rfl (by simp [imgs,Blk.alive]) (by simp [hle,csle,mI_bnd]) (by simp [fle,vle,Fr.get,mS_bnd,mI_bnd])) ?_
    rintro ⟨⟨i,s⟩,hin,hinv⟩
    dsimp only at hin hinv
    by_cases hi : i < x.length
    · have hi' : decide ((i : Int) < x.length) = true := decide_eq_true (by omega)
      have hi2 : (i : Int) < x.length := by omega
      have hir : i < r.length := by omega
      have hw : IntKind.i64.wrap ((i : Int) + 1) = i + 1 := wrap64 (by omega) (by omega)
      simp only [w23L1,hi',mI_get,mI_hd,hi,hir,go_sem,Nat.reduceEqDiff,Nat.reduceAdd,Nat.reduceLT,Nat.reduceLeDiff,reduceIte,reduceCtorEq]
      repeat (refine ⟨by omega,?_⟩)
      refine round1 rfl ⟨(i + 1,IntKind.i64.wrap (s + IntKind.i64.wrap (r.getD i 0 * x.getD i 0))),by omega,by rw [← hinv,Sp.dotG_step hir hi]⟩ [some 0] (by dsimp only; omega) (Wk.mk0 rfl (by simp [imgs,Blk.alive]) (by simp [hle,csle,mI_bnd]) (by simp [fle,vle,Fr.get,hw,mS_bnd,mI_bnd]))
    · have hi' : decide ((i : Int) < x.length) = false := decide_eq_false (by omega)
      rw [List.drop_of_length_le (by omega),List.drop_of_length_le (by omega)] at hinv
      have hs : s = Sp.dotG 0 r x := hinv
      have hll : pre.length + (suf.length + 1) ≤ 1000 := by simpa using hl
      have hwk : IntKind.i64.wrap ((pre.length : Int) + 1) = pre.length + 1 := wrap64 (by omega) (by omega)
      have e : mI (List.take pre.length (List.map (fun r => Sp.dotG 0 r x) pre)) ++ [I s] = mI ((pre ++ [r]).map fun r => Sp.dotG 0 r x) := by
        rw [List.take_of_length_le (by simp),mI_snoc,hs]; simp
      simp only [w23L1,hi',w23T2,w23T3,go_sem,Nat.reduceEqDiff,Nat.reduceAdd,Nat.reduceLT,Nat.reduceLeDiff,reduceIte,reduceCtorEq]
      refine ⟨by omega,?_⟩
      refine round1 rfl ⟨(pre ++ [r],suf),by simp⟩ [some 2] (by simp) (Wk.mk0 rfl (by simp [imgs,Blk.alive]) (by dsimp only; rw [← e]; exact ⟨.inl ⟨rfl,by rw [e]; exact mI_bnd⟩,trivial⟩) (by simp [fle,vle,Fr.get,hwk,mS_bnd,mI_bnd]))
theorem s26 (nn t nn' t' : Bool) (x y : List Int) (hxy : y.length = x.length) (hx : x.length ≤ 1000) :
    Abs.Spec Try.prog 26 [.sl nn t (mI x),.sl nn' t' (mI y)] [] fun v H' => H' = [] ∧ v = B (Sp.fitR x y) := by
  refine Abs.Spec.walk mixed fn26 nn26 t26 q26 nt26 (by simp) ?_
  simp only [w26,go_sem,Nat.reduceEqDiff,Nat.reduceAdd,Nat.reduceLT,Nat.reduceLeDiff,reduceIte,reduceCtorEq]
  refine W_loop (fun p : { i : Nat // i ≤ x.length ∧ Sp.fitR (x.drop i) (y.drop i) = Sp.fitR x y } => ([(1,sl nn' t' (mI y)),(7,sl nn t (mI x)),(8,I x.length),(9,I p.1)],[])) (fun p => x.length - p.1) ⟨0,by omega,rfl⟩ [] (Wk.nil (by simp [fle,vle,Fr.get,mI_bnd])) ?_
  rintro ⟨i,hin,hinv⟩
  dsimp only at hin hinv ⊢
  by_cases hi : i < x.length
  · have hi' : decide ((i : Int) < x.length) = true := decide_eq_true (by omega)
    have hi2 : (i : Int) < x.length := by omega
    have hiy : i < y.length := by omega
    have hw : IntKind.i64.wrap ((i : Int) + 1) = i + 1 := wrap64 (by omega) (by omega)
    rw [Sp.fitR_step hi hiy] at hinv
    obtain ⟨u,hu⟩ : ∃ u,u = x.getD i 0 := ⟨_,rfl⟩
    obtain ⟨z,hz⟩ : ∃ z,z = y.getD i 0 := ⟨_,rfl⟩
    have hu' := hu.symm
    have hz' := hz.symm
    rw [hu',hz'] at hinv
    simp only [w26L0,hi',mI_get,mI_hd,hi,hiy,hu',go_sem,Nat.reduceEqDiff,Nat.reduceAdd,Nat.reduceLT,Nat.reduceLeDiff,reduceIte,reduceCtorEq]
    refine ⟨by omega,?_⟩
    refine G.splitP (fun h1 => ?_) fun h1 => ?_
    · have z1 : decide (u < 0) = false := decide_eq_false (by omega)
      rw [decide_eq_true h1,z1] at hinv
      simp only [mI_get,mI_hd,hiy,hz',go_sem,Nat.reduceEqDiff,Nat.reduceAdd,Nat.reduceLT,Nat.reduceLeDiff,reduceIte,reduceCtorEq]
      refine ⟨by omega,?_⟩
      refine G.splitP (fun h2 => ?_) fun h2 => ?_
      · rw [decide_eq_true h2] at hinv
        simp only [go_sem,Nat.reduceEqDiff,Nat.reduceAdd,Nat.reduceLT,Nat.reduceLeDiff,reduceIte,reduceCtorEq]
        exact leaf (B _) rfl ⟨rfl,by rw [← hinv]; rfl⟩
      · rw [decide_eq_false h2] at hinv
        simp only [z1,go_sem,Nat.reduceEqDiff,Nat.reduceAdd,Nat.reduceLT,Nat.reduceLeDiff,reduceIte,reduceCtorEq]
        refine round0 rfl ⟨i + 1,by omega,hinv⟩ (by dsimp only; omega) rfl ?_
        simp [fle,vle,Fr.get,mI_bnd,hw]
    · rw [decide_eq_false h1] at hinv
      simp only [go_sem,Nat.reduceEqDiff,Nat.reduceAdd,Nat.reduceLT,Nat.reduceLeDiff,reduceIte,reduceCtorEq]
      refine G.splitP (fun h2 => ?_) fun h2 => ?_
      · rw [decide_eq_true h2] at hinv
        simp only [mI_get,mI_hd,hiy,hz',go_sem,Nat.reduceEqDiff,Nat.reduceAdd,Nat.reduceLT,Nat.reduceLeDiff,reduceIte,reduceCtorEq]
        refine ⟨by omega,?_⟩
        refine IC.splitP (fun h3 => ?_) fun h3 => ?_
        · rw [decide_eq_true h3] at hinv
          simp only [go_sem,Nat.reduceEqDiff,Nat.reduceAdd,Nat.reduceLT,Nat.reduceLeDiff,reduceIte,reduceCtorEq]
          exact leaf (B _) rfl ⟨rfl,by rw [← hinv]; rfl⟩
        · rw [decide_eq_false h3] at hinv
          simp only [go_sem,Nat.reduceEqDiff,Nat.reduceAdd,Nat.reduceLT,Nat.reduceLeDiff,reduceIte,reduceCtorEq]
          refine round0 rfl ⟨i + 1,by omega,hinv⟩ (by dsimp only; omega) rfl ?_
          simp [fle,vle,Fr.get,mI_bnd,hw]
      · rw [decide_eq_false h2] at hinv
        simp only [go_sem,Nat.reduceEqDiff,Nat.reduceAdd,Nat.reduceLT,Nat.reduceLeDiff,reduceIte,reduceCtorEq]
        refine round0 rfl ⟨i + 1,by omega,hinv⟩ (by dsimp only; omega) rfl ?_
        simp [fle,vle,Fr.get,mI_bnd,hw]
  · have hi' : decide ((i : Int) < x.length) = false := decide_eq_false (by omega)
    rw [List.drop_of_length_le (by omega),List.drop_of_length_le (by omega)] at hinv
    simp only [w26L0,hi',w26T1,go_sem,Nat.reduceEqDiff,Nat.reduceAdd,Nat.reduceLT,Nat.reduceLeDiff,reduceIte,reduceCtorEq]
    exact leaf (B _) rfl ⟨rfl,by rw [← hinv]; rfl⟩
theorem s65 (x y : List Int) (hx : x.length = 4) (hy : y.length = 4) : Abs.Spec Try.prog 65 [vec x,vec y] [] fun v H' => H' = [] ∧ v = B (Sp.fitG x y) := by
  refine Abs.Spec.walk mixed fn65 nn65 t65 q65 nt65 (by simp) ?_
  simp only [w65,vec_eq,go_sem,Nat.reduceEqDiff,Nat.reduceAdd,Nat.reduceLT,Nat.reduceLeDiff,reduceIte,reduceCtorEq]
  refine ⟨allI_cell x,allI_cell y,?_⟩
  refine W_loop (fun p : { i : Nat // i ≤ 4 ∧ Sp.fitG (x.drop i) (y.drop i) = Sp.fitG x y } => ([(2,ptr 0 0),(3,ptr 1 0),(6,I p.1)],[.cells (mI x),.cells (mI y)])) (fun p => 4 - p.1) ⟨0,by omega,rfl⟩ [some 0,some 1] (Wk.mk0 rfl (by simp [imgs,Blk.alive]) (by simp [hle,csle,mI_bnd]) (by simp [fle,vle,Fr.get])) ?_
  rintro ⟨i,hin,hinv⟩
  dsimp only at hin hinv ⊢
  by_cases hi : i < 4
  · have hi' : decide ((i : Int) < 4) = true := decide_eq_true (by omega)
    have hix : i < x.length := by omega
    have hiy : i < y.length := by omega
    have hw : IntKind.i64.wrap ((i : Int) + 1) = i + 1 := wrap64 (by omega) (by omega)
    rw [Sp.fitG_step hix hiy] at hinv
    obtain ⟨u,hu⟩ : ∃ u,u = x.getD i 0 := ⟨_,rfl⟩
    obtain ⟨z,hz⟩ : ∃ z,z = y.getD i 0 := ⟨_,rfl⟩
    have hu' := hu.symm
    have hz' := hz.symm
    rw [hu',hz'] at hinv
    simp only [w65L0,hi',mI_hd,hix,hiy,hu',hz',go_sem,Nat.reduceEqDiff,Nat.reduceAdd,Nat.reduceLT,Nat.reduceLeDiff,reduceIte,reduceCtorEq]
    refine ⟨by omega,by omega,?_⟩
    have bx : (true ^^ decide (u > 0) == decide (z > 0)) = (decide (u > 0) != decide (z > 0)) := Bool.true_xor _
    refine GE.split (fun g1 => ?_) fun g1 => ?_
    · rw [g1,Bool.true_and] at hinv
      simp only [mI_hd,hix,hiy,hu',hz',bx,go_sem,Nat.reduceEqDiff,Nat.reduceAdd,Nat.reduceLT,Nat.reduceLeDiff,reduceIte,reduceCtorEq]
      repeat (refine ⟨by omega,?_⟩)
      refine GE.split (fun g2 => ?_) fun g2 => ?_
      · rw [g2,Bool.true_or] at hinv
        simp only [go_sem,Nat.reduceEqDiff,Nat.reduceAdd,Nat.reduceLT,Nat.reduceLeDiff,reduceIte,reduceCtorEq]
        exact leaf (B _) rfl ⟨rfl,by rw [← hinv]; rfl⟩
      · rw [g2,Bool.false_or] at hinv
        simp only [mI_hd,hix,hiy,hu',hz',go_sem,Nat.reduceEqDiff,Nat.reduceAdd,Nat.reduceLT,Nat.reduceLeDiff,reduceIte,reduceCtorEq]
        repeat (refine ⟨by omega,?_⟩)
        refine CallKD.pure (liftV (s102 u) rfl rfl) ?_
        simp only [mI_hd,hix,hiy,hu',hz',go_sem,Nat.reduceEqDiff,Nat.reduceAdd,Nat.reduceLT,Nat.reduceLeDiff,reduceIte,reduceCtorEq]
        repeat (refine ⟨by omega,?_⟩)
        refine CallKD.pure (liftV (s102 z) rfl rfl) ?_
        simp only [go_sem,Nat.reduceEqDiff,Nat.reduceAdd,Nat.reduceLT,Nat.reduceLeDiff,reduceIte,reduceCtorEq]
        refine IC.splitP (fun g3 => ?_) fun g3 => ?_
        · rw [decide_eq_true g3] at hinv
          simp only [go_sem,Nat.reduceEqDiff,Nat.reduceAdd,Nat.reduceLT,Nat.reduceLeDiff,reduceIte,reduceCtorEq]
          exact leaf (B _) rfl ⟨rfl,by rw [← hinv]; rfl⟩
        · rw [decide_eq_false g3] at hinv
          simp only [go_sem,Nat.reduceEqDiff,Nat.reduceAdd,Nat.reduceLT,Nat.reduceLeDiff,reduceIte,reduceCtorEq]
          refine round1 rfl ⟨i + 1,by omega,hinv⟩ [some 0,some 1] (by dsimp only; omega) (Wk.mk0 rfl (by simp [imgs,Blk.alive]) (by simp [hle,csle,mI_bnd]) (by simp [fle,vle,Fr.get,hw]))
    · rw [g1,Bool.false_and] at hinv
      simp only [go_sem,Nat.reduceEqDiff,Nat.reduceAdd,Nat.reduceLT,Nat.reduceLeDiff,reduceIte,reduceCtorEq]
      refine round1 rfl ⟨i + 1,by omega,hinv⟩ [some 0,some 1] (by dsimp only; omega) (Wk.mk0 rfl (by simp [imgs,Blk.alive]) (by simp [hle,csle,mI_bnd]) (by simp [fle,vle,Fr.get,hw]))
  · have hi' : decide ((i : Int) < 4) = false := decide_eq_false (by omega)
    rw [List.drop_of_length_le (by omega),List.drop_of_length_le (by omega)] at hinv
    simp only [w65L0,hi',w65T1,go_sem,Nat.reduceEqDiff,Nat.reduceAdd,Nat.reduceLT,Nat.reduceLeDiff,reduceIte,reduceCtorEq]
    exact leaf (B _) rfl ⟨rfl,by rw [← hinv]; rfl⟩
theorem s63 (nn t : Bool) (c : AVal) (hc : c.isCell = true) (n : Nat) (xs : List Int) (lo hi : Int) (h1 : 1 ≤ n) (h4 : n ≤ 4) (hl : xs.length < 9223372036854775808) : Abs.Spec Try.prog 63 [.agg [c,I n],.sl nn t (mI xs),I lo,I hi] [] fun v H' => H' = [] ∧ v = if decide (xs.length = n) && Sp.numbers xs lo hi then .tup [vec (Sp.pad xs),B true] else .tup [vec [0,0,0,0],B false] := by
  refine Abs.Spec.walk mixed fn63 nn63 t63 q63 nt63 (by simp) ?_
  obtain ⟨R,hR⟩ : ∃ R : Bool → AVal,R = fun b => if b then .tup [vec (Sp.pad xs),B true] else .tup [vec [0,0,0,0],B false] := ⟨_,rfl⟩
  have bad : ∀ {e : Ex} {fr : Fr} {H : AHeap},(e = .norm ∨ e = .ret) → (decide (xs.length = n) && Sp.numbers xs lo hi) = false → fr.get 8 = ptr 1 0 → fr.get 9 = B false → H[1]? = some (.cells (mI [0,0,0,0])) → retA 0 r63 (fun v H' => H' = [] ∧ v = if decide (xs.length = n) && Sp.numbers xs lo hi then .tup [vec (Sp.pad xs),B true] else .tup [vec [0,0,0,0],B false]) e fr H [] := fun {e fr H} he hb h8 h9 hH => by
    refine leafCT (vec [0,0,0,0]) (.tup [vec [0,0,0,0],B false]) (p := 0 + 4 ≤ 4 ∧ (true = false → 4 = 1)) (by rw [h8]; simp only [loadA,hH]; rfl) ⟨by omega,fun h => by cases h⟩ ⟨vle_vec _,by rw [h9]; rfl,trivial⟩ ⟨rfl,by rw [hb]; rfl⟩ he
  simp only [w63,hc,go_sem,Nat.reduceEqDiff,Nat.reduceAdd,Nat.reduceLT,Nat.reduceLeDiff,reduceIte,reduceCtorEq]
  refine G.split (fun g1 => ?_) fun g1 => ?_
  · have hne : ¬ xs.length = n := fun h => by rw [h] at g1; simp at g1
    simp only [go_sem,Nat.reduceEqDiff,Nat.reduceAdd,Nat.reduceLT,Nat.reduceLeDiff,reduceIte,reduceCtorEq]
    refine bad (.inr rfl) (by rw [decide_eq_false hne]; rfl) rfl rfl rfl
  have hlen : xs.length = n := by have := bne_eq_false_iff_eq.1 g1; omega
  obtain ⟨x0,xs',rfl⟩ : ∃ x0 xs',xs = x0 :: xs' := by
    cases xs with
    | nil => simp at hlen; omega
    | cons a b => exact ⟨a,b,rfl⟩
  have hnum := Sp.numbers_iff (l := x0 :: xs') (by simp) (lo := lo) (hi := hi)
  simp only [go_sem,Nat.reduceEqDiff,Nat.reduceAdd,Nat.reduceLT,Nat.reduceLeDiff,reduceIte,reduceCtorEq]
  refine CallK.pure (liftV (s72 nn t x0 xs' hl) (by simp [bndL,AVal.bnd,mI_bnd]) rfl _) ?_
  simp only [go_sem,Nat.reduceEqDiff,Nat.reduceAdd,Nat.reduceLT,Nat.reduceLeDiff,reduceIte,reduceCtorEq]
  refine G.splitP (fun g2 => ?_) fun g2 => ?_
  · simp only [go_sem,Nat.reduceEqDiff,Nat.reduceAdd,Nat.reduceLT,Nat.reduceLeDiff,reduceIte,reduceCtorEq]
    refine bad (.inr rfl) ?_ rfl rfl rfl
    cases hb : Sp.numbers (x0 :: xs') lo hi with
    | false => exact Bool.and_false _
    | true => have := hnum.1 hb; omega
  simp only [go_sem,Nat.reduceEqDiff,Nat.reduceAdd,Nat.reduceLT,Nat.reduceLeDiff,reduceIte,reduceCtorEq]
  refine CallK.pure (liftV (s101 nn t x0 xs' hl) (by simp [bndL,AVal.bnd,mI_bnd]) rfl _) ?_
  simp only [go_sem,Nat.reduceEqDiff,Nat.reduceAdd,Nat.reduceLT,Nat.reduceLeDiff,reduceIte,reduceCtorEq]
  refine IC.splitP (fun g3 => ?_) fun g3 => ?_
  · simp only [go_sem,Nat.reduceEqDiff,Nat.reduceAdd,Nat.reduceLT,Nat.reduceLeDiff,reduceIte,reduceCtorEq]
    refine bad (.inr rfl) ?_ rfl rfl rfl
    cases hb : Sp.numbers (x0 :: xs') lo hi with
    | false => exact Bool.and_false _
    | true => have := hnum.1 hb; omega
  have hok : (decide ((x0 :: xs').length = n) && Sp.numbers (x0 :: xs') lo hi) = true := by
    rw [decide_eq_true hlen,hnum.2 ⟨by omega,by omega⟩]; rfl
  have h44 : (x0 :: xs').length ≤ 4 := by omega
  have hp4 := Sp.pad_len h44
  have hpl : (mI (Sp.pad (x0 :: xs'))).length = 4 := by rw [mI_length,hp4]
  have hac := allI_cell (Sp.pad (x0 :: xs'))
  simp only [go_sem,Nat.reduceEqDiff,Nat.reduceAdd,Nat.reduceLT,Nat.reduceLeDiff,reduceIte,reduceCtorEq]
  refine CallK.pure (liftV (s74 nn t (x0 :: xs') h44) (by simp [bndL,AVal.bnd,mI_bnd]) (by simp [vec,AVal.bnd,mI_bnd]) _) ?_
  simp only [vec_eq,hpl,hac,go_sem,Nat.reduceEqDiff,Nat.reduceAdd,Nat.reduceLT,Nat.reduceLeDiff,reduceIte,reduceCtorEq]
  exact leafCT (cut true 4 (mI (Sp.pad (x0 :: xs')))) (.tup [vec (Sp.pad (x0 :: xs')),B true]) rfl ⟨by rw [hpl]; omega,fun h => by cases h⟩ ⟨by rw [cut_vec hp4]; exact vle_vec _,rfl,trivial⟩ ⟨rfl,(if_pos hok).symm⟩
theorem s64 (vs : List (List Int)) (n : Int) (x : List Int) (hv : ∀ v ∈ vs,v.length = 4) (hx : x.length = 4) (hl : vs.length ≤ 1000) : Abs.Spec Try.prog 64 [matV vs n,vec x] [] fun v H' => H' = [] ∧ v = .sl false false (mI (vs.map fun r => Sp.dot r x)) := by
  refine Abs.Spec.walk mixed fn64 nn64 t64 q64 nt64 (by simp) ?_
  simp only [w64,matV_eq,vec_eq,mV_length,go_sem,Nat.reduceEqDiff,Nat.reduceAdd,Nat.reduceLT,Nat.reduceLeDiff,reduceIte,reduceCtorEq]
  refine ⟨allI_cell x,?_⟩
  refine W_loop (fun q : { q : List (List Int) × List (List Int) // q.1 ++ q.2 = vs } => ([(3,ptr 0 0),(5,own 1 0 q.1.1.length q.1.1.length 1),(9,sl false false (mV vs)),(10,I vs.length),(11,I q.1.1.length)],[.cells (mI x),.cells (mI (q.1.1.map fun r => Sp.dot r x))])) (fun q => q.1.2.length) ⟨([],vs),rfl⟩ [some 1,none] (Wk.mk0 rfl (by simp [imgs,Blk.alive]) (by simp [hle,csle,mI_bnd,mI]) (by simp [fle,vle,Fr.get,mV_bnd])) ?_
  rintro ⟨⟨pre,suf⟩,hp⟩
  dsimp only at hp
  subst hp
  cases suf with
  | nil =>
    simp only [w64L0,w64T1,go_sem,Nat.reduceEqDiff,Nat.reduceAdd,Nat.reduceLT,Nat.reduceLeDiff,reduceIte,reduceCtorEq]
    exact leaf (.sl false false (mI (pre.map fun r => Sp.dot r x))) (vle_mI rfl (by simp) (by simp) (List.take_of_length_le (by simp [mI_length]))) ⟨rfl,rfl⟩
  | cons r suf =>
    have hr4 : r.length = 4 := hv r (by simp)
    have hrl : (mI r).length = 4 := by rw [mI_length,hr4]
    have hxl : (mI x).length = 4 := by rw [mI_length,hx]
    have hwk : IntKind.i64.wrap ((pre.length : Int) + 1) = pre.length + 1 := wrap64 (by simp at hl; omega) (by simp at hl; omega)
    have e : mI (List.take pre.length (List.map (fun r => Sp.dot r x) pre)) ++ [I (Sp.dot r x)] = mI ((pre ++ [r]).map fun r => Sp.dot r x) := by
      rw [List.take_of_length_le (by simp),mI_snoc]; simp
    simp only [w64L0,mV_mid,mV_length,cells_vec,cut_vec,hr4,hrl,hx,hxl,allI_cell,go_sem,Nat.reduceEqDiff,Nat.reduceAdd,Nat.reduceLT,Nat.reduceLeDiff,reduceIte,reduceCtorEq]
    refine ⟨allI_cell r,?_⟩
    refine CallK.pure (liftV (s82 r x hr4 hx) (by simp [bndL,vec,AVal.bnd,mI_bnd]) rfl _) ?_
    simp only [go_sem,Nat.reduceEqDiff,Nat.reduceAdd,Nat.reduceLT,Nat.reduceLeDiff,reduceIte,reduceCtorEq]
    refine ⟨by simp at hl; omega,?_⟩
    refine round1 rfl ⟨(pre ++ [r],suf),by simp⟩ [some 0,some 4] (by simp) (Wk.mk0 rfl (by simp [imgs,Blk.alive]) (by dsimp only; rw [← e]; exact ⟨.inl ⟨rfl,mI_bnd⟩,.inl ⟨rfl,by rw [e]; exact mI_bnd⟩,trivial⟩) (by simp [fle,vle,Fr.get,hwk,mV_bnd]))
def readR (a : List (List Int)) (v : AVal) : Prop := (Sp.mat a = true ∧ v = .tup [matV (a.map Sp.pad) (a.getD 0 []).length,B true]) ∨ (Sp.mat a = false ∧ ∃ vs n,v = .tup [matV vs n,B false])
set_option maxHeartbeats 2000000 in
theorem s62 (nn t : Bool) (a : List (List Int)) (ha : ∀ l ∈ a,l.length < 9223372036854775808) (hl : a.length < 9223372036854775808) : Abs.Spec Try.prog 62 [.sl nn t (mS a)] [] fun v H' => H' = [] ∧ readR a v := by
  have no : ∀ {e : Ex} {fr : Fr} {H : AHeap} {vs : List (List Int)} {n : Int} {b : Bool} {k i : Nat},(e = .norm ∨ e = .ret) → (∀ v ∈ vs,v.length = 4) → k = vs.length → readR a (.tup [matV vs n,B b]) → fr.get 2 = ptr 0 0 → fr.get 3 = B b → H[0]? = some (.cells [own i 0 k k 4,I n]) → H[i]? = some (.cells (mI vs.flatten)) → retA 0 r62 (fun v H' => H' = [] ∧ readR a v) e fr H [] := fun {e fr H vs n b k i} he h4 hk hR h2 h3 hH hi => by
    refine leafCT (.agg [own i 0 k k 4,I n]) (.tup [matV vs n,B b]) (p := 0 + 2 ≤ 2 ∧ (true = false → 2 = 1)) (by rw [h2]; simp only [loadA,hH]; rfl) ⟨by omega,fun h => by cases h⟩ ⟨.inr ⟨vle_mV h4 hi (by simp) hk,rfl,trivial⟩,by rw [h3]; rfl,trivial⟩ ⟨rfl,hR⟩ he
  have no0 : ∀ {e : Ex} {fr : Fr} {H : AHeap},(e = .norm ∨ e = .ret) → Sp.mat a = false → fr.get 2 = ptr 0 0 → fr.get 3 = B false → H[0]? = some (.cells [nilSl,I 0]) → retA 0 r62 (fun v H' => H' = [] ∧ readR a v) e fr H [] := fun {e fr H} he hm h2 h3 hH => by
    refine leafCT (.agg [nilSl,I 0]) (.tup [matV [] 0,B false]) (p := 0 + 2 ≤ 2 ∧ (true = false → 2 = 1)) (by rw [h2]; simp only [loadA,hH]; rfl) ⟨by omega,fun h => by cases h⟩ ⟨.inr ⟨⟨rfl,rfl,rfl⟩,rfl,trivial⟩,by rw [h3]; rfl,trivial⟩ ⟨rfl,.inr ⟨hm,[],0,rfl⟩⟩ he
  have bad : Sp.mat a = false → ∀ vs n,readR a (.tup [matV vs n,B false]) := fun h vs n => .inr ⟨h,vs,n,rfl⟩
  refine Abs.Spec.walk mixed fn62 nn62 t62 q62 nt62 (by simp) ?_
  simp only [w62,go_sem,Nat.reduceEqDiff,Nat.reduceAdd,Nat.reduceLT,Nat.reduceLeDiff,reduceIte,reduceCtorEq]
  refine G.splitP (fun h1 => ?_) fun h1 => ?_
  · simp only [cut_two,go_sem,Nat.reduceEqDiff,Nat.reduceAdd,Nat.reduceLT,Nat.reduceLeDiff,reduceIte,reduceCtorEq]
    exact no0 (.inr rfl) (by rw [Sp.mat,decide_eq_false (show ¬ 1 ≤ a.length by omega)]; rfl) rfl rfl rfl
  simp only [go_sem,Nat.reduceEqDiff,Nat.reduceAdd,Nat.reduceLT,Nat.reduceLeDiff,reduceIte,reduceCtorEq]
  refine IC.splitP (fun h2 => ?_) fun h2 => ?_
  · simp only [cut_two,go_sem,Nat.reduceEqDiff,Nat.reduceAdd,Nat.reduceLT,Nat.reduceLeDiff,reduceIte,reduceCtorEq]
    exact no0 (.inr rfl) (by rw [Sp.mat,decide_eq_false (show ¬ a.length ≤ 2 by omega),Bool.false_and,Bool.and_false]) rfl rfl rfl
  have h0 : 0 < a.length := by omega
  obtain ⟨n,hn⟩ : ∃ n,n = (a.getD 0 []).length := ⟨_,rfl⟩
  obtain ⟨q,hq⟩ : ∃ q : List Int → Bool,q = fun r => decide (r.length = n) && (decide (1 ≤ r.length) && (decide (r.length ≤ 4) && Sp.numbers r (-2) 2)) := ⟨_,rfl⟩
  have hmat : Sp.mat a = a.all q := by
    rw [Sp.mat,decide_eq_true (show 1 ≤ a.length by omega),decide_eq_true (show a.length ≤ 2 by omega),hq,hn]; rfl
  have hn' := hn.symm
  have hal2 : a.length ≤ 2 := by omega
  simp only [mS_get,h0,hn',go_sem,Nat.reduceEqDiff,Nat.reduceAdd,Nat.reduceLT,Nat.reduceLeDiff,reduceIte,reduceCtorEq]
  refine ⟨by omega,?_⟩
  refine W_loop (fun p : { p : List (List Int) × List (List Int) // p.1 ++ p.2 = a ∧ a.all q = p.2.all q ∧ ∀ r ∈ p.1,r.length ≤ 4 } => ([(2,ptr 0 0),(4,ptr 1 0),(21,sl nn t (mS a)),(22,I a.length),(23,I p.1.1.length)],[.cells [nilSl,I 0],.cells [own 2 0 p.1.1.length p.1.1.length 4,I n],.cells (mI (p.1.1.map Sp.pad).flatten)])) (fun p => p.1.2.length) ⟨([],a),rfl,rfl,by simp⟩ [some 0,some 1,none]
    (Wk.mk0 rfl (by simp [imgs,Blk.alive]) ⟨.inl ⟨rfl,rfl⟩,.inr ⟨⟨by simp,by simp⟩,rfl,trivial⟩,rfl,trivial⟩ (by simp [fle,vle,Fr.get,mS_bnd])) ?_
  rintro ⟨⟨pre,suf⟩,hp,hinv,hpre⟩
  dsimp only at hp hinv hpre
  rw [← hmat] at hinv
  have hp4 : ∀ v ∈ pre.map Sp.pad,v.length = 4 := fun v hv => by
    obtain ⟨r,hr,rfl⟩ := List.mem_map.1 hv
    exact Sp.pad_len (hpre r hr)
  have hpl' : pre.length = (pre.map Sp.pad).length := by simp
  cases suf with
  | nil =>
    have hpl : pre.length = a.length := by rw [← hp]; simp
    have hz : decide ((pre.length : Int) < a.length) = false := decide_eq_false (by omega)
    have hpa : pre = a := by simpa using hp
    simp only [w62L0,hz,w62T1,cut_two,go_sem,Nat.reduceEqDiff,Nat.reduceAdd,Nat.reduceLT,Nat.reduceLeDiff,reduceIte,reduceCtorEq]
    exact no (.inr rfl) hp4 hpl' (.inl ⟨by rw [hinv]; rfl,by rw [hpa,hn]⟩) rfl rfl rfl rfl
  | cons r suf =>
    have hpl : pre.length < a.length := by rw [← hp]; simp
    have hz : decide ((pre.length : Int) < a.length) = true := decide_eq_true (by omega)
    have hget : a.getD pre.length [] = r := by rw [← hp]; simp [List.getD_eq_getElem?_getD]
    have hra : r ∈ a := by rw [← hp]; simp
    have hrl := ha r hra
    have hqr : (r :: suf).all q = (q r && suf.all q) := rfl
    rw [hqr] at hinv
    have badq : q r = false → Sp.mat a = false := fun h => by rw [hinv,h]; rfl
    have hwk : IntKind.i64.wrap ((pre.length : Int) + 1) = pre.length + 1 := wrap64 (by omega) (by omega)
    simp only [w62L0,hz,mS_get,hpl,hget,go_sem,Nat.reduceEqDiff,Nat.reduceAdd,Nat.reduceLT,Nat.reduceLeDiff,reduceIte,reduceCtorEq]
    refine ⟨by omega,?_⟩
    refine G.split (fun g1 => ?_) fun g1 => ?_
    · simp only [cut_two,go_sem,Nat.reduceEqDiff,Nat.reduceAdd,Nat.reduceLT,Nat.reduceLeDiff,reduceIte,reduceCtorEq]
      exact no (.inr rfl) hp4 hpl' (bad (badq (by rw [hq]; simp; simp at g1; omega)) _ _) rfl rfl rfl rfl
    simp only [go_sem,Nat.reduceEqDiff,Nat.reduceAdd,Nat.reduceLT,Nat.reduceLeDiff,reduceIte,reduceCtorEq]
    refine G.splitP (fun g2 => ?_) fun g2 => ?_
    · simp only [cut_two,go_sem,Nat.reduceEqDiff,Nat.reduceAdd,Nat.reduceLT,Nat.reduceLeDiff,reduceIte,reduceCtorEq]
      exact no (.inr rfl) hp4 hpl' (bad (badq (by rw [hq]; simp; simp at g1; omega)) _ _) rfl rfl rfl rfl
    simp only [go_sem,Nat.reduceEqDiff,Nat.reduceAdd,Nat.reduceLT,Nat.reduceLeDiff,reduceIte,reduceCtorEq]
    refine G.splitP (fun g3 => ?_) fun g3 => ?_
    · simp only [cut_two,go_sem,Nat.reduceEqDiff,Nat.reduceAdd,Nat.reduceLT,Nat.reduceLeDiff,reduceIte,reduceCtorEq]
      exact no (.inr rfl) hp4 hpl' (bad (badq (by rw [hq]; simp; simp at g1; omega)) _ _) rfl rfl rfl rfl
    have hrn : r.length = n := by have := bne_eq_false_iff_eq.1 g1; omega
    have hn1 : 1 ≤ n := by omega
    have hn4 : n ≤ 4 := by omega
    obtain ⟨x0,xs',hrx⟩ : ∃ x0 xs',r = x0 :: xs' := by
      cases r with
      | nil => simp at hrn; omega
      | cons a b => exact ⟨a,b,rfl⟩
    have hnum := Sp.numbers_iff (l := r) (by rw [hrx]; simp) (lo := -2) (hi := 2)
    have m1 := s72 false false x0 xs' (by rw [← hrx]; exact hrl)
    have m2 := s101 false false x0 xs' (by rw [← hrx]; exact hrl)
    rw [← hrx] at m1 m2
    simp only [go_sem,Nat.reduceEqDiff,Nat.reduceAdd,Nat.reduceLT,Nat.reduceLeDiff,reduceIte,reduceCtorEq]
    refine CallK.pure (liftV m1 (by simp [bndL,AVal.bnd,mI_bnd]) rfl _) ?_
    simp only [go_sem,Nat.reduceEqDiff,Nat.reduceAdd,Nat.reduceLT,Nat.reduceLeDiff,reduceIte,reduceCtorEq]
    refine G.splitP (fun g4 => ?_) fun g4 => ?_
    · simp only [cut_two,go_sem,Nat.reduceEqDiff,Nat.reduceAdd,Nat.reduceLT,Nat.reduceLeDiff,reduceIte,reduceCtorEq]
      exact no (.inr rfl) hp4 hpl' (bad (badq (by
        cases hb : Sp.numbers r (-2) 2 with
        | true => have := hnum.1 hb; omega
        | false => rw [hq]; simp [hb])) _ _) rfl rfl rfl rfl
    simp only [go_sem,Nat.reduceEqDiff,Nat.reduceAdd,Nat.reduceLT,Nat.reduceLeDiff,reduceIte,reduceCtorEq]
    refine CallK.pure (liftV m2 (by simp [bndL,AVal.bnd,mI_bnd]) rfl _) ?_
    simp only [go_sem,Nat.reduceEqDiff,Nat.reduceAdd,Nat.reduceLT,Nat.reduceLeDiff,reduceIte,reduceCtorEq]
    refine IC.splitP (fun g5 => ?_) fun g5 => ?_
    · simp only [cut_two,go_sem,Nat.reduceEqDiff,Nat.reduceAdd,Nat.reduceLT,Nat.reduceLeDiff,reduceIte,reduceCtorEq]
      exact no (.inr rfl) hp4 hpl' (bad (badq (by
        cases hb : Sp.numbers r (-2) 2 with
        | true => have := hnum.1 hb; omega
        | false => rw [hq]; simp [hb])) _ _) rfl rfl rfl rfl
    have hqt : q r = true := by
      rw [hq]
      simp only [hnum.2 ⟨by omega,by omega⟩,Bool.and_true,Bool.and_eq_true,decide_eq_true_eq]
      omega
    simp only [go_sem,Nat.reduceEqDiff,Nat.reduceAdd,Nat.reduceLT,Nat.reduceLeDiff,reduceIte,reduceCtorEq]
    refine ⟨by simp,CallKD.pure (liftV (s74 false false r (by omega)) (by simp [bndL,AVal.bnd,mI_bnd]) (by simp [vec,AVal.bnd,mI_bnd])) ?_⟩
    have h4r := Sp.pad_len (show r.length ≤ 4 by omega)
    have hml : (mI (Sp.pad r)).length = 4 := by rw [mI_length,h4r]
    have eD : List.drop 4 [[I 0,I 0,I 0,I 0]].flatten = [] := rfl
    have eP : List.take 4 (Sp.pad r) = Sp.pad r := List.take_of_length_le (by omega)
    have hfl := flat_len hp4
    rw [List.length_map] at hfl
    have eF : List.take (pre.length * 4) (List.map Sp.pad pre).flatten = (List.map Sp.pad pre).flatten := List.take_of_length_le (by omega)
    have eG : (List.map Sp.pad pre).flatten ++ Sp.pad r = (List.map Sp.pad (pre ++ [r])).flatten := by simp
    have h44 : 4 ≤ (Sp.pad r).length := by omega
    simp only [cells_vec,hml,eD,eP,eF,eG,h44,go_sem,Nat.reduceEqDiff,Nat.reduceAdd,Nat.reduceLT,Nat.reduceLeDiff,reduceIte,reduceCtorEq]
    refine ⟨rfl,⟨by omega,by omega⟩,?_⟩
    refine round1 rfl ⟨(pre ++ [r],suf),by simp [hp],by rw [← hmat,hinv,hqt]; rfl,fun x hx => by rcases List.mem_append.1 hx with hx | hx; exact hpre x hx; simp at hx; subst hx; omega⟩ [some 0,some 1,some 4] (by simp)
      (Wk.mk0 rfl (by simp [imgs,Blk.alive]) ⟨.inl ⟨rfl,rfl⟩,.inr ⟨⟨by simp,by simp⟩,rfl,trivial⟩,.inl ⟨rfl,mI_bnd⟩,trivial⟩ (by simp [fle,vle,Fr.get,mS_bnd,hwk]))
end Go.Proofs.Ytipfjfmdjmaflaa
