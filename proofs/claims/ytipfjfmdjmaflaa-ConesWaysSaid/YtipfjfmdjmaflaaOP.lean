/- Contracts: Far; Contracts: Way; ConesLeads: there is a way between any two assortments with the same product,back it is as long; ConesWays: Way returns a way with the fewest vectors,CheckWay answers as the reference. -/
import Derived.Test.YtipfjfmdjmaflaaON
import Derived.Test.YtipfjfmdjmaflaaOC
import Derived.Test.YtipfjfmdjmaflaaOB
import Derived.Test.YtipfjfmdjmaflaaLE
namespace Go.Proofs.Ytipfjfmdjmaflaa
open Go.Abs AVal
set_option linter.unusedSimpArgs false
attribute [local go_sem] W_skip W_keep KQ_canon canon Fr.norm W_seq W_block W_scope W_exit W_ret W_ops W_draw KQ_nil KQ_norm_seq KQ_exit_seq KQ_ret_seq KQ_norm_block KQ_ret_block KQ_exit_block KQ_exit_loop KQ_ret_loop O_nil O_cons S_call S_mv SE_mv SD_mv S_pick SE_pick SD_pick S_bin SE_bin SD_bin S_eqb SE_eqb SD_eqb S_eqv SE_eqv SD_eqv S_eqnil SE_eqnil SD_eqnil S_un SE_un SD_un S_conv SE_conv SD_conv S_mkfn SE_mkfn SD_mkfn S_load SE_load SD_load S_nilck SE_nilck SD_nilck S_slS SE_slS SD_slS S_slP SE_slP SD_slP S_fldA SE_fldA SD_fldA S_fld SE_fld SD_fld S_ixS SE_ixS SD_ixS S_ixP SE_ixP SD_ixP S_ixV SE_ixV SD_ixV S_ixStr SE_ixStr SD_ixStr S_ext SE_ext SD_ext S_len SE_len SD_len S_lenStr SE_lenStr SD_lenStr S_lenc SE_lenc SD_lenc S_mn SE_mn SD_mn S_mx SE_mx SD_mx S_build SE_build SD_build S_alloc SD_alloc S_box SD_box S_bslice SD_bslice S_mksl SD_mksl S_store SD_store S_append SD_append S_copy SD_copy S_clr SD_clr S_mlen SE_mlen SD_mlen S_mget SE_mget SD_mget S_mval SE_mval SD_mval S_mentry SE_mentry SD_mentry S_mkmap SD_mkmap S_mset SD_mset S_mrange SD_mrange S_mnext mlenA mgetA mvalA mentryA msetA mrangeA cells_mp isCell_mp cellsOk_mp aq_some aa_some al_some alA_some aqd_some aad_some ald_some ape_some D_done D_both D_early D_step SE_call SD_call IOpd.ev Fr.get Fr.put Fr.putd entryFr pickA binA binI isSh shI eqbA eqvA ints ints_mI Option.map_some eqnilA unA convA loadA nilckA intA slSA slPA fldAA fldVA ixSA ixPA ixVA ixStrA extA lenA lenStrA mnA mxA AVal.fits fillA fillOk buildA opa srcA appA stoA copA clrA rdFree zeros List.length_nil List.length_cons List.length_map List.map_cons List.map_nil Option.map_some Option.map_none if_true if_false ite_true ite_false true_and and_true and_self implies_true forall_const true_implies Bool.false_eq_true Bool.not_true Bool.not_false decide_eq_true_eq decide_eq_false_iff_not eq_self List.getElem?_cons_zero List.getElem?_cons_succ List.getElem?_nil List.set_cons_zero List.set_cons_succ List.nil_append List.cons_append List.append_nil List.replicate_zero List.replicate_succ Nat.zero_add false_implies rng_lt rng_end rng_get cells_I cells_B cells_sl cut_one Int.toNat_natCast Int.natCast_nonneg List.headD_cons Int.lt_irrefl not_false_eq_true decide_false decide_true mI_length mI_cells mI_sz mI_isCell mI_mid mI_append mI_take mI_drop cells_val cells_own cells_agg isCell_I isCell_B isCell_nil isCell_sl isCell_own isCell_ptr isCell_fn isCell_rp isCell_yld cellsOk_I cellsOk_B cellsOk_nil cellsOk_sl cellsOk_own cellsOk_ptr cellsOk_fn cellsOk_rp cellsOk_yld cellsOk_agg cells_nil cells_ptr cells_fn cells_rp List.all_cons List.all_nil Bool.and_true Nat.mul_one Nat.zero_mul Nat.one_mul List.take_zero List.take_nil List.drop_nil List.drop_zero List.not_mem_nil Nat.le_refl Nat.zero_le mS_length mS_cells mS_sz mS_isCell mS_mid mS_append mS_take mS_drop cells_sI isCell_sI cellsOk_sI sI_eq succ_le_self' List.take_succ_cons List.drop_succ_cons List.take_length beq_self_eq_true List.mem_cons or_false forall_eq mI_put mI_rep O_guard' D_earlyG' D_stepG' W_cond' G_tt G_tf G_ft G_ff GE_tt GE_tf GE_ft GE_ff GS_tt GS_tf GS_ft GS_ff G_u GE_u GS_u IC_t IC_f xft xff xtt xtf z00 z20 z22 z02 zz tn0
theorem Vis.start {a : List (List Int)} {x y : List Int} {ks ks' : List Int} {p' : Nat} {b : Bool} (hv : Sp.vecOk a x 0 6 = true) (hks : ∀ z,z ≠ 0 → z ∉ ks) (hc : cnt ks = 0) (ht : TabIn ks (keyOf x) ks' p' b) (q1 : 1 ≤ p') (q2 : p' ≤ 37) (q3 : 2 * cnt ks' ≤ 2 ^ p') : Vis a x y 0 [x] [x] ks' p' := by
  obtain ⟨hm,xl,Xl,bX,pX,bx,Xp,px⟩ := vecOk_spec (by decide) hv
  have h0 : ∀ {u : List Int},u.length = (a.getD 0 []).length → Hop (Nr a) (Sp.pad x) (Sp.pad u) 0 → u = x := fun {u} ul h => by
    have e : Sp.pad u = Sp.pad x := by
      generalize Sp.pad u = U at h
      cases h; rfl
    rw [← Sp.pad_take ul,e,Sp.pad_take xl]
  refine ⟨ht.tab,q1,q2,q3,by simp,fun u => ?_,fun u => ?_,fun z hz => ?_,?_,fun m hm => absurd hm (Nat.not_lt_zero m),by simp⟩
  · rw [List.mem_singleton]
    constructor
    · rintro rfl; exact ⟨xl,0,Nat.le_refl _,.start⟩
    · rintro ⟨ul,m,hm,hh⟩
      obtain rfl : m = 0 := by omega
      exact h0 ul hh
  · rw [List.mem_singleton]
    constructor
    · rintro rfl; exact ⟨xl,.start,fun m hm => absurd hm (Nat.not_lt_zero m)⟩
    · rintro ⟨ul,hh,-⟩
      exact h0 ul hh
  · rw [ht.mem z hz]
    constructor
    · rintro (h | rfl)
      · exact absurd h (hks z hz)
      · exact ⟨x,by simp,rfl⟩
    · rintro ⟨u,hu,e⟩
      rw [List.mem_singleton] at hu
      subst hu
      exact .inr e.symm
  · have := ht.cnt
    simp only [List.length_singleton]
    split at this <;> omega
set_option maxRecDepth 20000 in
set_option maxHeartbeats 4000000 in
theorem s30 (a : List (List Int)) (x y : List Int) (ha : ∀ l ∈ a,l.length < 9223372036854775808) (hl : a.length < 9223372036854775808) (vx : Sp.vecOk a x 0 6 = true) (yl : y.length = (a.getD 0 []).length) {D : Nat} (hD : D ≤ 24) (hop : Hop (Nr a) (Sp.pad x) (Sp.pad y) D) :
    Abs.Spec Try.prog 30 [.sl false false (mS a),.sl false false (mI x),.sl false false (mI y)] [] fun v H' => H' = [] ∧ ∃ d : Nat,v = I d ∧ Hop (Nr a) (Sp.pad x) (Sp.pad y) d ∧ ∀ m,Hop (Nr a) (Sp.pad x) (Sp.pad y) m → d ≤ m := by
  refine Abs.Spec.walk mixed fn30 nn30 t30 q30 nt30 (by simp) ?_
  obtain ⟨hm,xl,Xl,bX,pX,bx,Xp,px⟩ := vecOk_spec (by decide) vx
  obtain ⟨r1,r2,n1,n4⟩ := mat_rows hm
  have h50 : Abs.Spec Try.prog 50 [.sl false false (mS a)] [] fun v H' => H' = [] ∧ v = .sl false false (mS (Sp.basL a)) := C50_ok a ha hl hm
  have hLl : (Sp.basL a).length ≤ 400 := Sp.ans_len hm (Sp.basB_is _ _)
  have xr : ∀ z ∈ x,0 ≤ z ∧ z ≤ 8000 := fun z hz => by
    have h1 := bx z hz
    unfold posV at px
    rw [List.all_eq_true] at px
    have := of_decide_eq_true (px z hz)
    omega
  simp only [w30,go_sem,Nat.reduceEqDiff,Nat.reduceAdd,Nat.reduceLT,Nat.reduceLeDiff,reduceIte,reduceCtorEq]
  refine CallK.pure (liftV h50 (by simp [bndL,AVal.bnd,mS_bnd]) (by simp [AVal.bnd,mS_bnd]) _) ?_
  simp only [go_sem,Nat.reduceEqDiff,Nat.reduceAdd,Nat.reduceLT,Nat.reduceLeDiff,reduceIte,reduceCtorEq]
  have zs : Int.toNat 1024 = 2 ^ 10 := rfl
  refine ⟨by decide,?_⟩
  rw [zs]
  obtain ⟨Z0,hZ0⟩ : ∃ Z0,List.replicate (2 ^ 10) (0 : Int) = Z0 := ⟨_,rfl⟩
  have cz : cnt Z0 = 0 := by rw [← hZ0]; exact cnt_zeros _
  have tz : Tab Z0 10 := by rw [← hZ0]; exact tab_zeros 10
  have mz : ∀ z : Int,z ≠ 0 → z ∉ Z0 := fun z hz h => by rw [← hZ0] at h; exact hz (List.mem_replicate.1 h).2
  rw [hZ0]
  refine W_view [some 1,some 0,none] [(1,.sl false false (mI x)),(2,.sl false false (mI y)),(7,.sl false false (mS (Sp.basL a))),(8,.ptr 0 0)] [.cells [.own 1 0 (2 ^ 10) (2 ^ 10) 1,I (cnt Z0)],.cells (mI Z0),.cells (mS [])] (Wk.mk0 rfl (by simp [imgs,Blk.alive]) (by rw [cz]; simp only [hle,csle]; simp [mI_bnd,mS_nil,vle,vle.vleL]) (by simp [fle,vle,Fr.get,mS_bnd,mI_bnd,imgs,Blk.alive])) ?_
  simp only [go_sem,Nat.reduceEqDiff,Nat.reduceAdd,Nat.reduceLT,Nat.reduceLeDiff,reduceIte,reduceCtorEq]
  refine CallK.by (CallV.of_spec (first := []) (cap := []) (s78 [] Z0 10 x tz (by decide) (by decide) (by rw [cz]; decide) (by rw [cz]; decide) (by omega) xr)) fun v H' ⟨ks0,p0,b0,hin0,q1,q2,q3,hv,hH⟩ => ?_
  subst hv
  have hV0 : Vis a x y 0 [x] [x] ks0 p0 := Vis.start vx mz cz hin0 q1 q2 q3
  have hgo : ∀ (ki : Nat) (fr : Fr) (H : AHeap),H[0]? = some (.cells [.own ki 0 (2 ^ p0) (2 ^ p0) 1,I (cnt ks0 : Nat)]) → H[ki]? = some (.cells (mI ks0)) → ki ≠ 0 → fr.get 2 = .sl false false (mI y) → fr.get 7 = .sl false false (mS (Sp.basL a)) → fr.get 8 = .ptr 0 0 → vle H [some 0,some ki] [0,ki] 3 (fr.get 9) (.sl false false (mS [x])) → fr.get 10 = I 0 →
      W ⟨Try.prog,0,62,true⟩ (retA 0 r30 fun v H' => H' = [] ∧ ∃ d : Nat,v = I d ∧ Hop (Nr a) (Sp.pad x) (Sp.pad y) d ∧ ∀ m,Hop (Nr a) (Sp.pad x) (Sp.pad y) m → d ≤ m) (.loop c30L0) [.block 0] fr H [] := fun ki fr H g0 gk hne f2 f7 f8 f9 f10 => by
    refine W_loop (fun q : { q : Nat × List (List Int) × List (List Int) × List Int × Nat // Vis a x y q.1 q.2.1 q.2.2.1 q.2.2.2.1 q.2.2.2.2 } =>
      ([(2,.sl false false (mI y)),(7,.sl false false (mS (Sp.basL a))),(8,.ptr 0 0),(9,.sl false false (mS q.1.2.1)),(10,I q.1.1)],[.cells [.own 1 0 (2 ^ q.1.2.2.2.2) (2 ^ q.1.2.2.2.2) 1,I (cnt q.1.2.2.2.1 : Nat)],.cells (mI q.1.2.2.2.1)])) (fun q => D + 1 - q.1.1)
      ⟨(0,[x],[x],ks0,p0),hV0⟩ [some 0,some ki] (Wk.mk0 rfl ?_ ?_ ?_) ?_
    · simp [imgs,Blk.alive,Ne.symm hne]
    · simp only [hle,csle]
      simp [g0,gk,vle,vle.vleL,mI_bnd]
    · have ei : imgs [some 0,some ki] 0 [Blk.cells [.own 1 0 (2 ^ p0) (2 ^ p0) 1,I (cnt ks0 : Nat)],.cells (mI ks0)] = [0,ki] := by simp [imgs,Blk.alive]
      simp only [fle,ei]
      exact ⟨by rw [f2]; exact ⟨mI_bnd,fun h => h,fun h => h,rfl⟩,by rw [f7]; exact ⟨mS_bnd,fun h => h,fun h => h,rfl⟩,by rw [f8]; exact ⟨by simp,rfl,rfl⟩,f9,by rw [f10]; rfl,trivial⟩
    clear hV0 hin0 g0 gk f2 f7 f8 f9 f10
    rintro ⟨⟨far,lv,vis,ks,p⟩,hV⟩
    dsimp only at hV ⊢
    have hfar : far ≤ D := by
      apply Classical.byContradiction
      intro h
      exact hV.early D (by omega) hop
    have hf24 : far ≤ 24 := by omega
    have hshort := hV.short
    have efar : IntKind.i64.wrap ((far : Int) + 1) = ((far + 1 : Nat) : Int) := by rw [wrap64 (by omega) (by omega)]; omega
    have zb : ∀ z ∈ lv,z.length = x.length ∧ ∀ w ∈ z,0 ≤ w ∧ w ≤ 390 := fun z hz => by
      obtain ⟨zl,hh,-⟩ := (hV.lev z).1 hz
      obtain ⟨b1,b2,-,b4⟩ := hop_box vx hh
      refine ⟨by rw [zl,xl],fun w hw => ?_⟩
      have hw' : w ∈ Sp.pad z := by unfold Sp.pad; exact List.mem_append_left _ hw
      obtain ⟨k,hk,rfl⟩ := List.getElem_of_mem hw'
      have c1 := Sp.posV_get.1 b2 k
      have c2 := b4 k
      rw [List.getD_eq_getElem?_getD,List.getElem?_eq_getElem hk,Option.getD_some] at c1 c2
      omega
    simp only [w30L0,go_sem,Nat.reduceEqDiff,Nat.reduceAdd,Nat.reduceLT,Nat.reduceLeDiff,reduceIte,reduceCtorEq]
    refine W_loop (fun q : { q : List (List Int) × List Int × Nat × Nat // q.2.2.2 ≤ lv.length ∧ VisI a x y far lv vis q.1 q.2.1 q.2.2.1 q.2.2.2 0 } =>
      ([(2,.sl false false (mI y)),(7,.sl false false (mS (Sp.basL a))),(8,.ptr 0 0),(10,I far),(11,.own 2 0 q.1.1.length q.1.1.length 1),(29,.sl false false (mS lv)),(30,I lv.length),(31,I q.1.2.2.2)],[.cells [.own 1 0 (2 ^ q.1.2.2.1) (2 ^ q.1.2.2.1) 1,I (cnt q.1.2.1 : Nat)],.cells (mI q.1.2.1),.cells (mS q.1.1)])) (fun q => lv.length - q.1.2.2.2)
      ⟨([],ks,p,0),Nat.zero_le _,VisI.start hV⟩ [some 0,some 1,none] (Wk.mk0 rfl (by simp [imgs,Blk.alive]) (by simp only [hle,csle]; simp [vle,vle.vleL,mI_bnd,mS_nil]) (by simp [fle,vle,Fr.get,imgs,Blk.alive,mI_bnd,mS_bnd])) ?_
    rintro ⟨⟨nx,ks1,p1,i⟩,hi,hI⟩
    dsimp only at hi hI ⊢
    by_cases hil : i < lv.length
    rotate_left
    · have d1 : ¬ (i : Int) < lv.length := by omega
      obtain rfl : i = lv.length := by omega
      simp only [w30L1,d1,decide_false,w30T8,w30T9,efar,go_sem,Nat.reduceEqDiff,Nat.reduceAdd,Nat.reduceLT,Nat.reduceLeDiff,reduceIte,reduceCtorEq]
      refine round1 rfl ⟨(far + 1,nx,vis ++ nx,ks1,p1),VisI.done vx hf24 yl hI⟩ [some 0,some 1] (by dsimp only; omega) (Wk.mk0 rfl (by simp [imgs,Blk.alive]) (by simp only [hle,csle]; simp [vle,vle.vleL,mI_bnd]) ?_)
      have ei : imgs [some 0,some 1] 0 [Blk.cells [.own 1 0 (2 ^ p1) (2 ^ p1) 1,I (cnt ks1 : Nat)],.cells (mI ks1)] = [0,1] := by simp [imgs,Blk.alive]
      simp only [fle,ei]
      exact ⟨⟨mI_bnd,fun h => h,fun h => h,rfl⟩,⟨mS_bnd,fun h => h,fun h => h,rfl⟩,⟨by simp,rfl,rfl⟩,vle_mS (cs := mS nx) rfl (by simp) rfl (List.take_of_length_le (by rw [mS_length]; exact Nat.le_refl _)),rfl,trivial⟩
    have d1 : (i : Int) < lv.length := by omega
    have gi := mS_getD hil
    have zm := mem_getD hil
    obtain ⟨z,hz⟩ : ∃ z,lv.getD i [] = z := ⟨_,rfl⟩
    rw [hz] at gi zm
    obtain ⟨zl,zr⟩ := zb z zm
    simp only [w30L1,w30T2,d1,decide_true,gi,go_sem,Nat.reduceEqDiff,Nat.reduceAdd,Nat.reduceLT,Nat.reduceLeDiff,reduceIte,reduceCtorEq]
    refine CallK.pure (liftV (s75 false false false false z y (by omega) (by omega)) (by simp [bndL,AVal.bnd,mI_bnd]) rfl _) ?_
    cases hzy : (z == y) with
    | true =>
      obtain rfl := eq_of_beq hzy
      simp only [go_sem,Nat.reduceEqDiff,Nat.reduceAdd,Nat.reduceLT,Nat.reduceLeDiff,reduceIte,reduceCtorEq]
      refine leaf (I far) rfl ⟨rfl,far,rfl,((hV.lev z).1 zm).2.1,fun m hm' => ?_⟩
      apply Classical.byContradiction
      intro h
      exact hV.early m (by omega) hm'
    | false =>
    have hne : lv.getD i [] ≠ y := by rw [hz]; rw [beq_eq_false_iff_ne] at hzy; exact hzy
    simp only [w30T3,go_sem,Nat.reduceEqDiff,Nat.reduceAdd,Nat.reduceLT,Nat.reduceLeDiff,reduceIte,reduceCtorEq]
    obtain ⟨N,hN⟩ : ∃ N,(Sp.basL a).length = N := ⟨_,rfl⟩
    rw [hN]
    refine W_loop (fun q : { q : List (List Int) × List Int × Nat × Nat // q.2.2.2 ≤ N ∧ VisI a x y far lv vis q.1 q.2.1 q.2.2.1 i q.2.2.2 } =>
      ([(2,.sl false false (mI y)),(7,.sl false false (mS (Sp.basL a))),(8,.ptr 0 0),(10,I far),(11,.own 2 0 q.1.1.length q.1.1.length 1),(13,.sl false false (mI z)),(29,.sl false false (mS lv)),(30,I lv.length),(31,I i),(39,.sl false false (mS (Sp.basL a))),(40,I N),(41,I q.1.2.2.2)],[.cells [.own 1 0 (2 ^ q.1.2.2.1) (2 ^ q.1.2.2.1) 1,I (cnt q.1.2.1 : Nat)],.cells (mI q.1.2.1),.cells (mS q.1.1)])) (fun q => N - q.1.2.2.2)
      ⟨(nx,ks1,p1,0),Nat.zero_le _,hI⟩ [some 0,some 1,some 2] (Wk.mk0 rfl (by simp [imgs,Blk.alive]) (by simp only [hle,csle]; simp [vle,vle.vleL,mI_bnd,mS_bnd]) (by simp [fle,vle,Fr.get,imgs,Blk.alive,mI_bnd,mS_bnd])) ?_
    rintro ⟨⟨nx2,ks2,p2,j⟩,hj,hJ⟩
    dsimp only at hj hJ ⊢
    have hsz := hJ.size vx hf24
    have nxl : nx2.length ≤ 27439591201 := by rw [List.length_append] at hsz; omega
    by_cases hjl : j < N
    rotate_left
    · have d2 : ¬ (j : Int) < N := by omega
      obtain rfl : j = N := by omega
      have ei : IntKind.i64.wrap ((i : Int) + 1) = ((i + 1 : Nat) : Int) := by rw [wrap64 (by omega) (by omega)]; omega
      rw [← hN] at hJ
      simp only [w30L4,d2,decide_false,w30T7,ei,go_sem,Nat.reduceEqDiff,Nat.reduceAdd,Nat.reduceLT,Nat.reduceLeDiff,reduceIte,reduceCtorEq]
      exact round1 rfl ⟨(nx2,ks2,p2,i + 1),hil,hJ.next vx hil hne⟩ [some 0,some 1,some 2] (by dsimp only; omega) (Wk.mk0 rfl (by simp [imgs,Blk.alive]) (by simp only [hle,csle]; simp [vle,vle.vleL,mI_bnd,mS_bnd]) (by simp [fle,vle,Fr.get,imgs,Blk.alive,mI_bnd,mS_bnd]))
    have d2 : (j : Int) < N := by omega
    have jl : j < (Sp.basL a).length := by omega
    have d3 : (j : Int) < (Sp.basL a).length := by omega
    have gj := mS_getD jl
    have bm := mem_getD jl
    have ej : IntKind.i64.wrap ((j : Int) + 1) = ((j + 1 : Nat) : Int) := by rw [wrap64 (by omega) (by omega)]; omega
    have hput := fun (hp : posV (plusV 1 (lv.getD i []) ((Sp.basL a).getD j [])) = true) u hu ks' p' b => hJ.put vx hf24 hil jl hp (u := u) hu (ks' := ks') (p' := p') (b := b)
    have hskip := hJ.skip
    have hst := fun hp => step_near (z := z) (b := (Sp.basL a).getD j []) vx (by rw [zl,xl]) bm hp
    rw [hz] at hput hskip
    obtain ⟨m,hmm⟩ : ∃ m,(Sp.basL a).getD j [] = m := ⟨_,rfl⟩
    rw [hmm] at gj bm hput hskip hst
    have ml : m.length = x.length := by rw [((Sp.mem_basL hm).1 bm).1,xl]
    have mb : Sp.inB 16 m := Sp.ans_num hm (Sp.basB_is _ _) bm
    have h79 := s79 z m x.length (by omega) (by omega) zl ml (fun w hw => by have := zr w hw; omega) (Sp.inB_mono mb (by decide))
    obtain ⟨u,hu⟩ : ∃ u,plusV 1 z m = u := ⟨_,rfl⟩
    have ul : u.length = x.length := by rw [← hu]; unfold plusV; rw [List.length_zipWith]; omega
    have ub : ∀ w ∈ u,w ≤ 8000 := fun w hw => by
      obtain ⟨k,hk,rfl⟩ := List.getElem_of_mem hw
      have e : u[k] = z[k]'(by omega) + 1 * m[k]'(by omega) := by
        subst hu; simp only [plusV,List.getElem_zipWith]
      have h1 := zr _ (List.getElem_mem (show k < z.length by omega))
      have h2 := mb _ (List.getElem_mem (show k < m.length by omega))
      omega
    have unum : Sp.numbers u 0 8000 = posV u := by
      unfold Sp.numbers posV
      rw [Bool.eq_iff_iff,List.all_eq_true,List.all_eq_true]
      constructor
      · intro h w hw; have := h w hw; simp at this ⊢; omega
      · intro h w hw; have := h w hw; have := ub w hw; simp at *; omega
    rw [hu] at h79 hput hskip hst
    simp only [w30L4,d2,d3,decide_true,gj,w30T5,go_sem,Nat.reduceEqDiff,Nat.reduceAdd,Nat.reduceLT,Nat.reduceLeDiff,reduceIte,reduceCtorEq]
    refine CallK.pure (liftV h79 (by simp [bndL,AVal.bnd,mI_bnd]) (by simp [AVal.bnd,mI_bnd]) _) ?_
    simp only [go_sem,Nat.reduceEqDiff,Nat.reduceAdd,Nat.reduceLT,Nat.reduceLeDiff,reduceIte,reduceCtorEq]
    refine CallK.pure (liftV (s24 false false u 0 8000 (by omega)) (by simp [bndL,AVal.bnd,mI_bnd]) rfl _) ?_
    rw [unum]
    cases hpu : posV u with
    | false =>
      simp only [w30T6,ej,go_sem,Nat.reduceEqDiff,Nat.reduceAdd,Nat.reduceLT,Nat.reduceLeDiff,reduceIte,reduceCtorEq]
      exact round1 rfl ⟨(nx2,ks2,p2,j + 1),hjl,hskip hpu⟩ [some 0,some 1,some 2] (by dsimp only; omega) (Wk.mk0 rfl (by simp [imgs,Blk.alive]) (by simp only [hle,csle]; simp [vle,vle.vleL,mI_bnd,mS_bnd]) (by simp [fle,vle,Fr.get,imgs,Blk.alive,mI_bnd,mS_bnd]))
    | true =>
    have ur : ∀ w ∈ u,0 ≤ w ∧ w ≤ 8000 := fun w hw => by
      have h1 := ub w hw
      unfold posV at hpu
      rw [List.all_eq_true] at hpu
      have := of_decide_eq_true (hpu w hw)
      omega
    simp only [go_sem,Nat.reduceEqDiff,Nat.reduceAdd,Nat.reduceLT,Nat.reduceLeDiff,reduceIte,reduceCtorEq]
    refine CallK.by (CallV.of_spec (first := []) (cap := []) (s78 nx2 ks2 p2 u hJ.tab hJ.p1 hJ.p37 hJ.room (by have := hJ.few; omega) (by omega) ur)) fun v H' ⟨ks3,p3,b,hin,t1,t2,t3,hv,hH⟩ => ?_
    subst hv
    have hJ' := hput hpu u rfl ks3 p3 b hin t1 t2 t3
    have eA : mS nx2 ++ [.sl false false (mI u)] = mS (nx2 ++ [u]) := by
      rw [mS_one,mS_append]
    cases b with
    | false =>
      rw [if_neg (by decide)] at hJ'
      rcases hH with rfl | rfl
      · simp only [w30T6,ej,go_sem,Nat.reduceEqDiff,Nat.reduceAdd,Nat.reduceLT,Nat.reduceLeDiff,reduceIte,reduceCtorEq]
        exact round1 rfl ⟨(nx2,ks3,p3,j + 1),hjl,hJ'⟩ [some 0,some 1,some 2] (by dsimp only; omega) (Wk.mk0 rfl (by simp [imgs,Blk.alive]) (by simp only [hle,csle]; simp [vle,vle.vleL,mI_bnd,mS_bnd]) (by simp [fle,vle,Fr.get,imgs,Blk.alive,mI_bnd,mS_bnd]))
      · simp only [w30T6,ej,go_sem,Nat.reduceEqDiff,Nat.reduceAdd,Nat.reduceLT,Nat.reduceLeDiff,reduceIte,reduceCtorEq]
        exact round1 rfl ⟨(nx2,ks3,p3,j + 1),hjl,hJ'⟩ [some 0,some 3,some 2] (by dsimp only; omega) (Wk.mk0 rfl (by simp [imgs,Blk.alive]) (by simp only [hle,csle]; simp [vle,vle.vleL,mI_bnd,mS_bnd]) (by simp [fle,vle,Fr.get,imgs,Blk.alive,mI_bnd,mS_bnd]))
    | true =>
      rw [if_pos rfl] at hJ'
      rcases hH with rfl | rfl
      · simp only [w30T6,ej,List.take_length,eA,go_sem,Nat.reduceEqDiff,Nat.reduceAdd,Nat.reduceLT,Nat.reduceLeDiff,reduceIte,reduceCtorEq]
        exact ⟨by omega,round1 rfl ⟨(nx2 ++ [u],ks3,p3,j + 1),hjl,hJ'⟩ [some 0,some 1,some 4] (by dsimp only; omega) (Wk.mk0 rfl (by simp [imgs,Blk.alive]) (by simp only [hle,csle]; simp [vle,vle.vleL,mI_bnd,mS_bnd]) (by simp [fle,vle,Fr.get,imgs,Blk.alive,mI_bnd,mS_bnd]))⟩
      · simp only [w30T6,ej,List.take_length,eA,go_sem,Nat.reduceEqDiff,Nat.reduceAdd,Nat.reduceLT,Nat.reduceLeDiff,reduceIte,reduceCtorEq]
        exact ⟨by omega,round1 rfl ⟨(nx2 ++ [u],ks3,p3,j + 1),hjl,hJ'⟩ [some 0,some 3,some 5] (by dsimp only; omega) (Wk.mk0 rfl (by simp [imgs,Blk.alive]) (by simp only [hle,csle]; simp [vle,vle.vleL,mI_bnd,mS_bnd]) (by simp [fle,vle,Fr.get,imgs,Blk.alive,mI_bnd,mS_bnd]))⟩
  rcases hH with rfl | rfl
  · simp only [go_sem,Nat.reduceEqDiff,Nat.reduceAdd,Nat.reduceLT,Nat.reduceLeDiff,reduceIte,reduceCtorEq]
    exact hgo 1 _ _ rfl rfl (by decide) rfl rfl rfl (by simp [vle,Fr.get,mS,sI,bndL,AVal.bnd,mI_bnd,szOk,AVal.cells]) rfl
  · simp only [go_sem,Nat.reduceEqDiff,Nat.reduceAdd,Nat.reduceLT,Nat.reduceLeDiff,reduceIte,reduceCtorEq]
    exact hgo 3 _ _ rfl rfl (by decide) rfl rfl rfl (by simp [vle,Fr.get,mS,sI,bndL,AVal.bnd,mI_bnd,szOk,AVal.cells]) rfl
open Go.Abs AVal
theorem leafO2 {t u : Nat} {e : Ex} {fr : Fr} {H : AHeap} {R : AVal → AHeap → Prop} (v : AVal) (H2 : AHeap) (ρ : List (Option Nat)) (hw : Wk 0 [] ρ [(0,.tup [fr.get t,fr.get u])] H [(0,v)] H2) (hR : R v H2) (he : e = .norm ∨ e = .ret := by simp) : retA 0 [.tmp t,.tmp u] R e fr H [] :=
  ⟨he,by simp only [killM,resL,resA]; exact ⟨⟨trivial,trivial,trivial⟩,ρ,v,H2,hw,hR⟩⟩
def wayR (a : List (List Int)) (x y : List Int) (v : AVal) (H' : AHeap) : Prop :=
  (twoOk a x y = false ∧ v = .tup [.sl false false (mS []),I 2] ∧ H' = []) ∨
  (twoOk a x y = true ∧ Sp.moveB (a.map Sp.pad) (plusV (-1) (Sp.pad y) (Sp.pad x)) = false ∧ v = .tup [.sl false false (mS []),I 4] ∧ H' = []) ∨
  (twoOk a x y = true ∧ Sp.moveB (a.map Sp.pad) (plusV (-1) (Sp.pad y) (Sp.pad x)) = true ∧ ∃ P,WayP a (Sp.pad x) (Sp.pad y) P ∧ v = .tup [.own 0 0 P.length P.length 1,I 0] ∧ H' = [.cells (mS (P.map fun u => u.take (a.getD 0 []).length))])
set_option maxRecDepth 20000 in
set_option maxHeartbeats 4000000 in
theorem s27 (a : List (List Int)) (x y : List Int) (ha : ∀ l ∈ a,l.length < 9223372036854775808) (hl : a.length < 9223372036854775808) (hx : x.length < 9223372036854775808) (hy : y.length < 9223372036854775808) :
    Abs.Spec Try.prog 27 [.sl false false (mS a),.sl false false (mI x),.sl false false (mI y)] [] fun v H' => wayR a x y v H' := by
  refine Abs.Spec.walk mixed fn27 nn27 t27 q27 nt27 (by simp) ?_
  simp only [w27,go_sem,Nat.reduceEqDiff,Nat.reduceAdd,Nat.reduceLT,Nat.reduceLeDiff,reduceIte,reduceCtorEq]
  refine CallK.by (CallV.of_spec (first := []) (cap := []) (s66 a x y ha hl hx hy)) fun v H' ⟨hH,hr⟩ => ?_
  subst hH
  rcases hr with ⟨hok,cs,c1,c2,c3,rfl⟩ | ⟨hok,bs,hB,rfl⟩
  · have z4 : mI [0,0,0,0] = [I 0,I 0,I 0,I 0] := rfl
    simp only [List.getD_cons_zero,List.getD_cons_succ,vec_eq,z4,c2,go_sem,Nat.reduceEqDiff,Nat.reduceAdd,Nat.reduceLT,Nat.reduceLeDiff,reduceIte,reduceCtorEq]
    exact ⟨c1,leaf2 (.tup [.sl false false (mS []),I 2]) ⟨⟨rfl,rfl,rfl⟩,rfl,trivial⟩ (.inl ⟨hok,rfl,rfl⟩)⟩
  · have hok' := hok
    unfold twoOk at hok'
    rw [Bool.and_eq_true] at hok'
    obtain ⟨vx,vy⟩ := hok'
    obtain ⟨hm,xl,Xl,bX,pX,bx,Xp,px⟩ := vecOk_spec (by decide) vx
    obtain ⟨-,yl,Yl,bY,pY,by',Yp,py⟩ := vecOk_spec (by decide) vy
    obtain ⟨r1,r2,n1,n4⟩ := mat_rows hm
    have fst : wayR a x y = wayR a x y := rfl
    obtain ⟨X,hX⟩ : ∃ X,Sp.pad x = X := ⟨_,rfl⟩
    obtain ⟨Y,hY⟩ : ∃ Y,Sp.pad y = Y := ⟨_,rfl⟩
    obtain ⟨n,hn⟩ : ∃ n,(a.getD 0 []).length = n := ⟨_,rfl⟩
    rw [hX] at Xl bX pX Xp
    rw [hY] at Yl bY pY Yp
    rw [hn] at n1 n4
    rw [hX,hY,hn]
    have Xm : (mI X).length = 4 := by rw [mI_length,Xl]
    have Ym : (mI Y).length = 4 := by rw [mI_length,Yl]
    have acX := allI_cell X
    have acY := allI_cell Y
    have gY : cut true 4 (mI Y) = .agg (mI Y) := cut_vec Yl
    have gX : cut true 4 (mI X) = .agg (mI X) := cut_vec Xl
    obtain ⟨D,hD⟩ : ∃ D,plusV (-1) Y X = D := ⟨_,rfl⟩
    have Dl : D.length = 4 := by rw [← hD]; exact plusV_len Yl Xl
    have h68 := s68 Y X (-1) Yl Xl (.inr rfl) (Sp.inB_mono bY (by decide)) (Sp.inB_mono bX (by decide))
    have bD : Sp.inB 12 D := fun z hz => by
      obtain ⟨j,hj,rfl⟩ := List.getElem_of_mem hz
      have e := plusV_get (k := -1) Yl Xl j
      rw [hD,List.getD_eq_getElem?_getD,List.getElem?_eq_getElem hj] at e
      simp only [Option.getD_some] at e
      have h1 := Sp.inB_getD bX j
      have h2 := Sp.inB_getD bY j
      omega
    have h67 := s67 (a.map Sp.pad) n r1 D 12 (by decide) (by decide) Dl bD
    rw [hD] at h68
    obtain ⟨tc,htc⟩ : ∃ tc,AVal.sl false false (mV (a.map Sp.pad)) :: I n :: .sl false false (mV bs) :: mI X = tc := ⟨_,rfl⟩
    have htl : tc.length = 7 := by rw [← htc]; simp [Xm]
    have htA : tc.all AVal.isCell = true := by rw [← htc]; show (true && (true && (true && (mI X).all AVal.isCell))) = true; rw [acX]; rfl
    have gT : cut true 7 tc = taskV (a.map Sp.pad) n bs X := by
      show AVal.agg (List.take 7 _) = _
      rw [List.take_of_length_le (by omega),← htc]; rfl
    have htb : bndL 0 tc = true := by rw [← htc]; simp [bndL,AVal.bnd,mV_bnd,mI_bnd]
    have gM : cut true 2 tc = matV (a.map Sp.pad) n := by rw [← htc]; rfl
    have hd3 : List.drop 3 tc = mI X := by rw [← htc]; rfl
    simp only [List.getD_cons_zero,List.getD_cons_succ,taskV_eq,vec_eq,htc,htl,Ym,Yl,gY,gM,hd3,gX,Xl,Xm,List.set_cons_succ,List.set_cons_zero,go_sem,Nat.reduceEqDiff,Nat.reduceAdd,Nat.reduceLT,Nat.reduceLeDiff,reduceIte,reduceCtorEq]
    have Yne : mI Y ≠ [] := fun e => by rw [e] at Ym; cases Ym
    have h68' := h68
    rw [vec_eq,vec_eq] at h68'
    refine ⟨htA,acY,by decide,CallKD.pure (fun H => liftV h68' (by simp [bndL,AVal.bnd,mI_bnd]) (by simp [AVal.bnd,vec,mI_bnd]) H) ?_⟩
    simp only [List.getElem?_cons_succ,List.getElem?_cons_zero,go_sem,Nat.reduceEqDiff,Nat.reduceAdd,Nat.reduceLT,Nat.reduceLeDiff,reduceIte,reduceCtorEq]
    refine CallKD.pure (fun H => liftV h67 (by simp [bndL,AVal.bnd,matV,vec,mV_bnd,mI_bnd]) rfl H) ?_
    cases hmv : Sp.moveB (a.map Sp.pad) D with
    | false =>
      simp only [go_sem,Nat.reduceEqDiff,Nat.reduceAdd,Nat.reduceLT,Nat.reduceLeDiff,reduceIte,reduceCtorEq]
      refine leaf2 (.tup [.sl false false (mS []),I 4]) ⟨⟨rfl,rfl,rfl⟩,rfl,trivial⟩ (.inr (.inl ⟨hok,?_,rfl,rfl⟩))
      rw [hX,hY,hD,hmv]
    | true =>
      simp only [go_sem,Nat.reduceEqDiff,Nat.reduceAdd,Nat.reduceLT,Nat.reduceLeDiff,reduceIte,reduceCtorEq]
      rw [w27T0]
      refine W_view [some 0] [(8,.ptr 0 0),(9,.rp (mI Y))] [.cells tc] (Wk.mk0 rfl (by simp [imgs,Blk.alive]) (by simp only [hle,csle]; exact ⟨.inl ⟨rfl,htb⟩,trivial⟩) (by simp [fle,vle,Fr.get,imgs,Blk.alive,mI_bnd,Yne])) ?_
      simp only [htl,gT,go_sem,Nat.reduceEqDiff,Nat.reduceAdd,Nat.reduceLT,Nat.reduceLeDiff,reduceIte,reduceCtorEq]
      have hFam : Sp.Fam (a.map Sp.pad) (a.getD 0 []).length X Y := ⟨Yl,by rw [hn]; intro j hj; exact Yp j (by rw [hn]; exact hj),pY,by rw [hD]; exact hmv⟩
      obtain ⟨L,hL,hop⟩ := fam_hop hm Xl (fun j hj => Xp j hj) pX bX bY hFam
      have hB' := hB
      have eN := nearR_Nr hm hB'
      rw [← eN] at hop
      have hB4 : ∀ m ∈ bs,m.length = 4 := fun m hm' => ((Sp.mem_bs hm hB').1 hm').mv.len
      obtain ⟨q1,q2,-,-⟩ := Sp.mat_cols hm rfl
      have hB16 : ∀ m ∈ bs,Sp.inB 16 m := fun m hm' => Sp.inB_mono (((Sp.mem_bs hm hB').1 hm').bnd q1 q2 (by omega)) (by unfold Sp.bnd; split <;> (try split) <;> (try split) <;> omega)
      have hBl := hB.len (by omega)
      have h69 := s69 (a.map Sp.pad) n bs X (.fn (.func 70) [] [.rp (mI Y)]) (fun u => u == Y) Xl hB4 (by omega) hB16 (fun N => by simp [vid,mI_bnd]) (fun u H hu => CallV.of_spec (first := []) (cap := [.rp (mI Y)]) (Spec.lift (s70 u Y hu Yl) (by simp [bndL,AVal.bnd,mI_bnd]) rfl H)) fun es i h => by
        obtain ⟨h1,h2⟩ := deep_bnd Xl pX bX hB4 hB16 h hop hL
        exact ⟨by omega,h2⟩
      refine CallK.by (CallV.of_spec (first := []) (cap := []) (Spec.lendM (C := fun es' => ∃ es i,Sr bs X (fun u => u == Y) es i ∧ (i = es.length ∨ ∃ f d,es[i]? = some (Y,f,d)) ∧ es' = es.map entA) (args' := [taskV (a.map Sp.pad) n bs X,.fn (.func 70) [] [.rp (mI Y)]]) (h69.mono fun v H' ⟨es,i,hS,he,hv,hH⟩ => ⟨_,⟨es,i,hS,he.imp id (fun ⟨Z,f,d,h1,h2⟩ => ⟨f,d,by rw [h1,eq_of_beq h2]⟩),rfl⟩,hv,hH⟩) (fun es' ⟨es,i,_,_,h⟩ p hp => ?_) ⟨?_,?_,trivial⟩)) fun v H' ⟨es',⟨es,i,hS,hi,he'⟩,hv,hH⟩ => ?_
      · subst h
        obtain ⟨e,_,rfl⟩ := List.mem_map.1 hp
        have fl : ∀ y : List Int,(vec y).flat = true := fun y => by simp [vec,AVal.flat,mI]
        exact ⟨fl _,fl _⟩
      · exact .inl ⟨rfl,by simp [bndL,AVal.bnd,mV_bnd,mI_bnd]⟩
      · simp [vle,vle.vleL,mI_bnd]
      subst he' hv hH
      have hlen := hS.len Xl hB4
      obtain ⟨f0,d0,hin,hmin⟩ := hS.found hop hi
      simp only [gY,vec_eq,Ym,Yl,go_sem,Nat.reduceEqDiff,Nat.reduceAdd,Nat.reduceLT,Nat.reduceLeDiff,reduceIte,reduceCtorEq]
      refine ⟨acY,W_loop (fun q : { q : List Int × Nat × List (List Int) // (∃ f,(q.1,f,q.2.1) ∈ es) ∧ Chn (nearR bs) (q.1 :: q.2.2) ∧ (q.1 :: q.2.2).getLast? = some Y ∧ q.2.2.length + q.2.1 = d0 } =>
        ([(8,.ptr 0 0),(11,.mp 1),(12,.own 2 0 q.1.2.2.length q.1.2.2.length 1),(13,.ptr 3 0)],[.cells tc,.map (es.map entA),.cells (mS (q.1.2.2.reverse.map fun u => u.take n)),.cells (mI q.1.1)])) (fun q => q.1.2.1)
        ⟨(Y,d0,[]),⟨f0,hin⟩,trivial,rfl,by simp⟩ [some 0,some 1,none,some 2] (Wk.mk0 rfl (by simp [imgs,Blk.alive]) (by simp only [hle,csle]; simp [htb,entA,vec,AVal.bnd,mI_bnd,mS,Ym,Yl,List.take_of_length_le]) (by simp [fle,vle,Fr.get,imgs,Blk.alive])) ?_⟩
      rintro ⟨⟨v,d,R⟩,⟨f,hv⟩,hc,hlast,hd⟩
      dsimp only at hv hc hlast hd ⊢
      have vl : v.length = 4 := (hlen _ hv).1
      have vm : (mI v).length = 4 := by rw [mI_length,vl]
      have acv := allI_cell v
      have gv : cut true 4 (mI v) = .agg (mI v) := cut_vec vl
      have h71 := s71 (a.map Sp.pad) n n1 n4 v vl
      rw [vec_eq] at h71
      simp only [w27L1,w27T2,gM,gv,vm,htl,go_sem,Nat.reduceEqDiff,Nat.reduceAdd,Nat.reduceLT,Nat.reduceLeDiff,reduceIte,reduceCtorEq]
      have es1 : mS (List.take R.length (R.reverse.map fun u => u.take n)) ++ [.sl false false (mI (v.take n))] = mS ((v :: R).reverse.map fun u => u.take n) := by
        rw [List.take_of_length_le (by simp),mS_one,mS_append]; simp
      have hRl : R.length ≤ 1000 := by
        have := hmin L hop
        omega
      refine CallK.pure (liftV h71 (by simp [bndL,AVal.bnd,mV_bnd,mI_bnd,matV]) (by simp [AVal.bnd,mI_bnd]) _) ?_
      simp only [es1,gv,vm,hd3,gX,Xm,htl,ints_mI,vl,Xl,go_sem,Nat.reduceEqDiff,Nat.reduceAdd,Nat.reduceLT,Nat.reduceLeDiff,reduceIte,reduceCtorEq]
      refine ⟨⟨by simp,by omega⟩,IC.split (fun h => ?_) fun h => ?_⟩
      · have hvX : v = X := by simpa using h
        subst hvX
        obtain ⟨W,hW⟩ : ∃ W,(v :: R).reverse.map (fun u => u.take n) = W := ⟨_,rfl⟩
        have hWl : W.length = R.length + 1 := by rw [← hW]; simp
        have h31 := s31 W (by omega) (by omega)
        simp only [go_sem,Nat.reduceEqDiff,Nat.reduceAdd,Nat.reduceLT,Nat.reduceLeDiff,reduceIte,reduceCtorEq]
        rw [w27T3]
        rw [hW,← hWl]
        refine W_view [some 5] [(12,.own 0 0 W.length W.length 1)] [.cells (mS W)] (Wk.mk0 rfl (by simp [imgs,Blk.alive]) (by simp only [hle,csle]; exact ⟨.inl ⟨rfl,mS_bnd⟩,trivial⟩) (by simp [fle,vle,Fr.get,imgs,Blk.alive])) ?_
        simp only [go_sem,Nat.reduceEqDiff,Nat.reduceAdd,Nat.reduceLT,Nat.reduceLeDiff,reduceIte,reduceCtorEq]
        refine CallK.by (CallV.of_spec (first := []) (cap := []) h31) fun v' H' ⟨hv',hH'⟩ => ?_
        subst hv' hH'
        simp only [go_sem,Nat.reduceEqDiff,Nat.reduceAdd,Nat.reduceLT,Nat.reduceLeDiff,reduceIte,reduceCtorEq]
        have hWr : W.reverse = (v :: R).map fun u => u.take n := by rw [← hW,List.map_reverse,List.reverse_reverse]
        have ePl : (v :: R).length = W.length := by rw [hWl]; rfl
        refine leafO2 (.tup [.own 0 0 (v :: R).length (v :: R).length 1,I 0]) [.cells (mS ((v :: R).map fun u => u.take n))] [some 0] (Wk.mk0 rfl (by simp [imgs,Blk.alive]) (by simp only [hle,csle]; exact ⟨.inl ⟨by rw [hWr],mS_bnd⟩,trivial⟩) (by rw [ePl]; simp [fle,vle,vle.vleL,Fr.get,imgs,Blk.alive])) (.inr (.inr ⟨hok,?_,v :: R,?_,rfl,by rw [hn]⟩))
        · rw [hX,hY,hD,hmv]
        · rw [hX,hY]
          refine ⟨rfl,hlast,by rw [← eN]; exact hc,?_,fun L' hL' => ?_⟩
          · have := hmin L hop
            simp only [List.length_cons]; omega
          · rw [← eN] at hL'
            have := hmin L' hL'
            simp only [List.length_cons]; omega
      · have hvX : v ≠ X := by simpa using h
        obtain ⟨j,e,he,hev,hj⟩ := mfind_yes (y := v) (i := 0) (fun e he => (hlen e he).1) (hasK_iff.2 (List.mem_map.2 ⟨_,hv,rfl⟩))
        obtain rfl := key_uniq hS.nd he hv hev
        have hj : mfind 4 v (es.map entA) 0 = some (some (j,vec f)) := hj
        have fl := (hlen _ hv).2
        have fl : f.length = 4 := fl
        have fm : (mI f).length = 4 := by rw [mI_length,fl]
        have acf := allI_cell f
        have kv : keyI 4 (.agg (mI v)) = some v := keyI_vec vl
        have gf : cut true 4 (mI f) = .agg (mI f) := cut_vec fl
        have hfrom := hS.from _ hv
        have hfrom : ∃ f' d',(f,f',d') ∈ es ∧ d = d' + 1 ∧ v ∈ nearL f bs := hfrom.resolve_left fun h => hvX h.1
        obtain ⟨f',d',hf',rfl,hnear⟩ := hfrom
        simp only [w27T2,gv,vm,vl,hj,kv,vec_eq,gf,fm,fl,List.set_cons_succ,List.set_cons_zero,go_sem,Nat.reduceEqDiff,Nat.reduceAdd,Nat.reduceLT,Nat.reduceLeDiff,reduceIte,reduceCtorEq]
        rw [List.drop_of_length_le (by omega),List.append_nil]
        refine ⟨acv,acf,round1 rfl ⟨(f,d',v :: R),⟨f',hf'⟩,⟨hnear,hc⟩,?_,?_⟩ [some 0,some 1,some 5,some 6] (by dsimp only; omega) (Wk.mk0 rfl (by simp [imgs,Blk.alive]) (by simp only [hle,csle]; simp [htb,entA,vec,AVal.bnd,mI_bnd,mS_bnd,imgs,Blk.alive]) (by simp [fle,vle,Fr.get,imgs,Blk.alive]))⟩
        · show (f :: v :: R).getLast? = some Y
          rw [List.getLast?_cons_cons]; exact hlast
        · show (v :: R).length + d' = d0
          simp only [List.length_cons]; omega
open Go.Abs AVal
/-! ### Plain. -/
theorem dp_pad4 {p x : List Int} (h : p.length = x.length) : Sp.dp (Sp.pad p) (Sp.pad x) = Sp.dp p x := by
  by_cases h4 : p.length ≤ 4
  · rw [Sp.dp_split p.length (by rw [Sp.pad_len h4,Sp.pad_len (by omega)]),Sp.pad_take rfl,Sp.pad_take h.symm,Sp.dp_zero (Sp.drop_zero fun j hj => Sp.pad_getD h.symm hj)]
    omega
  · unfold Sp.pad
    rw [show 4 - p.length = 0 by omega,show 4 - x.length = 0 by omega]; simp
theorem times_same {a : List (List Int)} {x y : List Int} (hm : Sp.mat a = true) (xl : x.length = (a.getD 0 []).length) (yl : y.length = (a.getD 0 []).length) (bx : Sp.inB 1000 x) (by' : Sp.inB 1000 y) :
    ((a.map fun r => Sp.dotG 0 r x) == a.map fun r => Sp.dotG 0 r y) = Sp.moveB (a.map Sp.pad) (plusV (-1) (Sp.pad y) (Sp.pad x)) := by
  obtain ⟨r1,r2,-,r4⟩ := Sp.mat_cols hm rfl
  obtain ⟨-,-,h3⟩ := Sp.mat_spec hm
  have key : ∀ r ∈ a,Sp.dotG 0 r x = Sp.dp r x ∧ Sp.dotG 0 r y = Sp.dp r y ∧ Sp.dp (Sp.pad r) (plusV (-1) (Sp.pad y) (Sp.pad x)) = Sp.dp r y - Sp.dp r x := fun r hr => by
    have hl := (h3 r hr).1
    have hrb : Sp.inB 2 r := fun z hz => r1.bnd (Sp.pad r) (List.mem_map.2 ⟨r,hr,rfl⟩) z (by unfold Sp.pad; simp [hz])
    refine ⟨?_,?_,?_⟩
    · rw [Sp.dotG_dp (A := 2) (M := 1000) (by decide) (by decide) (by decide) hrb bx (by omega) (by omega) (by omega)]; omega
    · rw [Sp.dotG_dp (A := 2) (M := 1000) (by decide) (by decide) (by decide) hrb by' (by omega) (by omega) (by omega)]; omega
    · rw [Sp.dp_plus (by rw [Sp.pad_len (by omega),Sp.pad_len (by omega)]),dp_pad4 (by omega),dp_pad4 (by omega)]; omega
  rw [Bool.eq_iff_iff,beq_iff_eq,Sp.moveB_all]
  constructor
  · intro h R hR
    obtain ⟨r,hr,rfl⟩ := List.mem_map.1 hR
    obtain ⟨k1,k2,k3⟩ := key r hr
    have := List.map_inj_left.1 h r hr
    rw [k1,k2] at this
    rw [k3]; omega
  · intro h
    refine List.map_congr_left fun r hr => ?_
    obtain ⟨k1,k2,k3⟩ := key r hr
    have := h (Sp.pad r) (List.mem_map.2 ⟨r,hr,rfl⟩)
    rw [k1,k2]; omega
theorem wayOk_of {a : List (List Int)} {x y : List Int} {P : List (List Int)} (hm : Sp.mat a = true) (xl : x.length = (a.getD 0 []).length) (yl : y.length = (a.getD 0 []).length) (hh : P.head? = some (Sp.pad x)) (ht : P.getLast? = some (Sp.pad y)) (hc : Chn (Nr a) P)
    (hP : ∀ u ∈ P,u.length = 4 ∧ posV u = true ∧ ∀ j,(a.getD 0 []).length ≤ j → u.getD j 0 = 0) : WayOk a x y (P.map fun u => u.take (a.getD 0 []).length) := by
  have n4 := (mat_rows hm).2.2.2
  refine ⟨by rw [List.head?_map,hh]; exact congrArg some (Sp.pad_take xl),by rw [List.getLast?_map,ht]; exact congrArg some (Sp.pad_take yl),fun i hi => ?_⟩
  rw [List.length_map] at hi
  have g : ∀ k,k < P.length → (P.map fun u => u.take (a.getD 0 []).length).getD k [] = (P.getD k []).take (a.getD 0 []).length := fun k hk => by
    simp [List.getD_eq_getElem?_getD,hk]
  have hmem : ∀ k,k < P.length → P.getD k [] ∈ P := fun k hk => by rw [List.getD_eq_getElem?_getD,List.getElem?_eq_getElem hk]; exact List.getElem_mem hk
  have tp : ∀ k,k < P.length → Sp.pad ((P.getD k []).take (a.getD 0 []).length) = P.getD k [] := fun k hk => by
    obtain ⟨h1,_,h3⟩ := hP _ (hmem k hk)
    exact Sp.take_pad n4 h1 h3
  obtain ⟨h1,h2,h3⟩ := hP _ (hmem i hi)
  unfold stepOk
  rw [g i hi]
  refine ⟨by rw [List.length_take]; omega,by rw [← Sp.posV_pad,tp i hi]; exact h2,fun h0 => ?_⟩
  rw [g (i - 1) (by omega),tp i hi,tp (i - 1) (by omega)]
  have := chn_iff.1 hc (i - 1) (by omega)
  rwa [show i - 1 + 1 = i by omega] at this
theorem Chn.hops {N : List Int → List Int → Prop} {X Y : List Int} {P : List (List Int)} (hh : P.head? = some X) (ht : P.getLast? = some Y) (hc : Chn N P) : Hop N X Y (P.length - 1) := by
  cases P with
  | nil => cases hh
  | cons u l =>
    simp at hh; subst hh
    have := Chn.hop (N := N) .start hc
    rw [List.getLast?_eq_some_getLast (by simp)] at ht
    rw [Option.some.inj ht] at this
    simpa using this
theorem Nr.back {a : List (List Int)} (hm : Sp.mat a = true) {P : List (List Int)} (hP : ∀ u ∈ P,u.length = 4 ∧ posV u = true) (hc : Chn (Nr a) P) : Chn (Nr a) P.reverse := by
  have hB := Sp.basB_is (a.map Sp.pad) (a.getD 0 []).length
  rw [← nearR_Nr hm hB] at hc ⊢
  exact Chn.rev (fun m hm' => ((Sp.mem_bs hm hB).1 hm').mv.len) (fun m hm' => (Sp.mem_bs hm hB).2 ((Sp.mem_bs hm hB).1 hm').neg) hP hc
theorem WayP.good {a : List (List Int)} {x Y : List Int} {P : List (List Int)} (hx : Sp.vecOk a x 0 6 = true) (h : WayP a (Sp.pad x) Y P) : ∀ u ∈ P,u.length = 4 ∧ posV u = true ∧ ∀ j,(a.getD 0 []).length ≤ j → u.getD j 0 = 0 := by
  obtain ⟨hm,xl,Xl,bX,pX,bx,Xp,px⟩ := vecOk_spec (by decide) hx
  intro u hu
  have := h.fam (Sp.Fam.self Xl Xp pX) u hu
  exact ⟨this.len,this.pos,this.pad⟩
theorem table_same {n : Nat} {W : List (List Int)} (hn : n ≤ 6) (hl : W.length ≤ 250) (h : ∀ u ∈ W,u.length ≤ n) : Sp.table6 W = W := by
  unfold Sp.table6
  rw [List.take_of_length_le hl]
  conv => rhs; rw [← List.map_id W]
  exact List.map_congr_left fun u hu => List.take_of_length_le (by have := h u hu; omega)
open Go.Abs AVal
theorem wf_lt {z : Int} (h : (Lit.int .i64 z).wf = true) : z < 9223372036854775808 := by
  have h1 : (decide (IntKind.i64.min ≤ z) && decide (z ≤ IntKind.i64.max)) = true := h
  rw [Bool.and_eq_true,decide_eq_true_eq,decide_eq_true_eq] at h1
  have h2 : IntKind.i64.max = 9223372036854775807 := by decide
  omega
theorem table_len {l : List (List Int)} (hl : l.length ≤ 250) {n : Nat} (hn : n ≤ 4) (h : ∀ s ∈ Sp.table6 l,s.length = n) : Sp.table6 l = l := by
  refine table_same (n := 6) (Nat.le_refl _) hl fun u hu => ?_
  have := h (u.take 6) (by unfold Sp.table6; rw [List.take_of_length_le hl]; exact List.mem_map.2 ⟨u,hu,rfl⟩)
  rw [List.length_take] at this
  omega
theorem way_iff {a : List (List Int)} {x y : List Int} {l : List (List Int)} (hv : Sp.vecOk a x 0 6 = true) (hl : l.length ≤ 250) : WayOk a x y (Sp.table6 l) ↔ WayOk2 a x y l := by
  obtain ⟨hm,xl,Xl,bX,pX,bx,Xp,px⟩ := vecOk_spec (by decide) hv
  obtain ⟨q1,q2,-,-⟩ := Sp.mat_cols hm rfl
  have n4 := (mat_rows hm).2.2.2
  constructor
  · intro h
    have ht : Sp.table6 l = l := table_len hl n4 fun s hs => by
      obtain ⟨i,hi,rfl⟩ := List.getElem_of_mem hs
      have := (h.2.2 i hi).1
      rwa [List.getD_eq_getElem?_getD,List.getElem?_eq_getElem hi] at this
    rw [ht] at h
    obtain ⟨hh,htl,hst⟩ := h
    have hlp : 0 < l.length := by
      cases l with
      | nil => cases hh
      | cons u r => simp
    have h0 : l.getD 0 [] = x := by
      cases l with
      | nil => cases hh
      | cons u r => exact Option.some.inj hh
    have bnd : ∀ i,i < l.length → ∀ j,(Sp.pad (l.getD i [])).getD j 0 ≤ 6 + 16 * i := by
      intro i
      induction i with
      | zero =>
        intro _ j
        rw [h0]
        have := Sp.inB_getD bX j
        omega
      | succ i ih =>
        intro hi j
        obtain ⟨sl,-,hn⟩ := hst (i + 1) hi
        obtain ⟨m,hM,e,-⟩ := hn (by omega)
        have hb : Sp.inB 16 m := Sp.inB_mono (hM.bnd q1 q2 n4) (by unfold Sp.bnd; split <;> (try split) <;> (try split) <;> omega)
        have h1 := ih (by omega) j
        have h2 := Sp.inB_getD hb j
        rw [show i + 1 - 1 = i by omega] at e
        rw [e,plusV_get (Sp.pad_len (by have := (hst i (by omega)).1; omega)) hM.mv.len]
        omega
    refine ⟨hlp,fun i hi => ?_,?_⟩
    · obtain ⟨sl,sp,hn⟩ := hst i hi
      refine ⟨sl,?_,fun e => by subst e; exact h0,fun hi0 => ?_⟩
      · unfold Sp.numbers
        rw [List.all_eq_true]
        intro z hz
        unfold posV at sp
        rw [List.all_eq_true] at sp
        have h1 := of_decide_eq_true (sp z hz)
        obtain ⟨k,hk,rfl⟩ := List.getElem_of_mem hz
        have h2 := bnd i hi k
        have e : (Sp.pad (l.getD i [])).getD k 0 = (l.getD i [])[k] := by
          unfold Sp.pad
          rw [List.getD_eq_getElem?_getD,List.getElem?_append_left hk,List.getElem?_eq_getElem hk]; rfl
        rw [e] at h2
        have h3 : (0 : Int) ≤ (l.getD i [])[k] := h1
        have h4 : (l.getD i [])[k] ≤ (1000000 : Int) := by omega
        show (decide ((0 : Int) ≤ (l.getD i [])[k]) && decide ((l.getD i [])[k] ≤ (1000000 : Int))) = true
        rw [decide_eq_true h3,decide_eq_true h4]; rfl
      · obtain ⟨pl,-,-⟩ := hst (i - 1) (by omega)
        obtain ⟨b,hb,e,-⟩ := near_step hv pl sl (hn hi0)
        have bl := ((Sp.mem_basL hm).1 hb).1
        have : plusV (-1) (l.getD i []) (l.getD (i - 1) []) = b := by
          rw [e]
          refine List.ext_getElem (by simp only [plusV,List.length_zipWith]; omega) fun k h1 h2 => ?_
          simp only [plusV,List.getElem_zipWith]
          omega
        rw [this]; exact hb
    · rw [List.getLast?_eq_getElem?] at htl
      rw [List.getD_eq_getElem?_getD,htl]; rfl
  · rintro ⟨hlp,hst,hlast⟩
    have ht : Sp.table6 l = l := table_same (n := 6) (Nat.le_refl _) hl fun u hu => by
      obtain ⟨i,hi,rfl⟩ := List.getElem_of_mem hu
      have := (hst i hi).1
      rw [List.getD_eq_getElem?_getD,List.getElem?_eq_getElem hi,Option.getD_some] at this
      omega
    rw [ht]
    refine ⟨?_,?_,fun i hi => ?_⟩
    · have := (hst 0 hlp).2.2.1 rfl
      cases l with
      | nil => simp at hlp
      | cons u r => exact congrArg some this
    · rw [List.getLast?_eq_getElem?,List.getElem?_eq_getElem (by omega)]
      rw [List.getD_eq_getElem?_getD,List.getElem?_eq_getElem (by omega),Option.getD_some] at hlast
      rw [hlast]
    · obtain ⟨sl,sn,-,hn⟩ := hst i hi
      have sp : posV (l.getD i []) = true := by
        unfold posV
        rw [List.all_eq_true]
        exact fun z hz => decide_eq_true (numbers_mem sn z hz).1
      refine ⟨sl,sp,fun hi0 => ?_⟩
      obtain ⟨pl,-,-,-⟩ := hst (i - 1) (by omega)
      have hb := hn hi0
      have bl := ((Sp.mem_basL hm).1 hb).1
      have e : plusV 1 (l.getD (i - 1) []) (plusV (-1) (l.getD i []) (l.getD (i - 1) [])) = l.getD i [] := by
        refine List.ext_getElem (by simp only [plusV,List.length_zipWith]; omega) fun k h1 h2 => ?_
        simp only [plusV,List.getElem_zipWith]
        omega
      have := (step_near hv pl hb (by rw [e]; exact sp)).2
      rwa [e] at this
set_option maxRecDepth 20000 in
set_option maxHeartbeats 4000000 in
theorem law4 (a : List (List Int)) (x y : List Int) (l : List (List Int)) (ha : ∀ l ∈ a,l.length < 9223372036854775808) (hl : a.length < 9223372036854775808) (hx : x.length < 9223372036854775808) (hy : y.length < 9223372036854775808)
    (hls : ∀ s ∈ l,s.length < 9223372036854775808) (hll : l.length < 9223372036854775808) (hlz : ∀ s ∈ l,∀ z ∈ s,z < 9223372036854775808) :
    Abs.Spec Try.prog 4 [.sl false false (mS a),.sl false false (mI x),.sl false false (mI y),.sl false false (mS l)] [] fun v H' => H' = [] ∧ v = B true := by
  obtain ⟨t1,t2⟩ := tab6_len ha hl
  have x6 : (x.take 6).length < 9223372036854775808 := by rw [List.length_take]; omega
  have y6 : (y.take 6).length < 9223372036854775808 := by rw [List.length_take]; omega
  have e18 : ∀ H,CallV Try.prog (.fn (.func 18) [] []) [.sl false false (mS a)] H fun v H' => v = .sl false false (mS (Sp.table6 a)) ∧ H' = H := fun H => liftV (s18 false false a ha hl) (by simp [bndL,AVal.bnd,mS_bnd]) (by simp [AVal.bnd,mS_bnd]) H
  have e18l : ∀ H,CallV Try.prog (.fn (.func 18) [] []) [.sl false false (mS l)] H fun v H' => v = .sl false false (mS (Sp.table6 l)) ∧ H' = H := fun H => liftV (s18 false false l hls hll) (by simp [bndL,AVal.bnd,mS_bnd]) (by simp [AVal.bnd,mS_bnd]) H
  have e19 : ∀ H,CallV Try.prog (.fn (.func 19) [] []) [.sl false false (mI x)] H fun v H' => v = .sl false false (mI (x.take 6)) ∧ H' = H := fun H => liftV (s19 false false x hx) (by simp [bndL,AVal.bnd,mI_bnd]) (by simp [AVal.bnd,mI_bnd]) H
  have e19y : ∀ H,CallV Try.prog (.fn (.func 19) [] []) [.sl false false (mI y)] H fun v H' => v = .sl false false (mI (y.take 6)) ∧ H' = H := fun H => liftV (s19 false false y hy) (by simp [bndL,AVal.bnd,mI_bnd]) (by simp [AVal.bnd,mI_bnd]) H
  have e25 : ∀ H,CallV Try.prog (.fn (.func 25) [] []) [] H fun v H' => v = B true ∧ H' = H := fun H => liftV s25 rfl rfl H
  have e21 : ∀ H,CallV Try.prog (.fn (.func 21) [] []) [.sl false false (mS a),.sl false false (mI x),I 0,I 6] H fun v H' => v = B (Sp.vecOk a x 0 6) ∧ H' = H := fun H => liftV (s21 false false false false a x 0 6 ha hl hx) (by simp [bndL,AVal.bnd,mS_bnd,mI_bnd]) rfl H
  have e21y : ∀ H,CallV Try.prog (.fn (.func 21) [] []) [.sl false false (mS a),.sl false false (mI y),I 0,I 6] H fun v H' => v = B (Sp.vecOk a y 0 6) ∧ H' = H := fun H => liftV (s21 false false false false a y 0 6 ha hl hy) (by simp [bndL,AVal.bnd,mS_bnd,mI_bnd]) rfl H
  have tl250 : (Sp.table6 l).length ≤ 250 := by unfold Sp.table6; rw [List.length_map,List.length_take]; omega
  have h28 := s28 (Sp.table6 a) (x.take 6) (y.take 6) (Sp.table6 l) t1 t2 x6 y6 tl250 fun s hs => by
    unfold Sp.table6 at hs
    obtain ⟨u,hu,rfl⟩ := List.mem_map.1 hs
    exact ⟨by rw [List.length_take]; omega,fun z hz => hlz u (List.mem_of_mem_take hu) z (List.mem_of_mem_take hz)⟩
  refine Abs.Spec.walk mixed fn4 nn4 t4 q4 nt4 (by simp) ?_
  simp only [w4,go_sem,Nat.reduceEqDiff,Nat.reduceAdd,Nat.reduceLT,Nat.reduceLeDiff,reduceIte,reduceCtorEq]
  refine CallK.pure (e18 _) ?_
  simp only [go_sem,Nat.reduceEqDiff,Nat.reduceAdd,Nat.reduceLT,Nat.reduceLeDiff,reduceIte,reduceCtorEq]
  refine CallK.pure (e19 _) ?_
  simp only [go_sem,Nat.reduceEqDiff,Nat.reduceAdd,Nat.reduceLT,Nat.reduceLeDiff,reduceIte,reduceCtorEq]
  refine CallK.pure (e19y _) ?_
  simp only [go_sem,Nat.reduceEqDiff,Nat.reduceAdd,Nat.reduceLT,Nat.reduceLeDiff,reduceIte,reduceCtorEq]
  refine CallK.by (CallV.of_spec (first := []) (cap := []) (s27 (Sp.table6 a) (x.take 6) (y.take 6) t1 t2 x6 y6)) fun v H' hr => ?_
  have hW : ∃ (W : List (List Int)) (e : Int) (v' : AVal),v = .tup [v',I e] ∧ vle H' [] [] 3 v' (.sl false false (mS W)) ∧
      ((twoOk (Sp.table6 a) (x.take 6) (y.take 6) = false ∧ W = [] ∧ e = 2) ∨
      (twoOk (Sp.table6 a) (x.take 6) (y.take 6) = true ∧ Sp.moveB ((Sp.table6 a).map Sp.pad) (plusV (-1) (Sp.pad (y.take 6)) (Sp.pad (x.take 6))) = false ∧ W = [] ∧ e = 4) ∨
      (twoOk (Sp.table6 a) (x.take 6) (y.take 6) = true ∧ Sp.moveB ((Sp.table6 a).map Sp.pad) (plusV (-1) (Sp.pad (y.take 6)) (Sp.pad (x.take 6))) = true ∧ e = 0 ∧ ∃ P,WayP (Sp.table6 a) (Sp.pad (x.take 6)) (Sp.pad (y.take 6)) P ∧ W = P.map fun u => u.take ((Sp.table6 a).getD 0 []).length)) := by
    rcases hr with ⟨h1,rfl,rfl⟩ | ⟨h1,h2,rfl,rfl⟩ | ⟨h1,h2,P,hP,rfl,rfl⟩
    · exact ⟨[],2,_,rfl,⟨rfl,fun h => h,fun h => h,rfl⟩,.inl ⟨h1,rfl,rfl⟩⟩
    · exact ⟨[],4,_,rfl,⟨rfl,fun h => h,fun h => h,rfl⟩,.inr (.inl ⟨h1,h2,rfl,rfl⟩)⟩
    · exact ⟨_,0,_,rfl,vle_mS (cs := mS (P.map fun u => u.take ((Sp.table6 a).getD 0 []).length)) rfl (by simp) (by simp) (List.take_of_length_le (by rw [mS_length]; simp)),.inr (.inr ⟨h1,h2,rfl,P,hP,rfl⟩)⟩
  clear hr
  obtain ⟨W,e,v',rfl,hvl,hr⟩ := hW
  simp only [List.getD_cons_zero,List.getD_cons_succ,go_sem,Nat.reduceEqDiff,Nat.reduceAdd,Nat.reduceLT,Nat.reduceLeDiff,reduceIte,reduceCtorEq]
  refine W_view [] [(0,.sl false false (mS a)),(1,.sl false false (mI x)),(2,.sl false false (mI y)),(3,.sl false false (mS l)),(9,.sl false false (mS W)),(10,I e)] [] (Wk.nil ⟨⟨mS_bnd,fun h => h,fun h => h,rfl⟩,⟨mI_bnd,fun h => h,fun h => h,rfl⟩,⟨mI_bnd,fun h => h,fun h => h,rfl⟩,⟨mS_bnd,fun h => h,fun h => h,rfl⟩,hvl,rfl,trivial⟩) ?_
  clear hvl
  simp only [go_sem,Nat.reduceEqDiff,Nat.reduceAdd,Nat.reduceLT,Nat.reduceLeDiff,reduceIte,reduceCtorEq]
  refine CallK.pure (e18 _) ?_
  simp only [go_sem,Nat.reduceEqDiff,Nat.reduceAdd,Nat.reduceLT,Nat.reduceLeDiff,reduceIte,reduceCtorEq]
  refine CallK.pure (e19 _) ?_
  simp only [go_sem,Nat.reduceEqDiff,Nat.reduceAdd,Nat.reduceLT,Nat.reduceLeDiff,reduceIte,reduceCtorEq]
  refine CallK.pure (e19y _) ?_
  simp only [go_sem,Nat.reduceEqDiff,Nat.reduceAdd,Nat.reduceLT,Nat.reduceLeDiff,reduceIte,reduceCtorEq]
  refine CallK.pure (e18l _) ?_
  simp only [go_sem,Nat.reduceEqDiff,Nat.reduceAdd,Nat.reduceLT,Nat.reduceLeDiff,reduceIte,reduceCtorEq]
  refine CallK.by (CallV.of_spec (first := []) (cap := []) h28) fun v H' ⟨hH,hc⟩ => ?_
  subst hH
  have hC : ∃ (b : Bool) (f : Int),v = .tup [B b,I f] ∧ ((twoOk (Sp.table6 a) (x.take 6) (y.take 6) = false ∧ b = false ∧ f = 2) ∨ (twoOk (Sp.table6 a) (x.take 6) (y.take 6) = true ∧ f = 0 ∧ (b = true ↔ WayOk (Sp.table6 a) (x.take 6) (y.take 6) (Sp.table6 l)))) := by
    rcases hc with ⟨h1,rfl⟩ | ⟨h1,b,rfl,h2⟩
    · exact ⟨false,2,rfl,.inl ⟨h1,rfl,rfl⟩⟩
    · exact ⟨b,0,rfl,.inr ⟨h1,rfl,h2⟩⟩
  clear hc
  obtain ⟨b,f,rfl,hc⟩ := hC
  have htw : twoOk (Sp.table6 a) (x.take 6) (y.take 6) = (Sp.vecOk a x 0 6 && Sp.vecOk a y 0 6) := by unfold twoOk; rw [Sp.vecOk_take,Sp.vecOk_take]
  rw [htw] at hr hc
  have z2 : ((2 : Int) == 2) = true := rfl
  have z0 : ((0 : Int) == 0) = true := rfl
  have z00 : (((0 : Nat) : Int) == 0) = true := rfl
  have zn0 : (((0 : Nat) : Int) != 0) = false := rfl
  have z44 : ((4 : Int) != 4) = false := rfl
  have zz0 : ((0 : Int) != 0) = false := rfl
  have lnil : (mS []).length = 0 := rfl
  by_cases hok : (Sp.vecOk a x 0 6 && Sp.vecOk a y 0 6) = true
  rotate_left
  · have hok' : (Sp.vecOk a x 0 6 && Sp.vecOk a y 0 6) = false := by simpa using hok
    obtain ⟨rfl,rfl⟩ : W = [] ∧ e = 2 := by
      rcases hr with ⟨-,h1,h2⟩ | ⟨h,-⟩ | ⟨h,-⟩
      · exact ⟨h1,h2⟩
      · exact absurd h hok
      · exact absurd h hok
    obtain ⟨rfl,rfl⟩ : b = false ∧ f = 2 := by
      rcases hc with ⟨-,h1,h2⟩ | ⟨h,-⟩
      · exact ⟨h1,h2⟩
      · exact absurd h hok
    simp only [List.getD_cons_zero,List.getD_cons_succ,go_sem,Nat.reduceEqDiff,Nat.reduceAdd,Nat.reduceLT,Nat.reduceLeDiff,reduceIte,reduceCtorEq]
    refine CallK.pure (e21 _) ?_
    cases hvx : Sp.vecOk a x 0 6 with
    | false =>
      simp only [z2,z00,lnil,go_sem,Nat.reduceEqDiff,Nat.reduceAdd,Nat.reduceLT,Nat.reduceLeDiff,reduceIte,reduceCtorEq]
      refine CallK.pure (e25 _) ?_
      simp only [go_sem,Nat.reduceEqDiff,Nat.reduceAdd,Nat.reduceLT,Nat.reduceLeDiff,reduceIte,reduceCtorEq]
      exact leaf (B true) rfl ⟨rfl,rfl⟩
    | true =>
      have hvy : Sp.vecOk a y 0 6 = false := by rw [hvx] at hok'; simpa using hok'
      simp only [go_sem,Nat.reduceEqDiff,Nat.reduceAdd,Nat.reduceLT,Nat.reduceLeDiff,reduceIte,reduceCtorEq]
      refine CallK.pure (e21y _) ?_
      simp only [hvy,z2,z00,lnil,go_sem,Nat.reduceEqDiff,Nat.reduceAdd,Nat.reduceLT,Nat.reduceLeDiff,reduceIte,reduceCtorEq]
      refine CallK.pure (e25 _) ?_
      simp only [go_sem,Nat.reduceEqDiff,Nat.reduceAdd,Nat.reduceLT,Nat.reduceLeDiff,reduceIte,reduceCtorEq]
      exact leaf (B true) rfl ⟨rfl,rfl⟩
  have hok2 := hok
  rw [Bool.and_eq_true] at hok2
  obtain ⟨vx,vy⟩ := hok2
  obtain ⟨hm,xl,Xl,bX,pX,bx,Xp,px⟩ := vecOk_spec (by decide) vx
  obtain ⟨-,yl,Yl,bY,pY,by',Yp,py⟩ := vecOk_spec (by decide) vy
  obtain ⟨r1,r2,n1,n4⟩ := mat_rows hm
  have k1 : Sp.table6 a = a := Sp.mat_table.2 hm
  have kx : x.take 6 = x := List.take_of_length_le (by omega)
  have ky : y.take 6 = y := List.take_of_length_le (by omega)
  rw [k1,kx,ky] at hr hc
  obtain ⟨rfl,hb⟩ : f = 0 ∧ (b = true ↔ WayOk a x y (Sp.table6 l)) := by
    rcases hc with ⟨h,-⟩ | ⟨-,h1,h2⟩
    · rw [hok] at h; cases h
    · exact ⟨h1,h2⟩
  have hts := times_same hm xl yl (Sp.inB_mono bx (by decide)) (Sp.inB_mono by' (by decide))
  have al : a.length ≤ 1000 := by have := (Sp.mat_spec hm).2.1; omega
  have rl : ∀ r ∈ a,r.length = x.length := fun r hr => by rw [((Sp.mat_spec hm).2.2 r hr).1,xl]
  have e23x := fun H => liftV (s23 false false false false a x rl al (by omega)) (by simp [bndL,AVal.bnd,mS_bnd,mI_bnd]) (by simp [AVal.bnd,mI_bnd]) H
  have e23y := fun H => liftV (s23 false false false false a y (fun r hr => by rw [rl r hr]; omega) al (by omega)) (by simp [bndL,AVal.bnd,mS_bnd,mI_bnd]) (by simp [AVal.bnd,mI_bnd]) H
  have e22 := fun H => liftV (s22 false false false false (a.map fun r => Sp.dotG 0 r x) (a.map fun r => Sp.dotG 0 r y) (by rw [List.length_map]; omega)) (by simp [bndL,AVal.bnd,mI_bnd]) rfl H
  rw [hts] at e22
  have tail : ∀ fr : Fr,fr.get 0 = .sl false false (mS a) → fr.get 1 = .sl false false (mI x) → fr.get 2 = .sl false false (mI y) → fr.get 3 = .sl false false (mS l) → fr.get 11 = B b → fr.get 12 = I 0 →
      Go.Abs.W ⟨Try.prog,0,117,true⟩ (retA 0 r4 fun v H' => H' = [] ∧ v = B true) c4T1 [] fr [] [] := fun fr f0 f1 f2 f3 f11 f12 => by
    by_cases h250 : l.length ≤ 250
    · have d1 : decide ((l.length : Int) > 250) = false := decide_eq_false (by omega)
      simp only [w4T1,f0,f1,f2,f3,f11,f12,z0,d1,go_sem,Nat.reduceEqDiff,Nat.reduceAdd,Nat.reduceLT,Nat.reduceLeDiff,reduceIte,reduceCtorEq]
      refine CallK.by (CallV.of_spec (first := []) (cap := []) (s29 a x y l ha hl hm xl yl h250 hls)) fun v H' ⟨hH,b2,hv,hb2⟩ => ?_
      subst hH hv
      have e : b2 = b := by
        rw [Bool.eq_iff_iff,hb2,hb,way_iff vx h250]
      subst e
      have ebb : (b2 == b2) = true := beq_self_eq_true b2
      simp only [ebb,go_sem,Nat.reduceEqDiff,Nat.reduceAdd,Nat.reduceLT,Nat.reduceLeDiff,reduceIte,reduceCtorEq]
      refine CallK.pure (e25 _) ?_
      simp only [go_sem,Nat.reduceEqDiff,Nat.reduceAdd,Nat.reduceLT,Nat.reduceLeDiff,reduceIte,reduceCtorEq]
      exact leaf (B true) rfl ⟨rfl,rfl⟩
    · have d1 : decide ((l.length : Int) > 250) = true := decide_eq_true (by omega)
      simp only [w4T1,f0,f1,f2,f3,f11,f12,z0,d1,go_sem,Nat.reduceEqDiff,Nat.reduceAdd,Nat.reduceLT,Nat.reduceLeDiff,reduceIte,reduceCtorEq]
      refine CallK.pure (e25 _) ?_
      simp only [go_sem,Nat.reduceEqDiff,Nat.reduceAdd,Nat.reduceLT,Nat.reduceLeDiff,reduceIte,reduceCtorEq]
      exact leaf (B true) rfl ⟨rfl,rfl⟩
  simp only [List.getD_cons_zero,List.getD_cons_succ,go_sem,Nat.reduceEqDiff,Nat.reduceAdd,Nat.reduceLT,Nat.reduceLeDiff,reduceIte,reduceCtorEq]
  refine CallK.pure (e21 _) ?_
  rw [vx]
  simp only [go_sem,Nat.reduceEqDiff,Nat.reduceAdd,Nat.reduceLT,Nat.reduceLeDiff,reduceIte,reduceCtorEq]
  refine CallK.pure (e21y _) ?_
  rw [vy]
  simp only [w4T0,go_sem,Nat.reduceEqDiff,Nat.reduceAdd,Nat.reduceLT,Nat.reduceLeDiff,reduceIte,reduceCtorEq]
  refine CallK.pure (e23x _) ?_
  simp only [go_sem,Nat.reduceEqDiff,Nat.reduceAdd,Nat.reduceLT,Nat.reduceLeDiff,reduceIte,reduceCtorEq]
  refine CallK.pure (e23y _) ?_
  simp only [go_sem,Nat.reduceEqDiff,Nat.reduceAdd,Nat.reduceLT,Nat.reduceLeDiff,reduceIte,reduceCtorEq]
  refine CallK.pure (e22 _) ?_
  rcases hr with ⟨h,-⟩ | ⟨-,hmv,rfl,rfl⟩ | ⟨-,hmv,rfl,P,hP,rfl⟩
  · rw [hok] at h; cases h
  · rw [hmv]
    simp only [zn0,z44,lnil,go_sem,Nat.reduceEqDiff,Nat.reduceAdd,Nat.reduceLT,Nat.reduceLeDiff,reduceIte,reduceCtorEq]
    exact tail _ rfl rfl rfl rfl rfl rfl
  · rw [hmv]
    simp only [zz0,go_sem,Nat.reduceEqDiff,Nat.reduceAdd,Nat.reduceLT,Nat.reduceLeDiff,reduceIte,reduceCtorEq]
    have hPg := hP.good vx
    have hPl := hP.few
    have hPw := wayOk_of hm xl yl hP.head hP.last hP.chn hPg
    have hPp : 0 < P.length := by
      have := hP.head
      cases P with
      | nil => cases this
      | cons u r => simp
    obtain ⟨V,hV⟩ : ∃ V,P.map (fun u => u.take (a.getD 0 []).length) = V := ⟨_,rfl⟩
    have hVl : P.length = V.length := by rw [← hV,List.length_map]
    have hVn : ∀ u ∈ V,u.length ≤ (a.getD 0 []).length := fun u hu => by
      rw [← hV] at hu
      obtain ⟨z,_,rfl⟩ := List.mem_map.1 hu
      rw [List.length_take]; omega
    rw [hV] at hPw ⊢
    have tV : Sp.table6 V = V := table_same (show (a.getD 0 []).length ≤ 6 by omega) (by omega) hVn
    have hV2 : WayOk2 a x y V := (way_iff vx (by omega)).1 (by rw [tV]; exact hPw)
    refine CallK.by (CallV.of_spec (first := []) (cap := []) (s29 a x y V ha hl hm xl yl (by omega) fun s hs => by have := hVn s hs; omega)) fun v H' ⟨hH,b2,hv,hb2⟩ => ?_
    subst hH hv
    obtain rfl := hb2.2 hV2
    have hop := Chn.hops hP.head hP.last hP.chn
    simp only [go_sem,Nat.reduceEqDiff,Nat.reduceAdd,Nat.reduceLT,Nat.reduceLeDiff,reduceIte,reduceCtorEq]
    refine CallK.by (CallV.of_spec (first := []) (cap := []) (s30 a x y ha hl vx yl (D := P.length - 1) (by omega) hop)) fun v H' ⟨hH,d,hv,hd1,hd2⟩ => ?_
    subst hH hv
    have h1 := hP.short d hd1
    have h2 := hd2 _ hop
    have ed : IntKind.i64.wrap ((d : Int) + 1) = ((d + 1 : Nat) : Int) := by rw [wrap64 (by omega) (by omega)]; omega
    have ec : ((V.length : Int) != ((d + 1 : Nat) : Int)) = false := by rw [show V.length = d + 1 by omega]; exact bne_self_eq_false _
    simp only [ed,ec,go_sem,Nat.reduceEqDiff,Nat.reduceAdd,Nat.reduceLT,Nat.reduceLeDiff,reduceIte,reduceCtorEq]
    exact tail _ rfl rfl rfl rfl rfl rfl
end Go.Proofs.Ytipfjfmdjmaflaa
