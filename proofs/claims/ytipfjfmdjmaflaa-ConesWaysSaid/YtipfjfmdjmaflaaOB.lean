/- Contracts: Reverse; Contracts: both,and whether it is the one that is looked for; Contracts: Basic and Pure,their one answer; a matrix copied; ConesColumns; Contracts: Split; Contracts: CheckSplit; Contracts: CheckWay; Contracts: ContainsFunc,equality of lists of vectors; Contracts that rest on the reference's Basic: In,IsSplit,and the statement ConesBasic; Contracts: the reference's Basic; Contracts: IsWay. -/
import Derived.Test.YtipfjfmdjmaflaaKB
import Derived.Test.YtipfjfmdjmaflaaAS
import Derived.Test.YtipfjfmdjmaflaaOA
import Derived.Test.YtipfjfmdjmaflaaM3
import Derived.Test.YtipfjfmdjmaflaaLZ
import Derived.Test.YtipfjfmdjmaflaaMI
import Derived.Test.YtipfjfmdjmaflaaMG
import Derived.Test.YtipfjfmdjmaflaaOC
import Derived.Test.YtipfjfmdjmaflaaMH
import Derived.Test.YtipfjfmdjmaflaaProg
import Derived.Test.YtipfjfmdjmaflaaKA
import Derived.Test.YtipfjfmdjmaflaaLB
import Derived.Test.YtipfjfmdjmaflaaLE
import Derived.Test.YtipfjfmdjmaflaaMX
import Derived.Test.YtipfjfmdjmaflaaAN
import Derived.Test.YtipfjfmdjmaflaaMP
import Derived.KernelRfl
namespace Go.Proofs.Ytipfjfmdjmaflaa
open Go.Abs AVal
set_option linter.unusedSimpArgs false
attribute [local go_sem] W_skip W_keep KQ_canon canon Fr.norm W_seq W_block W_scope W_exit W_ret W_ops W_draw KQ_nil KQ_norm_seq KQ_exit_seq KQ_ret_seq KQ_norm_block KQ_ret_block KQ_exit_block KQ_exit_loop KQ_ret_loop O_nil O_cons S_call S_mv SE_mv SD_mv S_pick SE_pick SD_pick S_bin SE_bin SD_bin S_eqb SE_eqb SD_eqb S_eqv SE_eqv SD_eqv S_eqnil SE_eqnil SD_eqnil S_un SE_un SD_un S_conv SE_conv SD_conv S_mkfn SE_mkfn SD_mkfn S_load SE_load SD_load S_nilck SE_nilck SD_nilck S_slS SE_slS SD_slS S_slP SE_slP SD_slP S_fldA SE_fldA SD_fldA S_fld SE_fld SD_fld S_ixS SE_ixS SD_ixS S_ixP SE_ixP SD_ixP S_ixV SE_ixV SD_ixV S_ixStr SE_ixStr SD_ixStr S_ext SE_ext SD_ext S_len SE_len SD_len S_lenStr SE_lenStr SD_lenStr S_lenc SE_lenc SD_lenc S_mn SE_mn SD_mn S_mx SE_mx SD_mx S_build SE_build SD_build S_alloc SD_alloc S_box SD_box S_bslice SD_bslice S_mksl SD_mksl S_store SD_store S_append SD_append S_copy SD_copy S_clr SD_clr S_mlen SE_mlen SD_mlen S_mget SE_mget SD_mget S_mval SE_mval SD_mval S_mentry SE_mentry SD_mentry S_mkmap SD_mkmap S_mset SD_mset S_mrange SD_mrange S_mnext mlenA mgetA mvalA mentryA msetA mrangeA cells_mp isCell_mp cellsOk_mp aq_some aa_some al_some alA_some aqd_some aad_some ald_some ape_some D_done D_both D_early D_step SE_call SD_call IOpd.ev Fr.get Fr.put Fr.putd entryFr pickA binA binI isSh shI eqbA eqvA ints ints_mI Option.map_some eqnilA unA convA loadA nilckA intA slSA slPA fldAA fldVA ixSA ixPA ixVA ixStrA extA lenA lenStrA mnA mxA AVal.fits fillA fillOk buildA opa srcA appA stoA copA clrA rdFree zeros List.length_nil List.length_cons List.length_map List.map_cons List.map_nil Option.map_some Option.map_none if_true if_false ite_true ite_false true_and and_true and_self implies_true forall_const true_implies Bool.false_eq_true Bool.not_true Bool.not_false decide_eq_true_eq decide_eq_false_iff_not eq_self List.getElem?_cons_zero List.getElem?_cons_succ List.getElem?_nil List.set_cons_zero List.set_cons_succ List.nil_append List.cons_append List.append_nil List.replicate_zero List.replicate_succ Nat.zero_add false_implies rng_lt rng_end rng_get cells_I cells_B cells_sl cut_one Int.toNat_natCast Int.natCast_nonneg List.headD_cons Int.lt_irrefl not_false_eq_true decide_false decide_true mI_length mI_cells mI_sz mI_isCell mI_mid mI_append mI_take mI_drop cells_val cells_own cells_agg isCell_I isCell_B isCell_nil isCell_sl isCell_own isCell_ptr isCell_fn isCell_rp isCell_yld cellsOk_I cellsOk_B cellsOk_nil cellsOk_sl cellsOk_own cellsOk_ptr cellsOk_fn cellsOk_rp cellsOk_yld cellsOk_agg cells_nil cells_ptr cells_fn cells_rp List.all_cons List.all_nil Bool.and_true Nat.mul_one Nat.zero_mul Nat.one_mul List.take_zero List.take_nil List.drop_nil List.drop_zero List.not_mem_nil Nat.le_refl Nat.zero_le mS_length mS_cells mS_sz mS_isCell mS_mid mS_append mS_take mS_drop cells_sI isCell_sI cellsOk_sI sI_eq succ_le_self' List.take_succ_cons List.drop_succ_cons List.take_length beq_self_eq_true List.mem_cons or_false forall_eq mI_put mI_rep O_guard' D_earlyG' D_stepG' W_cond' G_tt G_tf G_ft G_ff GE_tt GE_tf GE_ft GE_ff GS_tt GS_tf GS_ft GS_ff G_u GE_u GS_u IC_t IC_f xft xff xtt xtf z00 z20 z22 z02 zz tn0
theorem mS_hd1 {l : List (List Int)} {i : Nat} (h : i < l.length) : (mS (l.drop i)).headD any = .sl false false (mI (l.getD i [])) := by
  rw [List.drop_eq_getElem_cons h,List.getD_eq_getElem?_getD,List.getElem?_eq_getElem h]; rfl
def revAt (xs : List (List Int)) (i k : Nat) : List Int := if k < i ∨ xs.length - 1 - k < i then xs.getD (xs.length - 1 - k) [] else xs.getD k []
theorem rev_end {xs ys : List (List Int)} {i : Nat} (hl : ys.length = xs.length) (hi : xs.length ≤ 2 * i + 1) (h : ∀ k,k < xs.length → ys.getD k [] = revAt xs i k) : ys = xs.reverse := by
  refine List.ext_getElem (by simp [hl]) fun k h1 h2 => ?_
  have hk : k < xs.length := by omega
  have := h k hk
  rw [List.getD_eq_getElem?_getD,List.getElem?_eq_getElem h1] at this
  have hk2 : xs.length - 1 - k < xs.length := by omega
  rw [List.getElem_reverse]
  simp only [Option.getD_some] at this
  rw [this,revAt]
  split
  · rw [List.getD_eq_getElem?_getD,List.getElem?_eq_getElem hk2]; rfl
  · have : xs.length - 1 - k = k := by omega
    rw [List.getD_eq_getElem?_getD,List.getElem?_eq_getElem hk]
    simp only [Option.getD_some,this]
theorem rev_step {xs ys : List (List Int)} {i : Nat} (hl : ys.length = xs.length) (hi : i < xs.length - 1 - i) (h : ∀ k,k < xs.length → ys.getD k [] = revAt xs i k) :
    ∀ k,k < xs.length → ((ys.set i (ys.getD (xs.length - 1 - i) [])).set (xs.length - 1 - i) (ys.getD i [])).getD k [] = revAt xs (i + 1) k := by
  intro k hk
  have a1 := h i (by omega)
  have a2 := h (xs.length - 1 - i) (by omega)
  have ak := h k hk
  rw [List.getD_eq_getElem?_getD,List.getElem?_set,List.getElem?_set]
  simp only [List.length_set]
  by_cases h1 : xs.length - 1 - i = k
  · rw [if_pos h1,if_pos (by omega),Option.getD_some,a1,revAt,revAt,if_neg (by omega),if_pos (by omega)]
    congr 1; omega
  · rw [if_neg h1]
    by_cases h2 : i = k
    · rw [if_pos h2,if_pos (by omega),Option.getD_some,a2,revAt,revAt,if_neg (by omega),if_pos (by omega)]
      congr 1; omega
    · rw [if_neg h2,← List.getD_eq_getElem?_getD,ak,revAt,revAt]
      by_cases h3 : k < i ∨ xs.length - 1 - k < i
      · rw [if_pos h3,if_pos (by omega)]
      · rw [if_neg h3,if_neg (by omega)]
set_option maxHeartbeats 1000000 in
theorem s31 (xs : List (List Int)) (h1 : 1 ≤ xs.length) (hl : xs.length ≤ 1000000) : Abs.Spec Try.prog 31 [.own 0 0 xs.length xs.length 1] [.cells (mS xs)] fun v H' => v = .tup [] ∧ H' = [.cells (mS xs.reverse)] := by
  refine Abs.Spec.walk mixed fn31 nn31 t31 q31 nt31 (by simp) ?_
  have hw : IntKind.i64.wrap ((xs.length : Int) - 1) = ((xs.length - 1 : Nat) : Int) := by rw [wrap64 (by omega) (by omega)]; omega
  simp only [w31,hw,go_sem,Nat.reduceEqDiff,Nat.reduceAdd,Nat.reduceLT,Nat.reduceLeDiff,reduceIte,reduceCtorEq]
  refine W_loop (fun q : { q : Nat × List (List Int) // 2 * q.1 ≤ xs.length ∧ q.2.length = xs.length ∧ ∀ k,k < xs.length → q.2.getD k [] = revAt xs q.1 k } => ([(0,own 0 0 xs.length xs.length 1),(2,I q.1.1),(3,I ((xs.length - 1 : Nat) - (q.1.1 : Nat) : Int))],[.cells (mS q.1.2)])) (fun q => xs.length - q.1.1)
    ⟨(0,xs),by simp,rfl,fun k hk => by rw [revAt,if_neg (by omega)]⟩ (idρ 1) (WkB (B := 1) rfl (by simp [blkOk,mS_bnd]) (by simp [Fr.get,vid])) ?_
  rintro ⟨⟨i,ys⟩,hi,hyl,hinv⟩
  dsimp only at hi hyl hinv ⊢
  by_cases hlt : i < xs.length - 1 - i
  · have ej : ((xs.length - 1 : Nat) - (i : Nat) : Int) = ((xs.length - 1 - i : Nat) : Int) := by omega
    rw [ej]
    obtain ⟨j,hj⟩ : ∃ j,xs.length - 1 - i = j := ⟨_,rfl⟩
    have hstep := rev_step hyl hlt hinv
    rw [hj] at hstep hlt ⊢
    have hz : decide ((i : Int) < j) = true := decide_eq_true (by omega)
    have iy : i < ys.length := by omega
    have jy : j < ys.length := by omega
    have il : (i : Int) < xs.length := by omega
    have jl : (j : Int) < xs.length := by omega
    have hwi : IntKind.i64.wrap ((i : Int) + 1) = ((i + 1 : Nat) : Int) := by rw [wrap64 (by omega) (by omega)]; rfl
    have hwj : IntKind.i64.wrap ((j : Int) - 1) = ((xs.length - 1 : Nat) - (i + 1 : Nat) : Int) := by rw [wrap64 (by omega) (by omega)]; omega
    have jy2 : j < (ys.set i (ys.getD j [])).length := by simpa using jy
    simp only [w31L0,hz,il,jl,mS_hd1,iy,jy,mS_put,set_put,jy2,hwi,hwj,go_sem,Nat.reduceEqDiff,Nat.reduceAdd,Nat.reduceLT,Nat.reduceLeDiff,reduceIte,reduceCtorEq]
    refine ⟨by omega,by omega,by omega,by omega,?_⟩
    exact roundB ⟨(i + 1,(ys.set i (ys.getD j [])).set j (ys.getD i [])),by omega,by simp [hyl],hstep⟩ (by dsimp only; omega) rfl rfl (by simp [blkOk,mS_bnd]) (by simp [Fr.get,vid])
  · have ej : decide ((i : Int) < ((xs.length - 1 : Nat) - (i : Nat) : Int)) = false := decide_eq_false (by omega)
    simp only [w31L0,ej,go_sem,Nat.reduceEqDiff,Nat.reduceAdd,Nat.reduceLT,Nat.reduceLeDiff,reduceIte,reduceCtorEq]
    rw [rev_end hyl (by omega) hinv]
    exact leafB0 (H0 := [.cells (mS xs.reverse)]) (H1 := []) rfl (by simp [blkOk,mS_bnd]) ⟨rfl,rfl⟩
open Go.Abs AVal
theorem leafCCT' {ag ag' : Bool} {k t k' t' u : Nat} {e : Ex} {fr : Fr} {H : AHeap} {R : AVal → AHeap → Prop} (x y v : AVal) {p q : Prop} (h : loadA ag k (fr.get t) H = some (p,x)) (h' : loadA ag' k' (fr.get t') H = some (q,y)) (hp : p) (hq : q) (hv : vle H [] [] 3 (.tup [x,y,fr.get u]) v) (hR : R v []) (he : e = .norm ∨ e = .ret := by simp) : retA 0 [.cell ag k t,.cell ag' k' t',.tmp u] R e fr H [] :=
  retA_nil he (p := p ∧ q ∧ True ∧ True) (vs := [x,y,fr.get u]) (by simp [resL,resA,h,h']) ⟨hp,hq,trivial,trivial⟩ hv hR
theorem taskV_bnd' {rows : List (List Int)} {n : Int} {bs : List (List Int)} {X : List Int} : (taskV rows n bs X).bnd 0 = true := by simp [taskV,AVal.bnd,bndL,mV_bnd,mI_bnd]
theorem openR_bnd' {a : List (List Int)} {x : List Int} {most : Int} {v : AVal} (h : openR a x most v) : v.bnd 0 = true := by
  rcases h with ⟨-,rfl⟩ | ⟨-,bs,-,rfl⟩
  · simp [zT,AVal.bnd,bndL]
  · simp [AVal.bnd,bndL,taskV_bnd']
def twoOk (a : List (List Int)) (x y : List Int) : Bool := Sp.vecOk a x 0 6 && Sp.vecOk a y 0 6
def bothR (a : List (List Int)) (x y : List Int) (v : AVal) : Prop :=
  (twoOk a x y = false ∧ ∃ cs : List AVal,cs.all AVal.isCell = true ∧ cs.length = 7 ∧ bndL 0 cs = true ∧ v = .tup [.agg cs,vec [0,0,0,0],B false]) ∨
  (twoOk a x y = true ∧ ∃ bs,IsB (a.map Sp.pad) (a.getD 0 []).length bs ∧ v = .tup [taskV (a.map Sp.pad) (a.getD 0 []).length bs (Sp.pad x),vec (Sp.pad y),B true])
set_option maxRecDepth 20000 in
set_option maxHeartbeats 4000000 in
theorem s66 (a : List (List Int)) (x p : List Int) (ha : ∀ l ∈ a,l.length < 9223372036854775808) (hl : a.length < 9223372036854775808) (hx : x.length < 9223372036854775808) (hp : p.length < 9223372036854775808) :
    Abs.Spec Try.prog 66 [.sl false false (mS a),.sl false false (mI x),.sl false false (mI p)] [] fun v H' => H' = [] ∧ bothR a x p v := by
  refine Abs.Spec.walk mixed fn66 nn66 t66 q66 nt66 (by simp) ?_
  simp only [w66,go_sem,Nat.reduceEqDiff,Nat.reduceAdd,Nat.reduceLT,Nat.reduceLeDiff,reduceIte,reduceCtorEq]
  refine CallK.by (CallV.of_spec (first := []) (cap := []) (Spec.liftE (s98 a x 6 ha hl hx) (by simp [bndL,AVal.bnd,mS_bnd,mI_bnd]) (fun v hr => openR_bnd' hr) _)) fun v H' ⟨hr,hH⟩ => ?_
  subst hH
  have g7 : ∀ cs : List AVal,cs.length = 7 → cut true 7 cs = .agg cs := fun cs h => by show AVal.agg (List.take 7 _) = _; rw [List.take_of_length_le (by omega)]
  rcases hr with ⟨hv,rfl⟩ | ⟨hv,bs,hB,rfl⟩
  · have gz := g7 [nilSl,I 0,nilSl,I 0,I 0,I 0,I 0] rfl
    simp only [zT,w66T0,List.getD_cons_zero,List.getD_cons_succ,gz,go_sem,Nat.reduceEqDiff,Nat.reduceAdd,Nat.reduceLT,Nat.reduceLeDiff,reduceIte,reduceCtorEq]
    exact leafCCT' (cut true 7 [nilSl,I 0,nilSl,I 0,I 0,I 0,I 0]) (cut true 4 [I 0,I 0,I 0,I 0]) (.tup [.agg [nilSl,I 0,nilSl,I 0,I 0,I 0,I 0],vec [0,0,0,0],B false]) rfl rfl ⟨by decide,fun h => by cases h⟩ ⟨by decide,fun h => by cases h⟩ ⟨by rw [gz]; exact .inl ⟨rfl,rfl⟩,.inl ⟨rfl,rfl⟩,rfl,trivial⟩ ⟨rfl,.inl ⟨by unfold twoOk; rw [hv]; rfl,_,rfl,rfl,rfl,rfl⟩⟩
  · have hv0 := hv
    unfold Sp.vecOk at hv0
    rw [Bool.and_eq_true,Bool.and_eq_true,decide_eq_true_eq] at hv0
    obtain ⟨hm,xl,xn⟩ := hv0
    obtain ⟨r1,r2,n1,n4⟩ := mat_rows hm
    obtain ⟨X,hX⟩ : ∃ X,Sp.pad x = X := ⟨_,rfl⟩
    have Xl : X.length = 4 := by rw [← hX]; exact Sp.pad_len (by omega)
    have Xm : (mI X).length = 4 := by rw [mI_length,Xl]
    have acX := allI_cell X
    obtain ⟨n,hn⟩ : ∃ n,(a.getD 0 []).length = n := ⟨_,rfl⟩
    obtain ⟨e,he⟩ : ∃ e : Int,(if bs.any posV = true then 5 else 0) = e := ⟨_,rfl⟩
    have he2 : (e == 2) = false := by rw [← he]; split <;> rfl
    have hpr : twoOk a x p = (decide (p.length = n) && Sp.numbers p 0 6) := by unfold twoOk; rw [hv,Bool.true_and]; unfold Sp.vecOk; rw [hm,hn,Bool.true_and]
    rw [hn] at n1 n4 hB ⊢
    rw [hX,he]
    have gc := g7 (.sl false false (mV (a.map Sp.pad)) :: I n :: .sl false false (mV bs) :: mI X) (by simp [Xm])
    have tb : bndL 0 (AVal.sl false false (mV (a.map Sp.pad)) :: I n :: .sl false false (mV bs) :: mI X) = true := by simp [bndL,AVal.bnd,mV_bnd,mI_bnd]
    have ta : (AVal.sl false false (mV (a.map Sp.pad)) :: I n :: .sl false false (mV bs) :: mI X).all AVal.isCell = true := by show (true && (true && (true && (mI X).all AVal.isCell))) = true; rw [acX]; rfl
    simp only [taskV_eq,w66T0,List.getD_cons_zero,List.getD_cons_succ,he2,Xm,Xl,gc,go_sem,Nat.reduceEqDiff,Nat.reduceAdd,Nat.reduceLT,Nat.reduceLeDiff,reduceIte,reduceCtorEq]
    refine ⟨ta,?_⟩
    have z4 : mI [0,0,0,0] = [I 0,I 0,I 0,I 0] := rfl
    have z4' : cut true 4 [I 0,I 0,I 0,I 0] = .agg [I 0,I 0,I 0,I 0] := rfl
    have g2 : cut true 2 (.sl false false (mV (a.map Sp.pad)) :: I n :: .sl false false (mV bs) :: mI X) = .agg [.sl false false (mV (a.map Sp.pad)),I n] := rfl
    have h63 := s63 false false (.sl false false (mV (a.map Sp.pad))) rfl n p 0 6 n1 n4 hp
    cases hb : (decide (p.length = n) && Sp.numbers p 0 6) with
    | false =>
      rw [hb,if_neg (by decide)] at h63
      rw [g2]
      refine CallK.pure (liftV h63 (by simp [bndL,AVal.bnd,mV_bnd,mI_bnd]) (by decide) _) ?_
      simp only [vec_eq,List.getD_cons_zero,List.getD_cons_succ,z4,z4',gc,List.set_cons_succ,List.set_cons_zero,Xm,Xl,go_sem,Nat.reduceEqDiff,Nat.reduceAdd,Nat.reduceLT,Nat.reduceLeDiff,reduceIte,reduceCtorEq]
      exact ⟨ta,leafCCT' (cut true 7 (.sl false false (mV (a.map Sp.pad)) :: I n :: .sl false false (mV bs) :: mI X)) (cut true 4 [I 0,I 0,I 0,I 0]) (.tup [.agg (.sl false false (mV (a.map Sp.pad)) :: I n :: .sl false false (mV bs) :: mI X),vec [0,0,0,0],B false]) rfl rfl ⟨by simp [Xm],fun h => by cases h⟩ ⟨by decide,fun h => by cases h⟩ ⟨by rw [gc]; exact .inl ⟨rfl,tb⟩,.inl ⟨rfl,rfl⟩,rfl,trivial⟩ ⟨rfl,.inl ⟨by rw [hpr]; exact hb,_,ta,by simp [Xm],tb,rfl⟩⟩⟩
    | true =>
      rw [hb,if_pos rfl] at h63
      have pl : p.length = n := by rw [Bool.and_eq_true,decide_eq_true_eq] at hb; exact hb.1
      obtain ⟨P,hP⟩ : ∃ P,Sp.pad p = P := ⟨_,rfl⟩
      have Pl : P.length = 4 := by rw [← hP]; exact Sp.pad_len (by omega)
      have Pm : (mI P).length = 4 := by rw [mI_length,Pl]
      have Pc : cut true 4 (mI P) = vec P := cut_vec Pl
      have acP := allI_cell P
      rw [hP] at h63
      rw [g2]
      refine CallK.pure (liftV h63 (by simp [bndL,AVal.bnd,mV_bnd,mI_bnd]) (by simp [AVal.bnd,bndL,vec,mI_bnd]) _) ?_
      simp only [vec_eq,List.getD_cons_zero,List.getD_cons_succ,gc,Pc,Pm,Pl,List.set_cons_succ,List.set_cons_zero,Xm,Xl,go_sem,Nat.reduceEqDiff,Nat.reduceAdd,Nat.reduceLT,Nat.reduceLeDiff,reduceIte,reduceCtorEq]
      exact ⟨acP,ta,acP,leafCCT' (cut true 7 (.sl false false (mV (a.map Sp.pad)) :: I n :: .sl false false (mV bs) :: mI X)) (cut true 4 (mI P)) (.tup [taskV (a.map Sp.pad) n bs X,vec P,B true]) rfl rfl ⟨by simp [Xm],fun h => by cases h⟩ ⟨by rw [Pm]; omega,fun h => by cases h⟩ ⟨by rw [gc]; exact .inl ⟨rfl,tb⟩,by rw [Pc]; exact vle_vec _,rfl,trivial⟩ ⟨rfl,.inr ⟨by rw [hpr]; exact hb,bs,by rw [hn]; exact hB,by rw [hn,hX,hP]⟩⟩⟩
theorem s70 (y V : List Int) (hy : y.length = 4) (hV : V.length = 4) : Abs.Spec Try.prog 70 [.agg (mI y),.rp (mI V)] [] fun v H' => H' = [] ∧ v = B (y == V) := by
  refine Abs.Spec.walk mixed fn70 nn70 t70 q70 nt70 (by simp) ?_
  have acy := allI_cell y
  have acV := allI_cell V
  have gy : cut true 4 (mI y) = .agg (mI y) := cut_vec hy
  have gV : cut true 4 (mI V) = .agg (mI V) := cut_vec hV
  simp only [w70,gy,gV,ints_mI,hy,hV,go_sem,Nat.reduceEqDiff,Nat.reduceAdd,Nat.reduceLT,Nat.reduceLeDiff,reduceIte,reduceCtorEq]
  exact ⟨acy,leaf (B (y == V)) (by simp [vle,Fr.get]) ⟨rfl,rfl⟩⟩
open Go.Abs AVal
open Go.Abs AVal
open Go.Abs AVal
theorem s107 (nn t : Bool) (xs : List (List Int)) (h4 : ∀ x ∈ xs,x.length = 4) (y : List Int) (hy : y.length = 4) (hl : xs.length < 9223372036854775808) :
    Abs.Spec Try.prog 107 [.sl nn t (mV xs),vec y] [] fun v H' => H' = [] ∧ v = I (Sp.idx (fun z => y == z) xs) := by
  refine Abs.Spec.walk mixed fn107 nn107 t107 q107 nt107 (by simp) ?_
  have hyl : (mI y).length = 4 := by rw [mI_length,hy]
  have hyc : cut true 4 (mI y) = vec y := cut_vec hy
  simp only [w107,mV_length,vec_eq,hyl,go_sem,Nat.reduceEqDiff,Nat.reduceAdd,Nat.reduceLT,Nat.reduceLeDiff,reduceIte,reduceCtorEq]
  refine ⟨allI_cell y,?_⟩
  refine W_loop (fun q : { q : List (List Int) × List (List Int) // q.1 ++ q.2 = xs ∧ ∀ x ∈ q.1,(y == x) = false } => ([(0,sl nn t (mV xs)),(3,ptr 0 0),(7,I xs.length),(8,I q.1.1.length)],[.cells (mI y)])) (fun q => q.1.2.length) ⟨([],xs),rfl,by simp⟩ [some 0] (Wk.mk0 rfl (by simp [imgs,Blk.alive]) (by simp [hle,csle,mI_bnd]) (by simp [fle,vle,Fr.get,mV_bnd])) ?_
  rintro ⟨⟨pre,suf⟩,hp,hinv⟩
  dsimp only at hp hinv
  subst hp
  cases suf with
  | nil =>
    simp only [w107L0,w107T1,go_sem,Nat.reduceEqDiff,Nat.reduceAdd,Nat.reduceLT,Nat.reduceLeDiff,reduceIte,reduceCtorEq]
    exact leaf (I _) rfl ⟨rfl,by rw [Sp.idx_none hinv]⟩
  | cons x suf =>
    have hx4 := h4 x (by simp)
    have hxl : (mI x).length = 4 := by rw [mI_length,hx4]
    have hxc : cut true 4 (mI x) = vec x := cut_vec hx4
    have fx : ∀ b,(false ^^ b) = b := Bool.false_xor
    simp only [w107L0,mV_mid,mV_length,hyl,hyc,hxl,hxc,vec_eq,fx,go_sem,Nat.reduceEqDiff,Nat.reduceAdd,Nat.reduceLT,Nat.reduceLeDiff,reduceIte,reduceCtorEq]
    refine ⟨⟨hy,hx4⟩,?_⟩
    refine IC.split (fun h => ?_) fun h => ?_
    · simp only [go_sem,Nat.reduceEqDiff,Nat.reduceAdd,Nat.reduceLT,Nat.reduceLeDiff,reduceIte,reduceCtorEq]
      exact leaf (I _) rfl ⟨rfl,by rw [Sp.idx_mid _ pre _ hinv]; simp [Sp.idx,h]⟩
    · simp only [go_sem,Nat.reduceEqDiff,Nat.reduceAdd,Nat.reduceLT,Nat.reduceLeDiff,reduceIte,reduceCtorEq]
      refine round1 rfl ⟨(pre ++ [x],suf),by simp,fun y hy => by rcases List.mem_append.1 hy with hy | hy; exact hinv y hy; simp at hy; subst hy; exact h⟩ [some 0] (by simp) (Wk.mk0 rfl (by simp [imgs,Blk.alive]) (by simp [hle,csle,mI_bnd]) (by simp [fle,vle,Fr.get,rng_idx' hl,mV_bnd]))
theorem s73 (nn t : Bool) (xs : List (List Int)) (h4 : ∀ x ∈ xs,x.length = 4) (y : List Int) (hy : y.length = 4) (hl : xs.length < 9223372036854775808) :
    Abs.Spec Try.prog 73 [.sl nn t (mV xs),vec y] [] fun v H' => H' = [] ∧ v = B (xs.any fun z => y == z) := by
  refine Abs.Spec.walk mixed fn73 nn73 t73 q73 nt73 (by simp) ?_
  have hyl : (mI y).length = 4 := by rw [mI_length,hy]
  have hyc : cut true 4 (mI y) = vec y := cut_vec hy
  simp only [w73,vec_eq,hyl,hyc,go_sem,Nat.reduceEqDiff,Nat.reduceAdd,Nat.reduceLT,Nat.reduceLeDiff,reduceIte,reduceCtorEq]
  refine ⟨allI_cell y,?_⟩
  refine CallK.pure (liftV (s107 nn t xs h4 y hy hl) (by simp [bndL,vec,AVal.bnd,mI_bnd,mV_bnd]) rfl _) ?_
  simp only [go_sem,Nat.reduceEqDiff,Nat.reduceAdd,Nat.reduceLT,Nat.reduceLeDiff,reduceIte,reduceCtorEq]
  exact leaf (B _) rfl ⟨rfl,by rw [← idx_any]⟩
open Go.Abs AVal
theorem s68g (x y : List Int) (hx : x.length = 4) (hy : y.length = 4) (bx : ∀ z ∈ x,0 ≤ z ∧ z < 9223372036854775808) (by' : ∀ j,0 ≤ y.getD j 0 ∧ y.getD j 0 ≤ 100000) : Abs.Spec Try.prog 68 [vec x,I (-1),vec y] [] fun v H' => H' = [] ∧ v = vec (plusV (-1) x y) := by
  refine Abs.Spec.walk mixed fn68 nn68 t68 q68 nt68 (by simp) ?_
  have hxl : (mI x).length = 4 := by rw [mI_length,hx]
  have hyl : (mI y).length = 4 := by rw [mI_length,hy]
  obtain ⟨P,hP⟩ : ∃ P,plusV (-1) x y = P := ⟨_,rfl⟩
  have pl : P.length = 4 := by rw [← hP]; exact plusV_len hx hy
  simp only [w68,vec_eq,hxl,hyl,go_sem,Nat.reduceEqDiff,Nat.reduceAdd,Nat.reduceLT,Nat.reduceLeDiff,reduceIte,reduceCtorEq]
  refine ⟨allI_cell x,allI_cell y,?_⟩
  have z4e : [I 0,I 0,I 0,I 0] = mI [0,0,0,0] := rfl
  rw [z4e]
  refine W_loop (fun p : { i : Nat // i ≤ 4 } => ([(1,I (-1)),(3,ptr 0 0),(5,ptr 1 0),(6,ptr 2 0),(8,I p.1)],[.cells (mI (P.take p.1 ++ x.drop p.1)),.cells (mI y),.cells (mI [0,0,0,0])])) (fun p => 4 - p.1) ⟨0,by omega⟩ [some 0,some 1,some 2] (Wk.mk0 rfl (by simp [imgs,Blk.alive]) (by simp [hle,csle,mI_bnd]) (by simp [fle,vle,Fr.get])) ?_
  rintro ⟨i,hin⟩
  dsimp only
  have ml : (P.take i ++ x.drop i).length = 4 := by rw [List.length_append,List.length_take,List.length_drop]; omega
  by_cases hi : i < 4
  · have d1 : (i : Int) < 4 := by omega
    have qi : (P.take i ++ x.drop i).getD i 0 = x.getD i 0 := by
      rw [List.getD_eq_getElem?_getD,List.getElem?_append_right (by rw [List.length_take]; omega),List.length_take,List.getElem?_drop,show i + (i - min i P.length) = i by omega,← List.getD_eq_getElem?_getD]
    have qs : (P.take i ++ x.drop i).set i (P.getD i 0) = P.take (i + 1) ++ x.drop (i + 1) := by
      rw [List.set_append_right _ _ (by rw [List.length_take]; omega),List.length_take,show i - min i P.length = 0 by omega,List.drop_eq_getElem_cons (show i < x.length by omega),List.set_cons_zero,List.getD_eq_getElem?_getD,List.getElem?_eq_getElem (show i < P.length by omega),List.take_add_one,List.getElem?_eq_getElem (show i < P.length by omega)]
      simp only [Nat.sub_self,List.append_assoc,Option.toList,Option.getD_some,List.cons_append,List.nil_append]
    have xi : 0 ≤ x.getD i 0 ∧ x.getD i 0 < 9223372036854775808 := by
      rw [List.getD_eq_getElem?_getD,List.getElem?_eq_getElem (by omega)]; exact bx _ (List.getElem_mem _)
    have yi := by' i
    have pe : P.getD i 0 = x.getD i 0 + -1 * y.getD i 0 := by rw [← hP]; exact plusV_get hx hy i
    have e1 : IntKind.i64.wrap (-1 * y.getD i 0) = -1 * y.getD i 0 := wrap64 (by omega) (by omega)
    have e2 : IntKind.i64.wrap (x.getD i 0 + -1 * y.getD i 0) = P.getD i 0 := by rw [pe]; exact wrap64 (by omega) (by omega)
    have hw : IntKind.i64.wrap ((i : Int) + 1) = i + 1 := wrap64 (by omega) (by omega)
    obtain ⟨Q,hQ⟩ : ∃ Q,P.take i ++ x.drop i = Q := ⟨_,rfl⟩
    rw [hQ] at ml qi qs
    have p1 := mI_hd0 (l := Q) (i := i) (by omega)
    have p2 := mI_hd0 (l := y) (i := i) (by omega)
    have p3 := mI_pt0 (l := Q) (i := i) (by omega) (P.getD i 0)
    rw [qi] at p1
    rw [qs] at p3
    obtain ⟨X,hX⟩ : ∃ X,x.getD i 0 = X := ⟨_,rfl⟩
    obtain ⟨Y,hY⟩ : ∃ Y,y.getD i 0 = Y := ⟨_,rfl⟩
    obtain ⟨Z,hZ⟩ : ∃ Z,P.getD i 0 = Z := ⟨_,rfl⟩
    rw [hX] at p1 e2
    rw [hY] at p2 e1 e2
    rw [hZ] at p3 e2
    rw [hQ]
    simp only [w68L0,d1,p1,p2,e1,e2,p3,hw,go_sem,Nat.reduceEqDiff,Nat.reduceAdd,Nat.reduceLT,Nat.reduceLeDiff,reduceIte,reduceCtorEq]
    refine ⟨by omega,by omega,by omega,by omega,by omega,by omega,?_⟩
    exact round1 rfl ⟨i + 1,by omega⟩ [some 0,some 1,some 2] (by dsimp only; omega) (Wk.mk0 rfl (by simp [imgs,Blk.alive]) (by simp [hle,csle,mI_bnd]) (by simp [fle,vle,Fr.get]))
  · have d1 : ¬ (i : Int) < 4 := by omega
    have ei : i = 4 := by omega
    subst ei
    rw [List.take_of_length_le (by omega),List.drop_of_length_le (by omega),List.append_nil]
    have pc := cut_vec pl
    have pm : (mI P).length = 4 := by rw [mI_length,pl]
    simp only [w68L0,w68T1,d1,pc,vec_eq,pl,pm,go_sem,Nat.reduceEqDiff,Nat.reduceAdd,Nat.reduceLT,Nat.reduceLeDiff,reduceIte,reduceCtorEq]
    refine ⟨allI_cell P,?_⟩
    exact leafC (cut true 4 (mI P)) (vec P) rfl ⟨by rw [pm]; omega,fun h => by cases h⟩ (by rw [pc]; exact vle_vec _) ⟨rfl,by rw [hP]; rfl⟩
theorem chn_iff {N : List Int → List Int → Prop} : ∀ {P : List (List Int)},Chn N P ↔ ∀ i,i + 1 < P.length → N (P.getD i []) (P.getD (i + 1) [])
  | [] => ⟨fun _ i hi => by simp at hi,fun _ => trivial⟩
  | [u] => ⟨fun _ i hi => by simp at hi,fun _ => trivial⟩
  | u :: v :: l => by
    constructor
    · intro h i hi
      cases i with
      | zero => exact h.1
      | succ i => exact chn_iff.1 h.2 i (by simp at hi ⊢; omega)
    · intro h
      exact ⟨h 0 (by simp),chn_iff.2 fun i hi => h (i + 1) (by simp at hi ⊢; omega)⟩
def stepOk (a : List (List Int)) (l : List (List Int)) (i : Nat) : Prop :=
  (l.getD i []).length = (a.getD 0 []).length ∧ posV (l.getD i []) = true ∧ (0 < i → Nr a (Sp.pad (l.getD (i - 1) [])) (Sp.pad (l.getD i [])))
def WayOk (a : List (List Int)) (x y : List Int) (l : List (List Int)) : Prop := l.head? = some x ∧ l.getLast? = some y ∧ ∀ i,i < l.length → stepOk a l i
def chkR (a : List (List Int)) (x y : List Int) (l : List (List Int)) (v : AVal) : Prop :=
  (twoOk a x y = false ∧ v = .tup [B false,I 2]) ∨ (twoOk a x y = true ∧ ∃ b,v = .tup [B b,I 0] ∧ (b = true ↔ WayOk a x y l))
theorem minL_pos {l : List Int} (h : l ≠ []) : posV l = true ↔ 0 ≤ Sp.minL l := by
  obtain ⟨M,hM⟩ : ∃ M : Int,∀ z ∈ l,z ≤ M := by
    clear h
    induction l with
    | nil => exact ⟨0,by simp⟩
    | cons z l ih =>
      obtain ⟨M,hM⟩ := ih
      refine ⟨max z M,fun w hw => ?_⟩
      rcases List.mem_cons.1 hw with rfl | hw
      · omega
      · have := hM w hw; omega
  have h1 := Sp.numbers_iff h (lo := 0) (hi := max M (Sp.maxL l))
  have h2 : Sp.numbers l 0 (max M (Sp.maxL l)) = true ↔ posV l = true := by
    unfold Sp.numbers posV
    rw [List.all_eq_true,List.all_eq_true]
    constructor
    · intro h z hz
      have := h z hz
      simp at this ⊢; omega
    · intro h z hz
      have := h z hz
      have := hM z hz
      simp at *; omega
  rw [← h2,h1]
  exact ⟨fun h => h.1,fun h => ⟨h,by omega⟩⟩
theorem near_minus {bs : List (List Int)} {u v : List Int} (h4 : ∀ m ∈ bs,m.length = 4) (hu : u.length = 4) (hv : v.length = 4) (pv : posV v = true) : (bs.any fun z => plusV (-1) v u == z) = true ↔ nearR bs u v := by
  unfold nearR
  rw [mem_near,List.any_eq_true]
  constructor
  · rintro ⟨m,hm,e⟩
    have e := eq_of_beq e
    subst e
    refine ⟨_,hm,?_,pv⟩
    refine Sp.ext4 hv (plusV_len hu (plusV_len hv hu)) fun j => ?_
    rw [plusV_get hu (plusV_len hv hu),plusV_get hv hu]; omega
  · rintro ⟨m,hm,rfl,-⟩
    refine ⟨m,hm,beq_iff_eq.2 ?_⟩
    have m4 := h4 m hm
    refine Sp.ext4 (plusV_len hv hu) m4 fun j => ?_
    rw [plusV_get hv hu,plusV_get hu m4]; omega
set_option maxRecDepth 20000 in
set_option maxHeartbeats 4000000 in
theorem s28 (a : List (List Int)) (x y : List Int) (l : List (List Int)) (ha : ∀ l ∈ a,l.length < 9223372036854775808) (hl : a.length < 9223372036854775808) (hx : x.length < 9223372036854775808) (hy : y.length < 9223372036854775808)
    (hll : l.length ≤ 250) (hls : ∀ s ∈ l,s.length < 9223372036854775808 ∧ ∀ z ∈ s,z < 9223372036854775808) :
    Abs.Spec Try.prog 28 [.sl false false (mS a),.sl false false (mI x),.sl false false (mI y),.sl false false (mS l)] [] fun v H' => H' = [] ∧ chkR a x y l v := by
  refine Abs.Spec.walk mixed fn28 nn28 t28 q28 nt28 (by simp) ?_
  simp only [w28,go_sem,Nat.reduceEqDiff,Nat.reduceAdd,Nat.reduceLT,Nat.reduceLeDiff,reduceIte,reduceCtorEq]
  refine CallK.by (CallV.of_spec (first := []) (cap := []) (s66 a x y ha hl hx hy)) fun v H' ⟨hH,hr⟩ => ?_
  subst hH
  rcases hr with ⟨hok,cs,c1,c2,c3,rfl⟩ | ⟨hok,bs,hB,rfl⟩
  · have z4 : mI [0,0,0,0] = [I 0,I 0,I 0,I 0] := rfl
    simp only [List.getD_cons_zero,List.getD_cons_succ,vec_eq,z4,c2,go_sem,Nat.reduceEqDiff,Nat.reduceAdd,Nat.reduceLT,Nat.reduceLeDiff,reduceIte,reduceCtorEq]
    exact ⟨c1,leaf2 (.tup [B false,I 2]) ⟨rfl,rfl,trivial⟩ ⟨rfl,.inl ⟨hok,rfl⟩⟩⟩
  · have hok' := hok
    unfold twoOk at hok'
    rw [Bool.and_eq_true] at hok'
    obtain ⟨vx,vy⟩ := hok'
    obtain ⟨hm,xl,Xl,bX,pX,bx,Xp,px⟩ := vecOk_spec (by decide) vx
    obtain ⟨-,yl,Yl,bY,pY,by',Yp,py⟩ := vecOk_spec (by decide) vy
    obtain ⟨r1,r2,n1,n4⟩ := mat_rows hm
    have hB4 : ∀ m ∈ bs,m.length = 4 := fun m hm' => ((Sp.mem_bs hm hB).1 hm').mv.len
    have eN := nearR_Nr hm hB
    have hBl := hB.len (by omega)
    obtain ⟨q1,q2,-,-⟩ := Sp.mat_cols hm rfl
    have hB16 : ∀ m ∈ bs,Sp.inB 16 m := fun m hm' => Sp.inB_mono (((Sp.mem_bs hm hB).1 hm').bnd q1 q2 (by omega)) (by unfold Sp.bnd; split <;> (try split) <;> (try split) <;> omega)
    have yt : (Sp.pad y).take (a.getD 0 []).length = y := Sp.pad_take yl
    obtain ⟨X,hX⟩ : ∃ X,Sp.pad x = X := ⟨_,rfl⟩
    obtain ⟨Y,hY⟩ : ∃ Y,Sp.pad y = Y := ⟨_,rfl⟩
    obtain ⟨n,hn⟩ : ∃ n,(a.getD 0 []).length = n := ⟨_,rfl⟩
    have hn' := hn
    rw [hX] at Xl bX pX Xp
    rw [hY] at Yl bY pY Yp yt
    rw [hn] at n1 n4 yt
    rw [hX,hY,hn]
    have Xm : (mI X).length = 4 := by rw [mI_length,Xl]
    have Ym : (mI Y).length = 4 := by rw [mI_length,Yl]
    have acX := allI_cell X
    have acY := allI_cell Y
    have gY : cut true 4 (mI Y) = .agg (mI Y) := cut_vec Yl
    have gX : cut true 4 (mI X) = .agg (mI X) := cut_vec Xl
    obtain ⟨tc,htc⟩ : ∃ tc,AVal.sl false false (mV (a.map Sp.pad)) :: I n :: .sl false false (mV bs) :: mI X = tc := ⟨_,rfl⟩
    have htl : tc.length = 7 := by rw [← htc]; simp [Xm]
    have htA : tc.all AVal.isCell = true := by rw [← htc]; show (true && (true && (true && (mI X).all AVal.isCell))) = true; rw [acX]; rfl
    have htb : bndL 0 tc = true := by rw [← htc]; simp [bndL,AVal.bnd,mV_bnd,mI_bnd]
    have gM : cut true 2 tc = matV (a.map Sp.pad) n := by rw [← htc]; rfl
    have hd3 : List.drop 3 tc = mI X := by rw [← htc]; rfl
    have hd2 : List.drop 2 tc = .sl false false (mV bs) :: mI X := by rw [← htc]; rfl
    have hd1 : List.drop 1 tc = I n :: .sl false false (mV bs) :: mI X := by rw [← htc]; rfl
    by_cases hl0 : l = []
    · subst hl0
      have z0 : (((0 : Nat) : Int) == 0) = true := rfl
      simp only [List.getD_cons_zero,List.getD_cons_succ,taskV_eq,vec_eq,htc,htl,Ym,Yl,gY,gM,hd3,gX,Xl,Xm,List.set_cons_succ,List.set_cons_zero,w28T0,mS_nil,z0,List.length_nil,go_sem,Nat.reduceEqDiff,Nat.reduceAdd,Nat.reduceLT,Nat.reduceLeDiff,reduceIte,reduceCtorEq]
      exact ⟨htA,acY,leaf2 (.tup [B false,I 0]) ⟨rfl,rfl,trivial⟩ ⟨rfl,.inr ⟨hok,false,rfl,fun h => (by cases h),fun h => (by cases h.1)⟩⟩⟩
    have hlp : 0 < l.length := List.length_pos_iff.2 hl0
    have z0 : ((l.length : Int) == 0) = false := by rw [beq_eq_false_iff_ne]; omega
    have g0 := mS_getD hlp
    have hll1 : l.length - 1 < l.length := by omega
    have gl := mS_getD hll1
    have hh : l.head? = some (l.getD 0 []) := by cases l with
      | nil => exact absurd rfl hl0
      | cons u r => rfl
    have ht : l.getLast? = some (l.getD (l.length - 1) []) := by rw [List.getLast?_eq_getElem?,List.getD_eq_getElem?_getD,List.getElem?_eq_getElem hll1]; rfl
    have m0 : l.getD 0 [] ∈ l := by rw [List.getD_eq_getElem?_getD,List.getElem?_eq_getElem hlp]; exact List.getElem_mem hlp
    have mt : l.getD (l.length - 1) [] ∈ l := by rw [List.getD_eq_getElem?_getD,List.getElem?_eq_getElem hll1]; exact List.getElem_mem hll1
    obtain ⟨s0,hs0⟩ : ∃ s0,l.getD 0 [] = s0 := ⟨_,rfl⟩
    obtain ⟨st,hst⟩ : ∃ st,l.getD (l.length - 1) [] = st := ⟨_,rfl⟩
    rw [hs0] at g0 hh m0
    rw [hst] at gl ht mt
    have el : IntKind.i64.wrap ((l.length : Int) - 1) = ((l.length - 1 : Nat) : Int) := by rw [wrap64 (by omega) (by omega)]; omega
    have d0 : ((l.length - 1 : Nat) : Int) < l.length := by omega
    have d00 : (0 : Int) < l.length := by omega
    have h71 := s71 (a.map Sp.pad) n n1 n4 Y Yl
    rw [vec_eq,yt] at h71
    simp only [List.getD_cons_zero,List.getD_cons_succ,taskV_eq,vec_eq,htc,htl,Ym,Yl,gY,gM,hd3,gX,Xl,Xm,List.set_cons_succ,List.set_cons_zero,w28T0,z0,g0,d00,go_sem,Nat.reduceEqDiff,Nat.reduceAdd,Nat.reduceLT,Nat.reduceLeDiff,reduceIte,reduceCtorEq]
    refine ⟨htA,acY,Int.le_refl _,CallKD.by (CallV.of_spec (first := []) (cap := []) (Spec.lift (s22 false false false false s0 x (hls s0 m0).1) (by simp [bndL,AVal.bnd,mI_bnd]) rfl _)) fun v H' ⟨hv,hH⟩ => ?_⟩
    subst hv hH
    cases h0 : (s0 == x) with
    | false =>
      simp only [go_sem,Nat.reduceEqDiff,Nat.reduceAdd,Nat.reduceLT,Nat.reduceLeDiff,reduceIte,reduceCtorEq]
      refine leaf2 (.tup [B false,I 0]) ⟨rfl,rfl,trivial⟩ ⟨rfl,.inr ⟨hok,false,rfl,fun h => (by cases h),fun h => ?_⟩⟩
      have := h.1
      rw [hh] at this
      rw [beq_eq_false_iff_ne] at h0
      exact absurd (Option.some.inj this) h0
    | true =>
    simp only [el,gl,d0,gM,gY,Ym,Yl,List.getElem?_cons_succ,List.getElem?_cons_zero,List.getD_cons_zero,List.getD_cons_succ,go_sem,Nat.reduceEqDiff,Nat.reduceAdd,Nat.reduceLT,Nat.reduceLeDiff,reduceIte,reduceCtorEq]
    refine ⟨by omega,by decide,CallKD.pure (fun H => liftV h71 (by simp [bndL,AVal.bnd,matV,mV_bnd,mI_bnd]) (by simp [AVal.bnd,mI_bnd]) H) ?_⟩
    simp only [go_sem,Nat.reduceEqDiff,Nat.reduceAdd,Nat.reduceLT,Nat.reduceLeDiff,reduceIte,reduceCtorEq]
    refine CallKD.by (CallV.of_spec (first := []) (cap := []) (Spec.lift (s22 false false false false st y (hls st mt).1) (by simp [bndL,AVal.bnd,mI_bnd]) rfl _)) fun v H' ⟨hv,hH⟩ => ?_
    subst hv hH
    cases h1 : (st == y) with
    | false =>
      simp only [go_sem,Nat.reduceEqDiff,Nat.reduceAdd,Nat.reduceLT,Nat.reduceLeDiff,reduceIte,reduceCtorEq]
      refine leaf2 (.tup [B false,I 0]) ⟨rfl,rfl,trivial⟩ ⟨rfl,.inr ⟨hok,false,rfl,fun h => (by cases h),fun h => ?_⟩⟩
      have := h.2.1
      rw [ht] at this
      rw [beq_eq_false_iff_ne] at h1
      exact absurd (Option.some.inj this) h1
    | true =>
    have e0 : s0 = x := eq_of_beq h0
    have e1 : st = y := eq_of_beq h1
    subst e0 e1
    simp only [w28T1,hd3,gX,Xm,htl,Xl,vec_eq,List.set_cons_succ,List.set_cons_zero,go_sem,Nat.reduceEqDiff,Nat.reduceAdd,Nat.reduceLT,Nat.reduceLeDiff,reduceIte,reduceCtorEq]
    refine ⟨acX,W_loop (fun q : { q : Nat × List Int // q.1 ≤ l.length ∧ (∀ k,k < q.1 → stepOk a l k) ∧ (0 < q.1 → q.2 = Sp.pad (l.getD (q.1 - 1) [])) ∧ q.2.length = 4 ∧ ∀ j,0 ≤ q.2.getD j 0 ∧ q.2.getD j 0 ≤ 6 + 16 * q.1 } =>
      ([(10,.ptr 0 0),(13,.ptr 1 0),(53,.sl false false (mS l)),(54,I l.length),(55,I q.1.1)],[.cells tc,.cells (mI q.1.2)])) (fun q => l.length - q.1.1)
      ⟨(0,X),by omega,fun k hk => absurd hk (by omega),fun h => absurd h (Nat.lt_irrefl 0),Xl,fun j => ⟨Sp.posV_get.1 pX j,by have := Sp.inB_getD bX j; show X.getD j 0 ≤ 6 + 16 * ((0 : Nat) : Int); omega⟩⟩ [some 0,some 2] (Wk.mk0 rfl (by simp [imgs,Blk.alive]) (by simp only [hle,csle]; simp [htb,mI_bnd,Xl,List.take_of_length_le]) (by simp [fle,vle,Fr.get,mS_bnd])) ?_⟩
    rintro ⟨⟨i,u⟩,hi,hst',hu,ul,ub⟩
    dsimp only at hi hst' hu ul ub ⊢
    by_cases hil : i < l.length
    rotate_left
    · have d1 : ¬ (i : Int) < l.length := by omega
      obtain rfl : i = l.length := by omega
      simp only [w28L2,w28T6,d1,decide_false,go_sem,Nat.reduceEqDiff,Nat.reduceAdd,Nat.reduceLT,Nat.reduceLeDiff,reduceIte,reduceCtorEq]
      exact leaf2 (.tup [B true,I 0]) ⟨rfl,rfl,trivial⟩ ⟨rfl,.inr ⟨hok,true,rfl,fun _ => ⟨hh,ht,hst'⟩,fun _ => rfl⟩⟩
    have d1 : (i : Int) < l.length := by omega
    have gi := mS_getD hil
    have ms : l.getD i [] ∈ l := by rw [List.getD_eq_getElem?_getD,List.getElem?_eq_getElem hil]; exact List.getElem_mem hil
    have hbad : ∀ P : Prop,¬ stepOk a l i → (WayOk a s0 st l → P) := fun P hn h => absurd (h.2.2 i hil) hn
    unfold stepOk at hbad
    obtain ⟨s,hs⟩ : ∃ s,l.getD i [] = s := ⟨_,rfl⟩
    rw [hs] at gi ms hbad
    rw [hn] at hbad
    obtain ⟨sln,sz⟩ := hls s ms
    simp only [w28L2,w28T3,d1,decide_true,gi,hd1,htl,List.drop_zero,go_sem,Nat.reduceEqDiff,Nat.reduceAdd,Nat.reduceLT,Nat.reduceLeDiff,reduceIte,reduceCtorEq]
    by_cases hsn : s.length = n
    rotate_left
    · have nb : ((s.length : Int) != (n : Int)) = true := by rw [bne_iff_ne]; omega
      simp only [nb,go_sem,Nat.reduceEqDiff,Nat.reduceAdd,Nat.reduceLT,Nat.reduceLeDiff,reduceIte,reduceCtorEq]
      exact leaf2 (.tup [B false,I 0]) ⟨rfl,rfl,trivial⟩ ⟨rfl,.inr ⟨hok,false,rfl,fun h => (by cases h),hbad _ fun h => hsn h.1⟩⟩
    have nb : ((s.length : Int) != (n : Int)) = false := by rw [hsn]; exact bne_self_eq_false _
    have sne : s ≠ [] := fun e => by rw [e] at hsn; simp at hsn; omega
    have h72 : Abs.Spec Try.prog 72 [.sl false false (mI s)] [] fun v H' => H' = [] ∧ v = I (Sp.minL s) := by
      cases s with
      | nil => exact absurd rfl sne
      | cons z zs => exact s72 false false z zs sln
    simp only [nb,go_sem,Nat.reduceEqDiff,Nat.reduceAdd,Nat.reduceLT,Nat.reduceLeDiff,reduceIte,reduceCtorEq]
    refine CallKD.by (CallV.of_spec (first := []) (cap := []) (Spec.lift h72 (by simp [bndL,AVal.bnd,mI_bnd]) rfl _)) fun v H' ⟨hv,hH⟩ => ?_
    subst hv hH
    cases hps : posV s with
    | false =>
      have mn : decide (Sp.minL s < 0) = true := decide_eq_true (by
        by_cases h : 0 ≤ Sp.minL s
        · rw [(minL_pos sne).2 h] at hps; cases hps
        · omega)
      simp only [mn,go_sem,Nat.reduceEqDiff,Nat.reduceAdd,Nat.reduceLT,Nat.reduceLeDiff,reduceIte,reduceCtorEq]
      exact leaf2 (.tup [B false,I 0]) ⟨rfl,rfl,trivial⟩ ⟨rfl,.inr ⟨hok,false,rfl,fun h => (by cases h),hbad _ fun h => by rw [h.2.1] at hps; cases hps⟩⟩
    | true =>
      have mn : decide (Sp.minL s < 0) = false := decide_eq_false (by have := (minL_pos sne).1 hps; omega)
      have h74 := s74 false false s (by omega)
      have ei : IntKind.i64.wrap ((i : Int) + 1) = ((i + 1 : Nat) : Int) := by rw [wrap64 (by omega) (by omega)]; omega
      have Spl : (Sp.pad s).length = 4 := Sp.pad_len (by omega)
      have hnxt : Sp.pad s = Sp.pad (l.getD (i + 1 - 1) []) := by rw [show i + 1 - 1 = i by omega,hs]
      have pps : posV (Sp.pad s) = true := by rw [Sp.posV_pad]; exact hps
      have sz0 : ∀ z ∈ Sp.pad s,0 ≤ z ∧ z < 9223372036854775808 := fun z hz => by
        unfold Sp.pad at hz
        unfold posV at hps
        rw [List.all_eq_true] at hps
        rcases List.mem_append.1 hz with hz | hz
        · exact ⟨of_decide_eq_true (hps z hz),sz z hz⟩
        · obtain ⟨-,rfl⟩ := List.mem_replicate.1 hz; decide
      obtain ⟨S,hS⟩ : ∃ S,Sp.pad s = S := ⟨_,rfl⟩
      rw [hS] at h74 Spl pps sz0
      have Sm : (mI S).length = 4 := by rw [mI_length,Spl]
      have Sl := Spl
      have acS := allI_cell S
      have gu : cut true 4 (mI u) = .agg (mI u) := cut_vec ul
      have um : (mI u).length = 4 := by rw [mI_length,ul]
      by_cases hi0 : 0 < i
      · have d2 : decide ((i : Int) > 0) = true := decide_eq_true (by omega)
        have h68 := s68g S u Spl ul sz0 fun j => ⟨(ub j).1,by have := (ub j).2; omega⟩
        obtain ⟨D,hD⟩ : ∃ D,plusV (-1) S u = D := ⟨_,rfl⟩
        have Dl : D.length = 4 := by rw [← hD]; exact plusV_len Spl ul
        have hnm := near_minus hB4 ul Spl pps
        rw [hD] at hnm h68
        have h73 := s73 false false bs hB4 D Dl (by omega)
        rw [vec_eq] at h74 h73
        rw [vec_eq,vec_eq,vec_eq] at h68
        simp only [mn,d2,hd2,htl,gu,List.getElem?_cons_succ,List.getElem?_cons_zero,go_sem,Nat.reduceEqDiff,Nat.reduceAdd,Nat.reduceLT,Nat.reduceLeDiff,reduceIte,reduceCtorEq]
        refine ⟨by decide,CallKD.pure (fun H => liftV h74 (by simp [bndL,AVal.bnd,mI_bnd]) (by simp [AVal.bnd,mI_bnd]) H) ?_⟩
        simp only [gu,um,ul,List.getElem?_cons_succ,List.getElem?_cons_zero,go_sem,Nat.reduceEqDiff,Nat.reduceAdd,Nat.reduceLT,Nat.reduceLeDiff,reduceIte,reduceCtorEq]
        refine ⟨by decide,CallKD.pure (fun H => liftV h68 (by simp [bndL,AVal.bnd,mI_bnd]) (by simp [AVal.bnd,mI_bnd]) H) ?_⟩
        simp only [List.getElem?_cons_succ,List.getElem?_cons_zero,go_sem,Nat.reduceEqDiff,Nat.reduceAdd,Nat.reduceLT,Nat.reduceLeDiff,reduceIte,reduceCtorEq]
        refine CallKD.by (CallV.of_spec (first := []) (cap := []) (Spec.lift h73 (by simp [bndL,AVal.bnd,mI_bnd,mV_bnd]) rfl _)) fun v H' ⟨hv,hH⟩ => ?_
        subst hv hH
        have hup := hu hi0
        cases hnb : (bs.any fun z => D == z) with
        | false =>
          rw [hnb] at hnm
          simp only [go_sem,Nat.reduceEqDiff,Nat.reduceAdd,Nat.reduceLT,Nat.reduceLeDiff,reduceIte,reduceCtorEq]
          refine leaf2 (.tup [B false,I 0]) ⟨rfl,rfl,trivial⟩ ⟨rfl,.inr ⟨hok,false,rfl,fun h => (by cases h),hbad _ fun h => ?_⟩⟩
          have h3 := h.2.2 hi0
          rw [← eN,← hup,hS] at h3
          exact absurd (hnm.2 h3) (by decide)
        | true =>
          have hnr := hnm.1 hnb
          have hall : ∀ k,k < i + 1 → stepOk a l k := fun k hk => by
            by_cases hki : k < i
            · exact hst' k hki
            · obtain rfl : k = i := by omega
              unfold stepOk; rw [hs,hn]; exact ⟨hsn,hps,fun _ => by rw [← eN,← hup,hS]; exact hnr⟩
          have hb' : ∀ j,0 ≤ S.getD j 0 ∧ S.getD j 0 ≤ 6 + 16 * ((i + 1 : Nat) : Int) := fun j => by
            obtain ⟨m,hm',e,-⟩ := mem_near.1 hnr
            have h1 := Sp.posV_get.1 pps j
            have h2 := (ub j).2
            have h3 := Sp.inB_getD (hB16 m hm') j
            have e1 := congrArg (fun l => l.getD j 0) e
            simp only [plusV_get ul (hB4 m hm')] at e1
            omega
          rw [hS] at hnxt
          simp only [go_sem,Nat.reduceEqDiff,Nat.reduceAdd,Nat.reduceLT,Nat.reduceLeDiff,reduceIte,reduceCtorEq]
          simp only [w28T4,go_sem,Nat.reduceEqDiff,Nat.reduceAdd,Nat.reduceLT,Nat.reduceLeDiff,reduceIte,reduceCtorEq]
          refine CallK.pure (liftV h74 (by simp [bndL,AVal.bnd,mI_bnd]) (by simp [AVal.bnd,vec,mI_bnd]) _) ?_
          simp only [vec_eq,Sm,Sl,ul,List.set_cons_succ,List.set_cons_zero,w28T5,ei,go_sem,Nat.reduceEqDiff,Nat.reduceAdd,Nat.reduceLT,Nat.reduceLeDiff,reduceIte,reduceCtorEq]
          rw [List.drop_of_length_le (by omega),List.append_nil]
          exact ⟨acS,round1 rfl ⟨(i + 1,S),hil,hall,fun _ => hnxt,Spl,hb'⟩ [some 0,some 1] (by dsimp only; omega) (Wk.mk0 rfl (by simp [imgs,Blk.alive]) (by simp only [hle,csle]; simp [htb,mI_bnd,imgs,Blk.alive]) (by simp [fle,vle,Fr.get,imgs,Blk.alive,mS_bnd]))⟩
      · have d2 : decide ((i : Int) > 0) = false := decide_eq_false (by omega)
        have hall : ∀ k,k < i + 1 → stepOk a l k := fun k hk => by
          by_cases hki : k < i
          · exact hst' k hki
          · obtain rfl : k = i := by omega
            unfold stepOk; rw [hs,hn]; exact ⟨hsn,hps,fun h => absurd h hi0⟩
        have hb' : ∀ j,0 ≤ S.getD j 0 ∧ S.getD j 0 ≤ 6 + 16 * ((i + 1 : Nat) : Int) := fun j => by
          obtain rfl : i = 0 := by omega
          have e : s = s0 := by rw [← hs,hs0]
          rw [← hS,e,hX]
          have h1 := Sp.inB_getD bX j
          have h2 := Sp.posV_get.1 pX j
          omega
        rw [hS] at hnxt
        simp only [mn,d2,go_sem,Nat.reduceEqDiff,Nat.reduceAdd,Nat.reduceLT,Nat.reduceLeDiff,reduceIte,reduceCtorEq]
        simp only [w28T4,go_sem,Nat.reduceEqDiff,Nat.reduceAdd,Nat.reduceLT,Nat.reduceLeDiff,reduceIte,reduceCtorEq]
        refine CallK.pure (liftV h74 (by simp [bndL,AVal.bnd,mI_bnd]) (by simp [AVal.bnd,vec,mI_bnd]) _) ?_
        simp only [vec_eq,Sm,Sl,ul,List.set_cons_succ,List.set_cons_zero,w28T5,ei,go_sem,Nat.reduceEqDiff,Nat.reduceAdd,Nat.reduceLT,Nat.reduceLeDiff,reduceIte,reduceCtorEq]
        rw [List.drop_of_length_le (by omega),List.append_nil]
        exact ⟨acS,round1 rfl ⟨(i + 1,S),hil,hall,fun _ => hnxt,Spl,hb'⟩ [some 0,some 1] (by dsimp only; omega) (Wk.mk0 rfl (by simp [imgs,Blk.alive]) (by simp only [hle,csle]; simp [htb,mI_bnd,imgs,Blk.alive]) (by simp [fle,vle,Fr.get,imgs,Blk.alive,mS_bnd]))⟩
open Go.Abs AVal
open Go.Abs AVal
theorem s76 (L : List (List Int)) (x : List Int) (hL : L.length < 9223372036854775808) (hx : x.length < 9223372036854775808) : Abs.Spec Try.prog 76 [.sl false false (mS L),.sl false false (mI x)] [] fun v H' => H' = [] ∧ v = B (L.contains x) := by
  refine Abs.Spec.walk mixed fn76 nn76 t76 q76 nt76 (by simp) ?_
  simp only [w76,go_sem,Nat.reduceEqDiff,Nat.reduceAdd,Nat.reduceLT,Nat.reduceLeDiff,reduceIte,reduceCtorEq]
  refine W_loop (fun q : { q : List (List Int) × List (List Int) // q.1 ++ q.2 = L ∧ q.2.contains x = L.contains x } => ([(1,.sl false false (mI x)),(7,.sl false false (mS L)),(8,I L.length),(9,I q.1.1.length)],[])) (fun q => q.1.2.length) ⟨([],L),rfl,rfl⟩ [] (Wk.nil (by simp [fle,vle,Fr.get,mS_bnd,mI_bnd])) ?_
  rintro ⟨⟨pre,suf⟩,hp,hinv⟩
  dsimp only at hp hinv
  subst hp
  cases suf with
  | nil =>
    simp only [w76L0,w76T1,go_sem,Nat.reduceEqDiff,Nat.reduceAdd,Nat.reduceLT,Nat.reduceLeDiff,reduceIte,reduceCtorEq]
    exact leaf (B false) rfl ⟨rfl,by rw [List.append_nil] at hinv; rw [← hinv]; rfl⟩
  | cons y suf =>
    have hw := rng_idx' hL
    simp only [w76L0,go_sem,Nat.reduceEqDiff,Nat.reduceAdd,Nat.reduceLT,Nat.reduceLeDiff,reduceIte,reduceCtorEq]
    by_cases hlen : x.length = y.length
    · have e1 : ((x.length : Int) == (y.length : Int)) = true := by rw [hlen]; simp
      simp only [e1,go_sem,Nat.reduceEqDiff,Nat.reduceAdd,Nat.reduceLT,Nat.reduceLeDiff,reduceIte,reduceCtorEq]
      refine CallK.pure (liftV (s75 false false false false x y hlen hx) (by simp [bndL,AVal.bnd,mI_bnd]) rfl _) ?_
      cases hc : x == y with
      | true =>
        simp only [go_sem,Nat.reduceEqDiff,Nat.reduceAdd,Nat.reduceLT,Nat.reduceLeDiff,reduceIte,reduceCtorEq]
        exact leaf (B true) rfl ⟨rfl,by rw [← hinv,List.contains_cons,hc]; rfl⟩
      | false =>
        simp only [hw,go_sem,Nat.reduceEqDiff,Nat.reduceAdd,Nat.reduceLT,Nat.reduceLeDiff,reduceIte,reduceCtorEq]
        refine round0 rfl ⟨(pre ++ [y],suf),by simp,by rw [← hinv,List.contains_cons,hc,Bool.false_or]⟩ (by simp) rfl ?_
        simp [fle,vle,Fr.get,mS_bnd,mI_bnd]
    · have e1 : ((x.length : Int) == (y.length : Int)) = false := beq_eq_false_iff_ne.2 (by omega)
      have hc : (x == y) = false := beq_eq_false_iff_ne.2 fun e => hlen (by rw [e])
      simp only [e1,hw,go_sem,Nat.reduceEqDiff,Nat.reduceAdd,Nat.reduceLT,Nat.reduceLeDiff,reduceIte,reduceCtorEq]
      refine round0 rfl ⟨(pre ++ [y],suf),by simp,by rw [← hinv,List.contains_cons,hc,Bool.false_or]⟩ (by simp) rfl ?_
      simp [fle,vle,Fr.get,mS_bnd,mI_bnd]
open Go.Abs AVal
def tabv (ix : Nat → Nat) (bk : Nat → List (List Int)) (k : Nat) : AVal := if (bk k).length = 0 then nilSl else .own (ix k) 0 (bk k).length (bk k).length 1
def tabC (ix : Nat → Nat) (bk : Nat → List (List Int)) (K : Nat) : List AVal := (List.range K).map (tabv ix bk)
structure P1 (mv : List Int → Bool) (M n : Nat) (r : Int) (x : List Int) (ix : Nat → Nat) (bk : Nat → List (List Int)) (H : AHeap) : Prop where
  h0 : H[0]? = some (.cells (tabC ix bk (4 * M + 1)))
  h1 : H[1]? = some (.cells (mI x))
  hk : ∀ k,k < 4 * M + 1 → (bk k).length ≠ 0 → H[ix k]? = some (.cells (mS (bk k)))
  h2 : ∀ k,k < 4 * M + 1 → (bk k).length ≠ 0 → 2 ≤ ix k
  inj : ∀ k j,k < 4 * M + 1 → j < 4 * M + 1 → (bk k).length ≠ 0 → (bk j).length ≠ 0 → ix k = ix j → k = j
  ok : HOk (fun _ _ => False) H
  bu : ∀ k,k < 4 * M + 1 → Sp.Buck mv M n r k (bk k)
structure S1 (mv : List Int → Bool) (M n : Nat) : Type where
  done : Bool
  x : List Int
  r : Int
  ix : Nat → Nat
  bk : Nat → List (List Int)
  H : AHeap
  hx : x.length = n
  p : P1 mv M n r x ix bk H
  hd : done = false → Sp.inB M x ∧ Sp.odo M x = r
  he : done = true → r = (2 * (M : Int) + 1) ^ n
structure S3 (mv : List Int → Bool) (M n : Nat) (r : Int) (x : List Int) : Type where
  m : Nat
  ix : Nat → Nat
  bk : Nat → List (List Int)
  H : AHeap
  hm : m ≤ n
  p : P1 mv M n (r + 1) (x.take m ++ List.replicate (n - m) (-(M : Int))) ix bk H
  hd : x.drop m = List.replicate (n - m) (M : Int)
def atV : Nat → AVal
  | 0 => I (-1)
  | p + 1 => I p
theorem tab_nil (K : Nat) : tabC (fun _ => 0) (fun _ => []) K = List.replicate K nilSl := by
  rw [List.eq_replicate_iff]
  refine ⟨by simp [tabC],fun b hb => ?_⟩
  obtain ⟨k,-,rfl⟩ := List.mem_map.1 hb
  rfl
theorem tab_len (ix : Nat → Nat) (bk : Nat → List (List Int)) (K : Nat) : (tabC ix bk K).length = K := by simp [tabC]
theorem tab_hd {ix : Nat → Nat} {bk : Nat → List (List Int)} {k K : Nat} (h : k < K) : ((tabC ix bk K).drop k).headD any = tabv ix bk k := by
  rw [List.drop_eq_getElem_cons (by rw [tab_len]; exact h)]
  simp [tabC]
theorem rep_bnd {K : Nat} : bndL 0 (List.replicate K nilSl) = true := by
  induction K with
  | zero => rfl
  | succ K ih => rw [List.replicate_succ]; simp only [bndL,ih]; rfl
theorem fill_put {i n : Nat} (h : i < n) (v : Int) : List.take i (List.replicate i v ++ List.replicate (n - i) 0) ++ [v] ++ List.drop (i + 1) (List.replicate i v ++ List.replicate (n - i) 0) = List.replicate (i + 1) v ++ List.replicate (n - (i + 1)) 0 := by
  rw [List.take_left' (by simp),List.drop_append,List.drop_of_length_le (by simp),List.nil_append,List.replicate_succ' (n := i),List.drop_replicate]
  congr 2
  simp; omega
theorem P1.setx {mv : List Int → Bool} {M n : Nat} {r : Int} {x x' : List Int} {ix : Nat → Nat} {bk : Nat → List (List Int)} {H : AHeap} (h : P1 mv M n r x ix bk H) : P1 mv M n r x' ix bk (H.set 1 (.cells (mI x'))) :=
  ⟨by rw [List.getElem?_set_ne (by omega)]; exact h.h0,by rw [List.getElem?_set_self (List.getElem?_eq_some_iff.1 h.h1).1],fun k hk hb => by
    have := h.h2 k hk hb
    rw [List.getElem?_set_ne (by omega)]; exact h.hk k hk hb,h.h2,h.inj,h.ok.set (by simp [blkN,mI_bnd]),h.bu⟩
def upd1 {α : Type} (f : Nat → α) (k : Nat) (v : α) : Nat → α := fun j => if j = k then v else f j
theorem upd1_self {α : Type} {f : Nat → α} {k : Nat} {v : α} : upd1 f k v k = v := if_pos rfl
theorem upd1_ne {α : Type} {f : Nat → α} {k j : Nat} {v : α} (h : j ≠ k) : upd1 f k v j = f j := if_neg h
theorem tab_put {ix : Nat → Nat} {bk : Nat → List (List Int)} {k K N : Nat} {x : List Int} (h : k < K) : List.take k (tabC ix bk K) ++ .own N 0 ((bk k).length + 1) ((bk k).length + 1) 1 :: List.drop (k + 1) (tabC ix bk K) = tabC (upd1 ix k N) (upd1 bk k (bk k ++ [x])) K := by
  have e : List.take k (tabC ix bk K) ++ .own N 0 ((bk k).length + 1) ((bk k).length + 1) 1 :: List.drop (k + 1) (tabC ix bk K) = (tabC ix bk K).set k (.own N 0 ((bk k).length + 1) ((bk k).length + 1) 1) := by
    rw [List.set_eq_take_append_cons_drop,if_pos (by rw [tab_len]; exact h)]
  rw [e]
  refine List.ext_getElem (by simp [tab_len]) fun j h1 h2 => ?_
  rw [List.getElem_set]
  split
  · rename_i hj
    subst hj
    simp [tabC,tabv,upd1_self]
  · rename_i hj
    have hj' : j ≠ k := fun e => hj e.symm
    simp [tabC,tabv,upd1_ne hj']
theorem mS_snoc' {l : List (List Int)} {x : List Int} : mS l ++ [.sl false false (mI x)] = mS (l ++ [x]) := by simp [mS,sI]
theorem tab_vid {ix : Nat → Nat} {bk : Nat → List (List Int)} {K N : Nat} (h : ∀ k,k < K → (bk k).length ≠ 0 → ix k < N) : (tabC ix bk K).all (vid N 2) = true := by
  rw [List.all_eq_true]
  intro v hv
  obtain ⟨k,hk,rfl⟩ := List.mem_map.1 hv
  unfold tabv
  split
  · rfl
  · rename_i hb
    have := h k (List.mem_range.1 hk) hb
    simp only [vid]
    exact decide_eq_true this
theorem P1.put {mv : List Int → Bool} {M n : Nat} {r : Int} {x : List Int} {ix : Nat → Nat} {bk : Nat → List (List Int)} {H Hb : AHeap} (hp : P1 mv M n r x ix bk H) {k : Nat} (hk : k < 4 * M + 1) (hx : x.length = n) (xb : Sp.inB M x) (xr : Sp.odo M x = r) (hmx : mv x = true) (hs : absSum x = k)
    (hHb : Hb = if (bk k).length = 0 then H else H.set (ix k) .dead) :
    P1 mv M n (r + 1) x (upd1 ix k (H.length + 3)) (upd1 bk k (bk k ++ [x])) (Hb.set 0 (.cells (tabC (upd1 ix k (H.length + 3)) (upd1 bk k (bk k ++ [x])) (4 * M + 1))) ++ [.dead,.dead,.dead,.cells (mS (bk k ++ [x]))]) ∧
    ∀ {fr fr' : Fr},(∀ p ∈ fr',fr.get p.1 = p.2 ∧ vid (H.length + 4) 3 p.2 = true) →
      Wk 0 [] (idρ (H.length + 4)) fr (Hb.set 0 (.cells (tabC (upd1 ix k (H.length + 3)) (upd1 bk k (bk k ++ [x])) (4 * M + 1))) ++ [.dead,.cells (mI x),.cells [.own (H.length + 1) 0 n n 1],.cells (mS (bk k) ++ [.own (H.length + 1) 0 n n 1])])
        fr' (Hb.set 0 (.cells (tabC (upd1 ix k (H.length + 3)) (upd1 bk k (bk k ++ [x])) (4 * M + 1))) ++ [.dead,.dead,.dead,.cells (mS (bk k ++ [x]))]) := by
  have lt : ∀ {j b},H[j]? = some b → j < H.length := fun hj => (List.getElem?_eq_some_iff.1 hj).1
  have hl0 := lt hp.h0
  have hl1 := lt hp.h1
  have hbl : Hb.length = H.length := by rw [hHb]; split <;> simp
  have hb0 : ∀ j,((bk k).length ≠ 0 → j ≠ ix k) → Hb[j]? = H[j]? := fun j hj => by
    rw [hHb]; split
    · rfl
    · rename_i h; rw [List.getElem?_set_ne (fun e => hj h e.symm)]
  have hbok : HOk (fun _ _ => False) Hb := by
    rw [hHb]; split
    · exact hp.ok
    · exact hp.ok.set trivial
  obtain ⟨T,hT⟩ : ∃ T,tabC (upd1 ix k (H.length + 3)) (upd1 bk k (bk k ++ [x])) (4 * M + 1) = T := ⟨_,rfl⟩
  have hTv : T.all (vid (H.length + 4) 2) = true := by
    rw [← hT]
    refine tab_vid fun j hj hb => ?_
    by_cases e : j = k
    · rw [e,upd1_self]; omega
    · rw [upd1_ne e] at hb ⊢
      have := lt (hp.hk j hj hb)
      omega
  rw [hT]
  have hset : HOk (fun _ _ => False) (Hb.set 0 (.cells T) ++ [.dead,.dead,.dead,.cells (mS (bk k ++ [x]))]) := by
    intro j b hj
    have hlen : (Hb.set 0 (Blk.cells T) ++ [Blk.dead,Blk.dead,Blk.dead,Blk.cells (mS (bk k ++ [x]))]).length = H.length + 4 := by simp [hbl]
    rw [hlen]
    rw [List.getElem?_append] at hj
    split at hj
    · rename_i hjl
      rw [List.length_set] at hjl
      rw [List.getElem?_set] at hj
      split at hj
      · split at hj
        · cases hj
          show (bndL 0 T || T.all (vid (H.length + 4) 2)) = true
          rw [hTv,Bool.or_true]
        · cases hj
      · exact (hbok j b hj).mono (by omega) fun _ _ h => h
    · rw [List.length_set] at hj
      obtain ⟨d,hd⟩ : ∃ d,j - Hb.length = d := ⟨_,rfl⟩
      rw [hd] at hj
      rcases d with _ | _ | _ | _ | d
      · cases hj; trivial
      · cases hj; trivial
      · cases hj; trivial
      · cases hj; simp [blkN,mS_bnd]
      · simp at hj
  refine ⟨⟨?_,?_,fun j hj hb => ?_,fun j hj hb => ?_,fun j l hj hl hb hc e => ?_,hset,fun j hj => ?_⟩,fun {fr fr'} hf => ?_⟩
  · rw [List.getElem?_append_left (by simp; omega),List.getElem?_set_self (by omega),hT]
  · rw [List.getElem?_append_left (by simp; omega),List.getElem?_set_ne (by omega),hb0 1 (fun h => by have := hp.h2 k hk h; omega)]
    exact hp.h1
  · by_cases e : j = k
    · subst e
      rw [upd1_self,upd1_self,show H.length + 3 = (Hb.set 0 (Blk.cells T)).length + 3 by rw [List.length_set,hbl],app_get]; rfl
    · rw [upd1_ne e] at hb ⊢
      rw [upd1_ne e]
      have h1 := hp.hk j hj hb
      have h2 := hp.h2 j hj hb
      have h3 := lt h1
      rw [List.getElem?_append_left (by simp; omega),List.getElem?_set_ne (by omega),hb0 _ fun hne he => e (hp.inj j k hj hk hb hne he)]
      exact h1
  · by_cases e : j = k
    · rw [e,upd1_self]; omega
    · rw [upd1_ne e] at hb ⊢; exact hp.h2 j hj hb
  · by_cases e1 : j = k
    · by_cases e2 : l = k
      · rw [e1,e2]
      · exfalso
        rw [e1,upd1_self,upd1_ne e2] at e
        rw [upd1_ne e2] at hc
        have := lt (hp.hk l hl hc)
        omega
    · by_cases e2 : l = k
      · exfalso
        rw [e2,upd1_self,upd1_ne e1] at e
        rw [upd1_ne e1] at hb
        have := lt (hp.hk j hj hb)
        omega
      · rw [upd1_ne e1] at hb
        rw [upd1_ne e2] at hc
        rw [upd1_ne e1,upd1_ne e2] at e
        exact hp.inj j l hj hl hb hc e
  · by_cases e : j = k
    · rw [e,upd1_self]; exact (hp.bu k hk).add xr hx xb hmx hs
    · rw [upd1_ne e]; exact (hp.bu j hj).skip xr hx xb (.inr fun h => e (by omega))
  · have hlen : (Hb.set 0 (Blk.cells T) ++ [Blk.dead,Blk.cells (mI x),Blk.cells [.own (H.length + 1) 0 n n 1],Blk.cells (mS (bk k) ++ [.own (H.length + 1) 0 n n 1])]).length = H.length + 4 := by simp [hbl]
    have hw := Wk.okF (B := 0) (H := Hb.set 0 (Blk.cells T) ++ [.dead,.cells (mI x),.cells [.own (H.length + 1) 0 n n 1],.cells (mS (bk k) ++ [.own (H.length + 1) 0 n n 1])]) (H' := Hb.set 0 (.cells T) ++ [.dead,.dead,.dead,.cells (mS (bk k ++ [x]))]) (fr := fr) (fr' := fr') (by simp) (fun j b hj => ?_) (Nat.zero_le _) (by rw [hlen]; exact hf)
    · rw [hlen] at hw; exact hw
    · have hbj := hset j b hj
      have hlen' : (Hb.set 0 (Blk.cells T) ++ [Blk.dead,Blk.dead,Blk.dead,Blk.cells (mS (bk k ++ [x]))]).length = H.length + 4 := by simp [hbl]
      rw [hlen'] at hbj
      rw [hlen]
      by_cases hjl : j < Hb.length
      · rw [List.getElem?_append_left (by simp; omega)] at hj
        refine .inr (.inl ⟨?_,hbj⟩)
        rw [List.getElem?_append_left (by simp; omega)]; exact hj
      · rw [List.getElem?_append_right (by simp; omega),List.length_set] at hj
        obtain ⟨d,hd⟩ : ∃ d,j - Hb.length = d := ⟨_,rfl⟩
        rw [hd] at hj
        rcases d with _ | _ | _ | _ | d
        · cases hj; exact .inl rfl
        · cases hj; exact .inl rfl
        · cases hj; exact .inl rfl
        · cases hj
          obtain rfl : j = (Hb.set 0 (Blk.cells T)).length + 3 := by rw [List.length_set]; omega
          refine .inr (.inr ⟨mS (bk k) ++ [.own (H.length + 1) 0 n n 1],_,rfl,by rw [app_get]; rfl,.inr ?_⟩)
          rw [← mS_snoc']
          refine vleL_app (vleL_same (N := H.length + 4) ?_) ⟨vle_mI (cs := mI x) ?_ (not_img ?_) hx.symm (List.take_of_length_le (by rw [mI_length]; omega)),trivial⟩
          · rw [List.all_eq_true]
            intro v hv
            obtain ⟨y,-,rfl⟩ := List.mem_map.1 hv
            simp [sI,vid,AVal.bnd,mI_bnd]
          · rw [show H.length + 1 = (Hb.set 0 (Blk.cells T)).length + 1 by rw [List.length_set,hbl],app_get]; rfl
          · rw [show H.length + 1 = (Hb.set 0 (Blk.cells T)).length + 1 by rw [List.length_set,hbl],app_get]; rfl
        · simp at hj
set_option maxRecDepth 20000 in
set_option maxHeartbeats 4000000 in
/-- The odometer goes one on. -/
theorem c50_carry {Q : QT} {ks : List Kont} {fr : Fr} {H0 : AHeap} {a : List (List Int)} {M K n : Nat} {mv : List Int → Bool} {x : List Int} {r : Int} (hx : x.length = n) (xb : Sp.inB M x) (xr : Sp.odo M x = r) (n1 : 1 ≤ n) (n4 : n ≤ 4) (hM : M ≤ 16) {ix : Nat → Nat} {bk : Nat → List (List Int)} {H : AHeap} (hp : P1 mv M n (r + 1) x ix bk H)
    (hw : Wk 0 [] (idρ H0.length) fr H0 [(0,.sl false false (mS a)),(3,I M),(4,.own 0 0 K K 1),(5,.own 1 0 n n 1),(9,I ((n - 1 : Nat) : Int))] H)
    (hk : ∀ (s : S1 mv M n) (fr' : Fr),s.r = r + 1 → (∀ p ∈ [(0,AVal.sl false false (mS a)),(3,I M),(4,.own 0 0 K K 1),(5,.own 1 0 n n 1),(7,B s.done)],fr'.get p.1 = p.2) → KQ ⟨Try.prog,0,126,true⟩ Q .norm ks fr' s.H []) :
    W ⟨Try.prog,0,126,true⟩ Q (.loop c50L3) (.block 4 :: .seq c50T4 :: ks) fr H0 [] := by
  have e3 : IntKind.i64.wrap (0 - (M : Int)) = -(M : Int) := by rw [wrap64 (by omega) (by omega)]; omega
  have en : atV n = I ((n - 1 : Nat) : Int) := by cases n with
    | zero => omega
    | succ n => rfl
  refine W_loop (fun q : S3 mv M n r x => ([(0,.sl false false (mS a)),(3,I M),(4,.own 0 0 K K 1),(5,.own 1 0 n n 1),(9,atV q.m)],q.H)) (fun q => q.m) ⟨n,ix,bk,H,Nat.le_refl _,by rw [Nat.sub_self,List.replicate_zero,List.append_nil,List.take_of_length_le (by omega)]; exact hp,by rw [Nat.sub_self,List.replicate_zero,List.drop_of_length_le (by omega)]⟩ (idρ H0.length) (by dsimp only; rw [en]; exact hw) ?_
  rintro ⟨m,ix,bk,H,hm,hp,hd⟩
  dsimp only
  have lt : ∀ {j b},H[j]? = some b → j < H.length := fun hj => (List.getElem?_eq_some_iff.1 hj).1
  have hl1 := lt hp.h1
  cases m with
  | zero =>
    have ea : atV 0 = I (-1) := rfl
    have z1 : decide ((-1 : Int) ≥ 0) = false := rfl
    have z2 : decide ((-1 : Int) < 0) = true := rfl
    rw [ea]
    simp only [w50L3,w50T4,z1,z2,go_sem,Nat.reduceEqDiff,Nat.reduceAdd,Nat.reduceLT,Nat.reduceLeDiff,reduceIte,reduceCtorEq]
    have hxr : x = List.replicate n (M : Int) := by rw [← List.drop_zero (l := x),hd,Nat.sub_zero]
    refine hk ⟨true,_,r + 1,ix,bk,H,by simp,hp,fun h => (by cases h),fun _ => ?_⟩ _ rfl (by simp [Fr.get])
    rw [← xr,hxr]; exact Sp.odo_last M n
  | succ p =>
    have ea : atV (p + 1) = I p := rfl
    rw [ea]
    have pn : p < n := by omega
    obtain ⟨x',hx'⟩ : ∃ x',x.take (p + 1) ++ List.replicate (n - (p + 1)) (-(M : Int)) = x' := ⟨_,rfl⟩
    have xl' : x'.length = n := by rw [← hx']; simp; omega
    have gp : x'.getD p 0 = x.getD p 0 := by
      rw [← hx',List.getD_eq_getElem?_getD,List.getElem?_append_left (by simp; omega),List.getElem?_take_of_lt (by omega),← List.getD_eq_getElem?_getD]
    have gx := mI_hd0 (l := x') (i := p) (by omega)
    rw [gp] at gx
    have gB : H[1]? = some (.cells (mI x')) := by rw [← hx']; exact hp.h1
    have d1 : (p : Int) < n := by omega
    have d2 : (0 : Int) ≤ p := by omega
    have d3 : p + 1 ≤ n := by omega
    have tp : x'.take p = x.take p := by rw [← hx',List.take_append_of_le_length (by simp; omega),List.take_take,Nat.min_eq_left (by omega)]
    have td : x'.drop (p + 1) = List.replicate (n - (p + 1)) (-(M : Int)) := by rw [← hx',List.drop_left' (by simp; omega)]
    by_cases hpm : x.getD p 0 = M
    · have z : ((x.getD p 0) == (M : Int)) = true := beq_iff_eq.2 hpm
      have ep : IntKind.i64.wrap ((p : Int) - 1) = (p : Int) - 1 := wrap64 (by omega) (by omega)
      have en : atV p = I ((p : Int) - 1) := by cases p with
        | zero => rfl
        | succ p => show I (p : Int) = _; congr 2; omega
      have exn : x'.take p ++ [-(M : Int)] ++ x'.drop (p + 1) = x.take p ++ List.replicate (n - p) (-(M : Int)) := by
        rw [tp,td,List.append_assoc,List.singleton_append,← List.replicate_succ]; congr 2; omega
      simp only [w50L3,gB,gx,d1,d2,d3,z,e3,xl',mI_length,ep,go_sem,Nat.reduceEqDiff,Nat.reduceAdd,Nat.reduceLT,Nat.reduceLeDiff,reduceIte,reduceCtorEq]
      rw [exn]
      have hp' := hp.setx (x' := x.take p ++ List.replicate (n - p) (-(M : Int)))
      refine roundN (LP := fun _ _ => False) hp'.ok (fun _ _ h => h.elim) (Nat.zero_le _) ⟨p,ix,bk,_,by omega,hp',?_⟩ (Nat.lt_succ_self p) rfl ?_
      · rw [List.drop_eq_getElem_cons (by omega),hd,show n - p = (n - (p + 1)) + 1 by omega,List.replicate_succ]
        congr 1
        rw [List.getD_eq_getElem?_getD,List.getElem?_eq_getElem (by omega)] at hpm
        exact hpm
      · have hl0 := lt hp.h0
        simp [Fr.get,vid,AVal.bnd,mS_bnd,hl0,hl1,en]
    · have z : ((x.getD p 0) == (M : Int)) = false := beq_eq_false_iff_ne.2 hpm
      have z3 : decide ((p : Int) < 0) = false := decide_eq_false (by omega)
      have bp := Sp.inB_getD xb p (by omega)
      have ev : IntKind.i64.wrap (x.getD p 0 + 1) = x.getD p 0 + 1 := wrap64 (by omega) (by omega)
      have exn : x'.take p ++ [x.getD p 0 + 1] ++ x'.drop (p + 1) = x.take p ++ [x.getD p 0 + 1] ++ List.replicate (n - (p + 1)) (-(M : Int)) := by rw [tp,td]
      simp only [w50L3,w50T4,gB,gx,d1,d2,d3,z,z3,e3,xl',mI_length,ev,go_sem,Nat.reduceEqDiff,Nat.reduceAdd,Nat.reduceLT,Nat.reduceLeDiff,reduceIte,reduceCtorEq]
      rw [exn]
      have hp' := hp.setx (x' := x.take p ++ [x.getD p 0 + 1] ++ List.replicate (n - (p + 1)) (-(M : Int)))
      have xs : x = x.take p ++ [x.getD p 0] ++ List.replicate (n - (p + 1)) (M : Int) := by
        rw [← hd]
        rw [List.append_assoc,List.singleton_append,List.getD_eq_getElem?_getD,List.getElem?_eq_getElem (by omega)]
        show x = x.take p ++ x[p] :: x.drop (p + 1)
        rw [← List.drop_eq_getElem_cons,List.take_append_drop]
      refine hk ⟨false,_,r + 1,ix,bk,_,by simp; omega,hp',fun _ => ⟨fun y hy => ?_,?_⟩,fun h => by cases h⟩ _ rfl (by simp [Fr.get])
      · simp only [List.mem_append,List.mem_singleton,List.mem_replicate] at hy
        rcases hy with (hy | hy) | hy
        · exact xb y (List.mem_of_mem_take hy)
        · omega
        · omega
      · rw [Sp.odo_next,← xs,xr]
def tabF (bk : Nat → List (List Int)) (K : Nat) : List AVal := (List.range K).map fun k => .sl false false (mS (bk k))
theorem tabF_bnd {bk : Nat → List (List Int)} {K N : Nat} : bndL N (tabF bk K) = true := bndL_map _ _ fun _ => by simp [AVal.bnd,mS_bnd]
theorem tabF_hd {bk : Nat → List (List Int)} {k K : Nat} (h : k < K) : ((tabF bk K).drop k).headD any = .sl false false (mS (bk k)) := by
  rw [List.drop_eq_getElem_cons (by simp [tabF]; exact h)]
  simp [tabF]
set_option maxRecDepth 20000 in
set_option maxHeartbeats 4000000 in
/-- One move is looked at. -/
theorem c50_in {Q : QT} {ks : List Kont} {fr : Fr} {F : List AVal} (Fb : ∀ {N},bndL N F = true) {n : Nat} (nl : n ≤ 4) {done o b : List (List Int)} {m : List Int} {i j L : Nat} (hL : L < 1000) (hj : j < 10000000) (ml : m.length = n) (hdone : ∀ y ∈ done,y.length = n) (hk : Sp.Kept n done o) (few : o.length ≤ 400)
    (hf : ∀ p ∈ [(10,AVal.own 1 0 o.length o.length 1),(14,.sl false false (mI m)),(15,B true),(90,.own 0 1 L L 1),(91,I L),(92,I i),(96,.sl false false (mS b)),(97,I b.length),(98,I j),(102,.own 1 0 o.length o.length 1),(103,I o.length),(104,I (0 : Nat))],fr.get p.1 = p.2)
    (hq : ∀ (o' : List (List Int)) (v : AVal) (fr' : Fr) (H' : AHeap),Sp.Kept n (done ++ [m]) o' → (v = .own 1 0 o'.length o'.length 1 ∧ H' = [.cells F,.cells (mS o')] ∨ v = .own 3 0 o'.length o'.length 1 ∧ H' = [.cells F,.dead,.cells [nilSl],.cells (mS o')]) →
      (∀ p ∈ [(10,v),(90,AVal.own 0 1 L L 1),(91,I L),(92,I i),(96,.sl false false (mS b)),(97,I b.length),(98,I ((j + 1 : Nat) : Int))],fr'.get p.1 = p.2) → KQ ⟨Try.prog,0,126,true⟩ Q .norm ks fr' H' []) :
    W ⟨Try.prog,0,126,true⟩ Q (.loop c50L8) (.block 10 :: .seq c50T9 :: .block 9 :: .seq c50T10 :: ks) fr [.cells F,.cells (mS o)] [] := by
  simp only [List.mem_cons,List.not_mem_nil,or_false,forall_eq_or_imp,forall_eq] at hf
  obtain ⟨f10,f14,f15,f90,f91,f92,f96,f97,f98,f102,f103,f104⟩ := hf
  refine W_loop (fun l : { l : Nat // l ≤ o.length } => ([(10,.own 1 0 o.length o.length 1),(14,.sl false false (mI m)),(15,B (okL (o.take l.1) m)),(90,.own 0 1 L L 1),(91,I L),(92,I i),(96,.sl false false (mS b)),(97,I b.length),(98,I j),(102,.own 1 0 o.length o.length 1),(103,I o.length),(104,I l.1)],[.cells F,.cells (mS o)])) (fun l => o.length - l.1) ⟨0,Nat.zero_le _⟩ [some 0,some 1] (Wk.mk0 rfl (by simp [imgs,Blk.alive]) (by simp [hle,csle,Fb,mS_bnd]) (by simp [fle,vle,f10,f14,f15,f90,f91,f92,f96,f97,f98,f102,f103,f104,mS_bnd,mI_bnd,okL])) ?_
  rintro ⟨l,hl⟩
  dsimp only at hl ⊢
  by_cases hlo : l < o.length
  · have x1 : decide ((l : Int) < o.length) = true := decide_eq_true (by omega)
    have x1' : (l : Int) < o.length := by omega
    obtain ⟨y,hy⟩ : ∃ y,o.getD l [] = y := ⟨_,rfl⟩
    have gy := mS_hd0 hlo
    rw [hy] at gy
    have yo : y ∈ o := by rw [← hy]; exact gd_mem' hlo
    have yl := hk.len y yo
    have otk : o.take (l + 1) = o.take l ++ [y] := by
      rw [List.take_add_one,List.getElem?_eq_getElem hlo,← hy,List.getD_eq_getElem?_getD,List.getElem?_eq_getElem hlo]; rfl
    have el : IntKind.i64.wrap ((l : Int) + 1) = ((l + 1 : Nat) : Int) := by rw [wrap64 (by omega) (by omega)]; omega
    have oks := okL_snoc (o.take l) y m
    rw [← otk] at oks
    have x5 : l + 1 ≤ o.length := hlo
    cases hok : okL (o.take l) m with
    | true =>
      rw [hok,Bool.true_and] at oks
      simp only [w50L8,x1,x1',gy,mS_length,x5,go_sem,Nat.reduceEqDiff,Nat.reduceAdd,Nat.reduceLT,Nat.reduceLeDiff,reduceIte,reduceCtorEq]
      refine CallK.pure (liftV (s26 false false false false y m (by omega) (by omega)) (by simp [bndL,AVal.bnd,mI_bnd]) rfl _) ?_
      simp only [el,go_sem,Nat.reduceEqDiff,Nat.reduceAdd,Nat.reduceLT,Nat.reduceLeDiff,reduceIte,reduceCtorEq]
      refine round1 rfl ⟨l + 1,hlo⟩ [some 0,some 1] (by dsimp only; omega) (Wk.mk0 rfl (by simp [imgs,Blk.alive]) (by simp [hle,csle,Fb,mS_bnd]) (by simp [fle,vle,Fr.get,mS_bnd,mI_bnd,oks]))
    | false =>
      rw [hok,Bool.false_and] at oks
      simp only [w50L8,x1,x1',gy,mS_length,x5,el,go_sem,Nat.reduceEqDiff,Nat.reduceAdd,Nat.reduceLT,Nat.reduceLeDiff,reduceIte,reduceCtorEq]
      refine round1 rfl ⟨l + 1,hlo⟩ [some 0,some 1] (by dsimp only; omega) (Wk.mk0 rfl (by simp [imgs,Blk.alive]) (by simp [hle,csle,Fb,mS_bnd]) (by simp [fle,vle,Fr.get,mS_bnd,mI_bnd,oks]))
  · have x1 : decide ((l : Int) < o.length) = false := decide_eq_false (by omega)
    obtain rfl : l = o.length := by omega
    rw [List.take_length]
    have ej : IntKind.i64.wrap ((j : Int) + 1) = ((j + 1 : Nat) : Int) := by rw [wrap64 (by omega) (by omega)]; omega
    cases hok : okL o m with
    | true =>
      have hany : (o.any fun y => Sp.fitR y m) = false := by unfold okL at hok; simpa using hok
      simp only [w50L8,w50T9,x1,go_sem,Nat.reduceEqDiff,Nat.reduceAdd,Nat.reduceLT,Nat.reduceLeDiff,reduceIte,reduceCtorEq]
      have hno : m ∉ o := fun h => by
        rw [List.any_eq_false] at hany
        exact hany m h (Sp.fitR_refl m)
      refine CallK.by (CallV.of_spec (first := []) (cap := []) (s95 (.cells F) (by simp [blkOk,Fb]) (fun i _ => by simp [blkN,Fb]) (by simp [blkN,Fb]) o m n hk.len ml nl hk.asc hno (by omega))) fun v H' ⟨o',ol,oasc,omem,hv,hH⟩ => ?_
      subst hv hH
      simp only [w50T10,ej,List.getD_cons_zero,List.getD_cons_succ,go_sem,Nat.reduceEqDiff,Nat.reduceAdd,Nat.reduceLT,Nat.reduceLeDiff,reduceIte,reduceCtorEq]
      exact hq o' _ _ _ (hk.add hdone ml hany oasc omem) (.inr ⟨rfl,rfl⟩) (by simp [Fr.get])
    | false =>
      have hany : (o.any fun y => Sp.fitR y m) = true := by unfold okL at hok; simpa using hok
      simp only [w50L8,w50T9,w50T10,x1,ej,go_sem,Nat.reduceEqDiff,Nat.reduceAdd,Nat.reduceLT,Nat.reduceLeDiff,reduceIte,reduceCtorEq]
      exact hq o _ _ _ (hk.skip hdone ml hany) (.inl ⟨rfl,rfl⟩) (by simp [Fr.get])
set_option maxRecDepth 20000 in
set_option maxHeartbeats 4000000 in
/-- The second part: what no kept one fits into is kept. -/
theorem c50_two {a : List (List Int)} {M K n : Nat} (hm : Sp.mat a = true) (h16 : M ≤ 16) (hM : Sp.bnd (a.map Sp.pad) (a.getD 0 []).length ≤ M) (hn : (a.getD 0 []).length = n) (hK : 4 * M + 1 = K) {mv : List Int → Bool} (hmv : (fun x => a.all fun r => Sp.dotG 0 r x == 0) = mv)
    {x : List Int} {ix : Nat → Nat} {bk : Nat → List (List Int)} {H : AHeap} (hp : P1 mv M n ((2 * (M : Int) + 1) ^ n) x ix bk H) {fr : Fr} (hf : fr.get 4 = .own 0 0 K K 1) :
    W ⟨Try.prog,0,126,true⟩ (retA 0 r50 fun v H' => H' = [] ∧ v = .sl false false (mS (Sp.basL a))) c50T5 [] fr H [] := by
  have hB : ∀ k,k < 4 * M + 1 → Sp.Buck (fun x => a.all fun r => Sp.dotG 0 r x == 0) M (a.getD 0 []).length ((2 * M + 1) ^ (a.getD 0 []).length) k (bk k) := fun k hk => by rw [hmv,hn]; exact hp.bu k hk
  have hM1 : 1 ≤ M := by
    have : 1 ≤ Sp.bnd (a.map Sp.pad) (a.getD 0 []).length := by unfold Sp.bnd; split <;> (try split) <;> (try split) <;> omega
    omega
  have d1 : ¬ ((1 : Int) = K) := by omega
  have d2 : (1 : Int) ≤ K := by omega
  have t1 : Int.toNat 1 = 1 := rfl
  have eK : K - 1 = 4 * M := by omega
  have ix0 : ∀ k,k < K → (bk k).length ≠ 0 → ix k ∉ [0] := fun k hk hb h => by
    have := hp.h2 k (by omega) hb
    simp at h; omega
  obtain ⟨F,hF⟩ : ∃ F,tabF bk K = F := ⟨_,rfl⟩
  have Fb : ∀ {N},bndL N F = true := by rw [← hF]; exact tabF_bnd
  have Fl : F.length = K := by rw [← hF]; simp [tabF]
  have Fh : ∀ {k},k < K → (F.drop k).headD any = .sl false false (mS (bk k)) := fun h => by rw [← hF]; exact tabF_hd h
  simp only [w50T5,hf,d1,t1,eK,false_and,go_sem,Nat.reduceEqDiff,Nat.reduceAdd,Nat.reduceLT,Nat.reduceLeDiff,reduceIte,reduceCtorEq]
  refine ⟨⟨by omega,d2,.inr (by omega)⟩,?_⟩
  refine W_loop (fun q : { q : Nat × List (List Int) // q.1 ≤ 4 * M ∧ Sp.Kept n (Sp.catB bk q.1) q.2 } => ([(10,.own 1 0 q.1.2.length q.1.2.length 1),(90,.own 0 1 (4 * M) (4 * M) 1),(91,I (4 * M : Nat)),(92,I q.1.1)],[.cells F,.cells (mS q.1.2)])) (fun q => 4 * M - q.1.1) ⟨(0,[]),Nat.zero_le _,Sp.Kept.nil n⟩ [some 0,none] (Wk.mk0 rfl (by simp [imgs,Blk.alive]) ?_ (by simp [fle,vle,Fr.get])) ?_
  · refine ⟨?_,?_,trivial⟩
    · simp only [List.getElem?_cons_zero,Option.join_some,hp.h0]
      refine .inr ?_
      rw [hK,← hF]
      refine vleL_map fun k hk => ?_
      have hkK := List.mem_range.1 hk
      unfold tabv
      split
      · rename_i hb
        rw [List.length_eq_zero_iff.1 hb]
        exact ⟨rfl,rfl,rfl⟩
      · rename_i hb
        exact vle_mS (hp.hk k (by omega) hb) (by simpa [imgs,Blk.alive] using ix0 k hkK hb) rfl (List.take_of_length_le (by rw [mS_length]; omega))
    · rfl
  rintro ⟨⟨i,o⟩,hi,hk⟩
  dsimp only at hi hk ⊢
  by_cases hi4 : i < 4 * M
  · have z1 : decide ((i : Int) < (4 * M : Nat)) = true := decide_eq_true (by omega)
    have z1' : ((i : Int) < (4 * M : Nat)) := by omega
    have gF := Fh (k := 1 + i) (by omega)
    obtain ⟨b,hb⟩ : ∃ b,bk (i + 1) = b := ⟨_,rfl⟩
    rw [show 1 + i = i + 1 by omega] at gF
    rw [hb] at gF
    have hbb := hp.bu (i + 1) (by omega)
    rw [hb] at hbb
    have bl : (b.length : Int) ≤ 1185921 := by
      have := hbb.1
      obtain ⟨-,-,-,n4⟩ := Sp.mat_cols hm rfl
      have := Sp.pow_le n M (by omega) h16
      omega
    have cs := Sp.catB_succ bk i
    rw [hb] at cs
    obtain ⟨t,ht⟩ := Sp.catB_pre bk (i := i + 1) (N := 4 * M) (by omega)
    rw [cs] at ht
    have hall : ∀ y ∈ Sp.catB bk i ++ b,y.length = n := fun y hy => by
      rw [← hn]; exact Sp.mem_len hm hB (by rw [ht]; exact List.mem_append_left _ hy)
    have ei : IntKind.i64.wrap ((i : Int) + 1) = ((i + 1 : Nat) : Int) := by rw [wrap64 (by omega) (by omega)]; omega
    have z5 : i + 1 + 1 ≤ F.length := by omega
    have ai : 1 + i = i + 1 := by omega
    simp only [w50L6,z1,z1',ai,gF,go_sem,Nat.reduceEqDiff,Nat.reduceAdd,Nat.reduceLT,Nat.reduceLeDiff,reduceIte,reduceCtorEq]
    refine ⟨z5,?_⟩
    refine W_loop (fun q : { q : Nat × List (List Int) // q.1 ≤ b.length ∧ Sp.Kept n (Sp.catB bk i ++ b.take q.1) q.2 } => ([(10,.own 1 0 q.1.2.length q.1.2.length 1),(90,.own 0 1 (4 * M) (4 * M) 1),(91,I (4 * M : Nat)),(92,I i),(96,.sl false false (mS b)),(97,I b.length),(98,I q.1.1)],[.cells F,.cells (mS q.1.2)])) (fun q => b.length - q.1.1) ⟨(0,o),Nat.zero_le _,by rw [List.take_zero,List.append_nil]; exact hk⟩ [some 0,some 1] (Wk.mk0 rfl (by simp [imgs,Blk.alive]) (by simp [hle,csle,Fb,mS_bnd]) (by simp [fle,vle,Fr.get,mS_bnd])) ?_
    rintro ⟨⟨j,o⟩,hj,hk⟩
    dsimp only at hj hk ⊢
    by_cases hjb : j < b.length
    · have y1 : decide ((j : Int) < b.length) = true := decide_eq_true (by omega)
      have y1' : (j : Int) < b.length := by omega
      obtain ⟨m,hmm⟩ : ∃ m,b.getD j [] = m := ⟨_,rfl⟩
      have gm := mS_getD hjb
      rw [hmm] at gm
      have mb : m ∈ b := by rw [← hmm]; exact gd_mem' hjb
      have ml : m.length = n := hall m (List.mem_append_right _ mb)
      have hdone : ∀ y ∈ Sp.catB bk i ++ b.take j,y.length = n := fun y hy => hall y (by
        rcases List.mem_append.1 hy with h | h
        · exact List.mem_append_left _ h
        · exact List.mem_append_right _ (List.mem_of_mem_take h))
      have btk : b.take (j + 1) = b.take j ++ [m] := by
        rw [List.take_add_one,List.getElem?_eq_getElem hjb,← hmm,List.getD_eq_getElem?_getD,List.getElem?_eq_getElem hjb]; rfl
      have few : o.length ≤ 400 := by
        have hk' := hk
        rw [← hn] at hk'
        refine Sp.kept_few hm h16 hM hB (l := Sp.catB bk i ++ b.take j) (t := b.drop j ++ t) ?_ hk'
        rw [ht,List.append_assoc,List.append_assoc,← List.append_assoc (b.take j),List.take_append_drop]
      simp only [w50L7,y1,y1',gm,go_sem,Nat.reduceEqDiff,Nat.reduceAdd,Nat.reduceLT,Nat.reduceLeDiff,reduceIte,reduceCtorEq]
      refine c50_in (i := i) (j := j) (L := 4 * M) (b := b) Fb (by rw [← hn]; exact (Sp.mat_cols hm rfl).2.2.2) (by omega) (by omega) ml hdone hk few (by simp [Fr.get]) ?_
      intro o' v fr' H' hk' hv hf'
      simp only [List.mem_cons,List.not_mem_nil,or_false,forall_eq_or_imp,forall_eq] at hf'
      obtain ⟨f10,f90,f91,f92,f96,f97,f98⟩ := hf'
      rw [List.append_assoc,← btk] at hk'
      rcases hv with ⟨rfl,rfl⟩ | ⟨rfl,rfl⟩
      · exact round1 rfl ⟨(j + 1,o'),hjb,hk'⟩ [some 0,some 1] (by dsimp only; omega) (Wk.mk0 rfl (by simp [imgs,Blk.alive]) (by simp [hle,csle,Fb,mS_bnd]) (by simp [fle,vle,f10,f90,f91,f92,f96,f97,f98,mS_bnd]))
      · exact round1 rfl ⟨(j + 1,o'),hjb,hk'⟩ [some 0,some 3] (by dsimp only; omega) (Wk.mk0 rfl (by simp [imgs,Blk.alive]) (by simp [hle,csle,Fb,mS_bnd]) (by simp [fle,vle,f10,f90,f91,f92,f96,f97,f98,mS_bnd]))
    · have y1 : decide ((j : Int) < b.length) = false := decide_eq_false (by omega)
      obtain rfl : j = b.length := by omega
      rw [List.take_length,← cs] at hk
      simp only [w50L7,w50T11,y1,ei,go_sem,Nat.reduceEqDiff,Nat.reduceAdd,Nat.reduceLT,Nat.reduceLeDiff,reduceIte,reduceCtorEq]
      exact round1 rfl ⟨(i + 1,o),by omega,hk⟩ [some 0,some 1] (by dsimp only; omega) (Wk.mk0 rfl (by simp [imgs,Blk.alive]) (by simp [hle,csle,Fb,mS_bnd]) (by simp [fle,vle,Fr.get,mS_bnd]))
  · have z1 : decide ((i : Int) < (4 * M : Nat)) = false := decide_eq_false (by omega)
    obtain rfl : i = 4 * M := by omega
    simp only [w50L6,w50T12,z1,go_sem,Nat.reduceEqDiff,Nat.reduceAdd,Nat.reduceLT,Nat.reduceLeDiff,reduceIte,reduceCtorEq]
    rw [← hn] at hk
    have := hk.done hm hM (fun x => Sp.mem_all hm h16 hB) (Sp.all_size hm hB)
    exact leaf (.sl false false (mS o)) (vle_mS rfl (by simp) rfl (List.take_of_length_le (by rw [mS_length]; omega))) ⟨rfl,by rw [this]⟩
set_option maxRecDepth 20000 in
set_option maxHeartbeats 4000000 in
theorem C50_ok : C50 := by
  intro a ha hl hm
  refine Abs.Spec.walk mixed fn50 nn50 t50 q50 nt50 (by simp) ?_
  obtain ⟨h1,h2,h3⟩ := Sp.mat_spec hm
  obtain ⟨-,-,n1,n4⟩ := Sp.mat_cols hm rfl
  simp only [w50,go_sem,Nat.reduceEqDiff,Nat.reduceAdd,Nat.reduceLT,Nat.reduceLeDiff,reduceIte,reduceCtorEq]
  refine CallK.by (CallV.of_spec (first := []) (cap := []) (s93 false false a ha hl hm)) fun v H' ⟨hH,M,hM1,hM2,hv⟩ => ?_
  subst hH hv
  obtain ⟨K,hK⟩ : ∃ K,4 * M + 1 = K := ⟨_,rfl⟩
  obtain ⟨r0,hr0⟩ : ∃ r,a.getD 0 [] = r := ⟨_,rfl⟩
  obtain ⟨n,hn⟩ : ∃ n,r0.length = n := ⟨_,rfl⟩
  rw [hr0,hn] at n1 n4
  have e1 : IntKind.i64.wrap (4 * (M : Int)) = ((4 * M : Nat) : Int) := by rw [wrap64 (by omega) (by omega)]; omega
  have e2 : IntKind.i64.wrap (((4 * M : Nat) : Int) + 1) = (K : Int) := by rw [wrap64 (by omega) (by omega)]; omega
  have al : 0 < a.length := by omega
  have al' : (0 : Int) < a.length := by omega
  have g0 := mS_getD al
  rw [hr0] at g0
  simp only [e1,e2,g0,al',hn,go_sem,Nat.reduceEqDiff,Nat.reduceAdd,Nat.reduceLT,Nat.reduceLeDiff,reduceIte,reduceCtorEq]
  have e3 : IntKind.i64.wrap (0 - (M : Int)) = -(M : Int) := by rw [wrap64 (by omega) (by omega)]; omega
  refine ⟨⟨by omega,by omega,by omega⟩,by omega,⟨by omega,by omega,by omega⟩,?_⟩
  refine W_loop (fun q : { i : Nat // i ≤ n } => ([(0,.sl false false (mS a)),(3,I M),(4,.own 0 0 K K 1),(5,.own 1 0 n n 1),(30,I n),(31,I q.1)],[.cells (List.replicate K nilSl),.cells (mI (List.replicate q.1 (-(M : Int)) ++ List.replicate (n - q.1) 0))])) (fun q => n - q.1) ⟨0,by omega⟩ [some 0,some 1] (Wk.mk0 rfl (by simp [imgs,Blk.alive]) (by simp [hle,csle,mI_bnd,rep_bnd]) (by simp [fle,vle,Fr.get,mS_bnd])) ?_
  rintro ⟨i,hi⟩
  dsimp only at hi ⊢
  by_cases hin : i < n
  · have d1 : (i : Int) < n := by omega
    have e4 : IntKind.i64.wrap ((i : Int) + 1) = (i : Int) + 1 := wrap64 (by omega) (by omega)
    simp only [w50L0,d1,decide_true,e3,e4,go_sem,Nat.reduceEqDiff,Nat.reduceAdd,Nat.reduceLT,Nat.reduceLeDiff,reduceIte,reduceCtorEq]
    rw [fill_put hin]
    exact ⟨by simp; omega,round1 rfl ⟨i + 1,hin⟩ [some 0,some 1] (by dsimp only; omega) (Wk.mk0 rfl (by simp [imgs,Blk.alive]) (by simp [hle,csle,mI_bnd,rep_bnd]) (by simp [fle,vle,Fr.get,mS_bnd]))⟩
  · have d1 : ¬ (i : Int) < n := by omega
    obtain rfl : i = n := by omega
    rw [Nat.sub_self,List.replicate_zero,List.append_nil]
    simp only [w50L0,w50T1,d1,decide_false,go_sem,Nat.reduceEqDiff,Nat.reduceAdd,Nat.reduceLT,Nat.reduceLeDiff,reduceIte,reduceCtorEq]
    obtain ⟨mv,hmv⟩ : ∃ mv : List Int → Bool,(fun x => a.all fun r => Sp.dotG 0 r x == 0) = mv := ⟨_,rfl⟩
    have repl : (List.replicate i (-(M : Int))).length = i := List.length_replicate
    have st0 : P1 mv M i 0 (List.replicate i (-(M : Int))) (fun _ => 0) (fun _ => []) [.cells (List.replicate K nilSl),.cells (mI (List.replicate i (-(M : Int))))] :=
      ⟨by rw [hK,tab_nil]; rfl,rfl,fun k _ h => (h rfl).elim,fun k _ h => (h rfl).elim,fun k _ _ _ h => (h rfl).elim,fun j b hj => by
        rcases j with _ | _ | j
        · cases hj; simp [blkN,rep_bnd]
        · cases hj; simp [blkN,mI_bnd]
        · simp at hj,fun k _ => Sp.Buck.nil⟩
    refine W_loop (fun q : S1 mv M i => ([(0,.sl false false (mS a)),(3,I M),(4,.own 0 0 K K 1),(5,.own 1 0 i i 1),(7,B q.done)],q.H)) (fun q => ((2 * (M : Int) + 1) ^ i - q.r).toNat)
      ⟨false,List.replicate i (-(M : Int)),0,fun _ => 0,fun _ => [],_,repl,st0,fun _ => ⟨fun z hz => by rw [List.mem_replicate] at hz; omega,Sp.odo_first M i⟩,fun h => by cases h⟩ (idρ 2) (Wk.ok (LP := fun _ _ => False) st0.ok (fun _ _ h => h.elim) (Nat.zero_le _) (by simp [Fr.get,vid,AVal.bnd,mS_bnd]) fun _ h => by cases h) ?_
    rintro ⟨done,x,r,ix,bk,H,hx,hp,hd,he⟩
    dsimp only
    cases done with
    | true =>
      have hr := he rfl
      simp only [w50L2,go_sem,Nat.reduceEqDiff,Nat.reduceAdd,Nat.reduceLT,Nat.reduceLeDiff,reduceIte,reduceCtorEq]
      rw [hr] at hp
      exact c50_two hm hM2 hM1 (by rw [hr0,hn]) hK hmv hp rfl
    | false =>
      obtain ⟨xb,xr⟩ := hd rfl
      have hra : ∀ r ∈ a,r.length = x.length := fun r hr => by rw [(h3 r hr).1,hr0,hn,hx]
      have hxv : ∀ {ρ : List (Option Nat)},vle H ρ [] 3 (.own 1 0 i i 1) (.sl false false (mI x)) := vle_mI hp.h1 (by simp) hx.symm (List.take_of_length_le (by rw [mI_length]; omega))
      have h54 := s54 false false false false a x hra (by omega) (by omega)
      rw [show (a.all fun r => Sp.dotG 0 r x == 0) = mv x by rw [← hmv]] at h54
      simp only [w50L2,go_sem,Nat.reduceEqDiff,Nat.reduceAdd,Nat.reduceLT,Nat.reduceLeDiff,reduceIte,reduceCtorEq]
      refine CallK.pure (CallV.of_spec (first := []) (cap := []) (Spec.lend (args' := [.sl false false (mS a),.sl false false (mI x)]) h54 rfl ⟨⟨mS_bnd,fun h => h,fun h => h,rfl⟩,hxv,trivial⟩)) ?_
      have e5 : IntKind.i64.wrap ((i : Int) - 1) = ((i - 1 : Nat) : Int) := by rw [wrap64 (by omega) (by omega)]; omega
      have hlt := (Sp.odo_lt M i hx xb).2
      have hkk : ∀ (s : S1 mv M i) (fr' : Fr),s.r = r + 1 → (∀ p ∈ [(0,AVal.sl false false (mS a)),(3,I M),(4,.own 0 0 K K 1),(5,.own 1 0 i i 1),(7,B s.done)],fr'.get p.1 = p.2) →
          KQ ⟨Try.prog,0,126,true⟩ (retA 0 r50 fun v H' => H' = [] ∧ v = .sl false false (mS (Sp.basL a))) .norm [Kont.block 3,Kont.loop [] (fun q : S1 mv M i => ([(0,.sl false false (mS a)),(3,I M),(4,.own 0 0 K K 1),(5,.own 1 0 i i 1),(7,B q.done)],q.H)) (fun q => ((2 * (M : Int) + 1) ^ i - q.r).toNat) ⟨false,x,r,ix,bk,H,hx,hp,hd,he⟩,Kont.block 2,Kont.seq c50T5] fr' s.H [] := by
        intro s fr' hsr hf
        have l0 := (List.getElem?_eq_some_iff.1 s.p.h0).1
        have l1 := (List.getElem?_eq_some_iff.1 s.p.h1).1
        simp only [go_sem,Nat.reduceEqDiff,Nat.reduceAdd,Nat.reduceLT,Nat.reduceLeDiff,reduceIte,reduceCtorEq]
        refine roundN (LP := fun _ _ => False) s.p.ok (fun _ _ h => h.elim) (Nat.zero_le _) s (by dsimp only; omega) rfl fun p hp => ⟨hf p hp,?_⟩
        simp only [List.mem_cons,List.not_mem_nil,or_false] at hp
        rcases hp with rfl | rfl | rfl | rfl | rfl
        · simp [vid,AVal.bnd,mS_bnd]
        · rfl
        · simp only [vid]; exact decide_eq_true l0
        · simp only [vid]; exact decide_eq_true l1
        · rfl
      have lt : ∀ {j b},H[j]? = some b → j < H.length := fun hj => (List.getElem?_eq_some_iff.1 hj).1
      have hl0 := lt hp.h0
      have hl1 := lt hp.h1
      cases hmx : mv x with
      | false =>
        have hp' : P1 mv M i (r + 1) x ix bk H := ⟨hp.h0,hp.h1,hp.hk,hp.h2,hp.inj,hp.ok,fun k hk => (hp.bu k hk).skip xr hx xb (.inl hmx)⟩
        simp only [e5,go_sem,Nat.reduceEqDiff,Nat.reduceAdd,Nat.reduceLT,Nat.reduceLeDiff,reduceIte,reduceCtorEq]
        refine c50_carry (a := a) (K := K) hx xb xr n1 n4 hM2 hp' (Wk.ok (LP := fun _ _ => False) hp.ok (fun _ _ h => h.elim) (Nat.zero_le _) ?_ fun _ h => by cases h) hkk
        simp [Fr.get,vid,AVal.bnd,mS_bnd,hl0,hl1]
      | true =>
        simp only [go_sem,Nat.reduceEqDiff,Nat.reduceAdd,Nat.reduceLT,Nat.reduceLeDiff,reduceIte,reduceCtorEq]
        refine CallK.pure (CallV.of_spec (first := []) (cap := []) (Spec.lend (args' := [.sl false false (mI x)]) (s94 false false x (by omega) (Sp.inB_mono xb (by omega))) rfl ⟨hxv,trivial⟩)) ?_
        obtain ⟨k,hk⟩ : ∃ k : Nat,absSum x = k := ⟨(absSum x).toNat,by have := absSum_nn x; omega⟩
        have hkK : k < K := by
          have := absSum_le xb
          rw [hx] at this
          have := Int.mul_le_mul_of_nonneg_left (show (i : Int) ≤ 4 by omega) (show (0 : Int) ≤ M by omega)
          omega
        rw [hk]
        have d2 : (k : Int) < K := by omega
        have gA : ∀ L,(H ++ L)[0]? = some (.cells (tabC ix bk K)) := fun L => by rw [List.getElem?_append_left hl0,hp.h0,hK]
        have gB : ∀ L,(H ++ L)[1]? = some (.cells (mI x)) := fun L => by rw [List.getElem?_append_left hl1,hp.h1]
        have gE : ∀ L b,(H ++ L).set 0 b = H.set 0 b ++ L := fun L b => List.set_append_left _ _ hl0
        have gh := tab_hd (ix := ix) (bk := bk) hkK
        have d3 : k + 1 ≤ K := hkK
        have gx : List.take i (mI x) = mI x := List.take_of_length_le (by rw [mI_length]; omega)
        have d4 : ¬ i ≤ 0 := by omega
        have blen : ((bk k).length : Int) ≤ 1185921 := by
          have := (hp.bu k (by omega)).1
          have := Sp.pow_le i M n4 hM2
          omega
        have htp := tab_put (ix := ix) (bk := bk) (N := H.length + 3) (x := x) hkK
        obtain ⟨Hb,hHb⟩ : ∃ Hb,Hb = if (bk k).length = 0 then H else H.set (ix k) .dead := ⟨_,rfl⟩
        have hbl : Hb.length = H.length := by rw [hHb]; split <;> simp
        obtain ⟨hp',hwk⟩ := hp.put (Hb := Hb) (by omega) hx xb xr hmx hk hHb
        rw [hK] at hwk hp'
        have fin : ∀ {fr : Fr},(∀ p ∈ [(0,AVal.sl false false (mS a)),(3,I M),(4,.own 0 0 K K 1),(5,.own 1 0 i i 1),(9,I ((i - 1 : Nat) : Int))],fr.get p.1 = p.2) →
            W ⟨Try.prog,0,126,true⟩ (retA 0 r50 fun v H' => H' = [] ∧ v = .sl false false (mS (Sp.basL a))) (.loop c50L3) [Kont.block 4,Kont.seq c50T4,Kont.block 3,Kont.loop [] (fun q : S1 mv M i => ([(0,.sl false false (mS a)),(3,I M),(4,.own 0 0 K K 1),(5,.own 1 0 i i 1),(7,B q.done)],q.H)) (fun q => ((2 * (M : Int) + 1) ^ i - q.r).toNat) ⟨false,x,r,ix,bk,H,hx,hp,hd,he⟩,Kont.block 2,Kont.seq c50T5] fr
              (List.set Hb 0 (Blk.cells (List.take k (tabC ix bk K) ++ own (H.length + 3) 0 ((bk k).length + 1) ((bk k).length + 1) 1 :: List.drop (k + 1) (tabC ix bk K))) ++ [Blk.dead,Blk.cells (mI x),Blk.cells [own (H.length + 1) 0 i i 1],Blk.cells (mS (bk k) ++ [own (H.length + 1) 0 i i 1])]) [] := by
          intro fr hf
          rw [htp]
          have hlen : (List.set Hb 0 (Blk.cells (tabC (upd1 ix k (H.length + 3)) (upd1 bk k (bk k ++ [x])) K)) ++ [Blk.dead,Blk.cells (mI x),Blk.cells [own (H.length + 1) 0 i i 1],Blk.cells (mS (bk k) ++ [own (H.length + 1) 0 i i 1])]).length = H.length + 4 := by simp [hbl]
          refine c50_carry (a := a) (K := K) hx xb xr n1 n4 hM2 hp' ?_ hkk
          rw [hlen]
          refine hwk fun p hp => ⟨hf p hp,?_⟩
          simp only [List.mem_cons,List.not_mem_nil,or_false] at hp
          rcases hp with rfl | rfl | rfl | rfl | rfl
          · simp [vid,AVal.bnd,mS_bnd]
          · rfl
          · simp [vid]
          · simp [vid]
          · rfl
        have b8 : i * 8 ≤ 2 ^ 40 := by omega
        by_cases hbk : (bk k).length = 0
        · have gv : tabv ix bk k = nilSl := by unfold tabv; rw [if_pos hbk]
          have hmk : mS (bk k) = [] := by rw [List.length_eq_zero_iff.1 hbk]; rfl
          rw [if_pos hbk] at hHb
          subst hHb
          rw [hbk,hmk,List.nil_append,Nat.zero_add] at fin
          simp only [d2,d4,gA,gB,gE,gh,gv,tab_len,d3,hx,gx,e5,List.append_assoc,List.cons_append,List.nil_append,List.length_append,List.length_cons,List.length_nil,app_get,app_get0,app_set,app_set0,List.getElem?_cons_succ,List.getElem?_cons_zero,List.set_cons_succ,List.set_cons_zero,go_sem,Nat.reduceEqDiff,Nat.reduceAdd,Nat.reduceLT,Nat.reduceLeDiff,reduceIte,reduceCtorEq]
          refine ⟨⟨b8,by decide,fin ?_⟩,⟨b8,by decide,fin ?_⟩,b8,⟨by decide,fin ?_⟩,by decide,fin ?_⟩ <;> simp [Fr.get]
        · have gv : tabv ix bk k = .own (ix k) 0 (bk k).length (bk k).length 1 := by unfold tabv; rw [if_neg hbk]
          have hik := hp.hk k (by omega) hbk
          have hi2 := hp.h2 k (by omega) hbk
          have hil := lt hik
          rw [if_neg hbk] at hHb
          subst hHb
          have gC : ∀ L,(H ++ L)[ix k]? = some (.cells (mS (bk k))) := fun L => by rw [List.getElem?_append_left hil,hik]
          have gD : ∀ L b,(H ++ L).set (ix k) b = H.set (ix k) b ++ L := fun L b => List.set_append_left _ _ hil
          have gF : ∀ L,(H.set (ix k) .dead ++ L)[0]? = some (.cells (tabC ix bk K)) := fun L => by rw [List.getElem?_append_left (by simpa using hl0),List.getElem?_set_ne (by omega),hp.h0,hK]
          have gG : ∀ L b,(H.set (ix k) .dead ++ L).set 0 b = (H.set (ix k) .dead).set 0 b ++ L := fun L b => List.set_append_left _ _ (by simpa using hl0)
          have gI : ∀ (L : AHeap) j,(H.set (ix k) .dead ++ L)[H.length + j]? = L[j]? := fun L j => by rw [show H.length + j = (H.set (ix k) Blk.dead).length + j by simp,app_get]
          have gJ : ∀ (L : AHeap) j b,(H.set (ix k) .dead ++ L).set (H.length + j) b = H.set (ix k) .dead ++ L.set j b := fun L j b => by rw [show H.length + j = (H.set (ix k) Blk.dead).length + j by simp,app_set]
          simp only [d2,d4,gA,gB,gC,gD,gE,gF,gG,gI,gJ,gh,gv,tab_len,d3,hx,gx,e5,List.append_assoc,List.cons_append,List.nil_append,List.length_append,List.length_cons,List.length_nil,app_get,app_get0,app_set,app_set0,List.getElem?_cons_succ,List.getElem?_cons_zero,List.set_cons_succ,List.set_cons_zero,go_sem,Nat.reduceEqDiff,Nat.reduceAdd,Nat.reduceLT,Nat.reduceLeDiff,reduceIte,reduceCtorEq]
          have b24 : ((bk k).length + 1) * 24 ≤ 2 ^ 40 := by omega
          refine ⟨⟨b8,b24,fin ?_⟩,⟨b8,b24,fin ?_⟩,b8,⟨b24,fin ?_⟩,b24,fin ?_⟩ <;> simp [Fr.get]
open Go.Abs AVal
def stepOk2 (a : List (List Int)) (x : List Int) (l : List (List Int)) (i : Nat) : Prop :=
  (l.getD i []).length = (a.getD 0 []).length ∧ Sp.numbers (l.getD i []) 0 1000000 = true ∧ (i = 0 → l.getD i [] = x) ∧ (0 < i → plusV (-1) (l.getD i []) (l.getD (i - 1) []) ∈ Sp.basL a)
def WayOk2 (a : List (List Int)) (x y : List Int) (l : List (List Int)) : Prop := 0 < l.length ∧ (∀ i,i < l.length → stepOk2 a x l i) ∧ l.getD (l.length - 1) [] = y
theorem mem_getD {l : List (List Int)} {i : Nat} (h : i < l.length) : l.getD i [] ∈ l := by
  rw [List.getD_eq_getElem?_getD,List.getElem?_eq_getElem h]; exact List.getElem_mem h
theorem numbers_mem {s : List Int} {lo hi : Int} (h : Sp.numbers s lo hi = true) : ∀ z ∈ s,lo ≤ z ∧ z ≤ hi := fun z hz => by
  unfold Sp.numbers at h
  rw [List.all_eq_true] at h
  have := h z hz
  simpa using this
set_option maxRecDepth 20000 in
set_option maxHeartbeats 4000000 in
theorem s29 (a : List (List Int)) (x y : List Int) (l : List (List Int)) (ha : ∀ l ∈ a,l.length < 9223372036854775808) (hl : a.length < 9223372036854775808) (hm : Sp.mat a = true) (xl : x.length = (a.getD 0 []).length) (yl : y.length = (a.getD 0 []).length)
    (hll : l.length ≤ 250) (hls : ∀ s ∈ l,s.length < 9223372036854775808) :
    Abs.Spec Try.prog 29 [.sl false false (mS a),.sl false false (mI x),.sl false false (mI y),.sl false false (mS l)] [] fun v H' => H' = [] ∧ ∃ b,v = B b ∧ (b = true ↔ WayOk2 a x y l) := by
  refine Abs.Spec.walk mixed fn29 nn29 t29 q29 nt29 (by simp) ?_
  obtain ⟨r1,r2,n1,n4⟩ := mat_rows hm
  have h50 := C50_ok a ha hl hm
  obtain ⟨L,hL⟩ : ∃ L,Sp.basL a = L := ⟨_,rfl⟩
  have hLl : L.length ≤ 400 := by rw [← hL]; exact Sp.ans_len hm (Sp.basB_is _ _)
  have h50' : Abs.Spec Try.prog 50 [.sl false false (mS a)] [] fun v H' => H' = [] ∧ v = .sl false false (mS (Sp.basL a)) := h50
  rw [hL] at h50'
  simp only [w29,go_sem,Nat.reduceEqDiff,Nat.reduceAdd,Nat.reduceLT,Nat.reduceLeDiff,reduceIte,reduceCtorEq]
  refine CallK.pure (liftV h50' (by simp [bndL,AVal.bnd,mS_bnd]) (by simp [AVal.bnd,mS_bnd]) _) ?_
  simp only [go_sem,Nat.reduceEqDiff,Nat.reduceAdd,Nat.reduceLT,Nat.reduceLeDiff,reduceIte,reduceCtorEq]
  refine W_loop (fun q : { i : Nat // i ≤ l.length ∧ ∀ k,k < i → stepOk2 a x l k } => ([(1,.sl false false (mI x)),(2,.sl false false (mI y)),(3,.sl false false (mS l)),(9,.sl false false (mS L)),(14,.sl false false (mS l)),(15,I l.length),(16,I q.1)],[])) (fun q => l.length - q.1) ⟨0,by omega,fun k hk => absurd hk (Nat.not_lt_zero k)⟩ [] (Wk.nil (by simp [fle,vle,Fr.get,mS_bnd,mI_bnd])) ?_
  rintro ⟨i,hi,hst⟩
  dsimp only
  by_cases hil : i < l.length
  rotate_left
  · have d1 : ¬ (i : Int) < l.length := by omega
    obtain rfl : i = l.length := by omega
    by_cases h0 : 0 < l.length
    · have d2 : decide ((l.length : Int) > 0) = true := decide_eq_true (by omega)
      have hll1 : l.length - 1 < l.length := by omega
      have gl := mS_getD hll1
      have el : IntKind.i64.wrap ((l.length : Int) - 1) = ((l.length - 1 : Nat) : Int) := by rw [wrap64 (by omega) (by omega)]; omega
      have d0 : ((l.length - 1 : Nat) : Int) < l.length := by omega
      have tl := (hst _ hll1).1
      have tm := mem_getD hll1
      obtain ⟨t,ht⟩ : ∃ t,l.getD (l.length - 1) [] = t := ⟨_,rfl⟩
      rw [ht] at gl tl tm
      simp only [w29L0,w29T3,d1,decide_false,d2,el,gl,d0,go_sem,Nat.reduceEqDiff,Nat.reduceAdd,Nat.reduceLT,Nat.reduceLeDiff,reduceIte,reduceCtorEq]
      refine CallK.pure (liftV (s75 false false false false t y (by omega) (by omega)) (by simp [bndL,AVal.bnd,mI_bnd]) rfl _) ?_
      simp only [go_sem,Nat.reduceEqDiff,Nat.reduceAdd,Nat.reduceLT,Nat.reduceLeDiff,reduceIte,reduceCtorEq]
      refine leaf (B (t == y)) rfl ⟨rfl,_,rfl,?_⟩
      rw [beq_iff_eq]
      exact ⟨fun e => ⟨h0,hst,by rw [ht]; exact e⟩,fun h => by rw [← ht]; exact h.2.2⟩
    · have d2 : decide ((l.length : Int) > 0) = false := decide_eq_false (by omega)
      simp only [w29L0,w29T3,d1,decide_false,d2,go_sem,Nat.reduceEqDiff,Nat.reduceAdd,Nat.reduceLT,Nat.reduceLeDiff,reduceIte,reduceCtorEq]
      exact leaf (B false) rfl ⟨rfl,false,rfl,fun h => (by cases h),fun h => absurd h.1 h0⟩
  have d1 : (i : Int) < l.length := by omega
  have gi := mS_getD hil
  have ms := mem_getD hil
  have hbad : ¬ stepOk2 a x l i → ∃ b,B false = B b ∧ (b = true ↔ WayOk2 a x y l) := fun hn => ⟨false,rfl,fun h => (by cases h),fun h => absurd (h.2.1 i hil) hn⟩
  have hgood : stepOk2 a x l i → ∀ k,k < i + 1 → stepOk2 a x l k := fun h k hk => by
    by_cases hki : k < i
    · exact hst k hki
    · obtain rfl : k = i := by omega
      exact h
  unfold stepOk2 at hbad
  have hgood' : ∀ h : stepOk2 a x l i,∀ k,k < i + 1 → stepOk2 a x l k := hgood
  obtain ⟨s,hs⟩ : ∃ s,l.getD i [] = s := ⟨_,rfl⟩
  have hso : stepOk2 a x l i = ((s.length = (a.getD 0 []).length) ∧ Sp.numbers s 0 1000000 = true ∧ (i = 0 → s = x) ∧ (0 < i → plusV (-1) s (l.getD (i - 1) []) ∈ Sp.basL a)) := by unfold stepOk2; rw [hs]
  rw [hs] at gi ms hbad
  rw [hso] at hgood
  have sln := hls s ms
  have ei : IntKind.i64.wrap ((i : Int) + 1) = ((i + 1 : Nat) : Int) := by rw [wrap64 (by omega) (by omega)]; omega
  by_cases hsn : s.length = x.length
  rotate_left
  · have nb : ((s.length : Int) != (x.length : Int)) = true := by rw [bne_iff_ne]; omega
    simp only [w29L0,w29T1,d1,decide_true,gi,nb,go_sem,Nat.reduceEqDiff,Nat.reduceAdd,Nat.reduceLT,Nat.reduceLeDiff,reduceIte,reduceCtorEq]
    exact leaf (B false) rfl ⟨rfl,hbad fun h => hsn (by rw [h.1,xl])⟩
  have nb : ((s.length : Int) != (x.length : Int)) = false := by rw [hsn]; exact bne_self_eq_false _
  simp only [w29L0,w29T1,d1,decide_true,gi,nb,go_sem,Nat.reduceEqDiff,Nat.reduceAdd,Nat.reduceLT,Nat.reduceLeDiff,reduceIte,reduceCtorEq]
  refine CallK.pure (liftV (s24 false false s 0 1000000 sln) (by simp [bndL,AVal.bnd,mI_bnd]) rfl _) ?_
  cases hsb : Sp.numbers s 0 1000000 with
  | false =>
    simp only [go_sem,Nat.reduceEqDiff,Nat.reduceAdd,Nat.reduceLT,Nat.reduceLeDiff,reduceIte,reduceCtorEq]
    exact leaf (B false) rfl ⟨rfl,hbad fun h => by rw [hsb] at h; cases h.2.1⟩
  | true =>
  by_cases hi0 : i = 0
  · subst hi0
    have z0 : (((0 : Nat) : Int) == 0) = true := rfl
    have z1 : decide (((0 : Nat) : Int) > 0) = false := rfl
    simp only [z0,go_sem,Nat.reduceEqDiff,Nat.reduceAdd,Nat.reduceLT,Nat.reduceLeDiff,reduceIte,reduceCtorEq]
    refine CallK.pure (liftV (s75 false false false false s x hsn sln) (by simp [bndL,AVal.bnd,mI_bnd]) rfl _) ?_
    cases hsx : (s == x) with
    | false =>
      simp only [go_sem,Nat.reduceEqDiff,Nat.reduceAdd,Nat.reduceLT,Nat.reduceLeDiff,reduceIte,reduceCtorEq]
      exact leaf (B false) rfl ⟨rfl,hbad fun h => by rw [beq_eq_false_iff_ne] at hsx; exact hsx (h.2.2.1 rfl)⟩
    | true =>
      simp only [z1,w29T2,ei,go_sem,Nat.reduceEqDiff,Nat.reduceAdd,Nat.reduceLT,Nat.reduceLeDiff,reduceIte,reduceCtorEq]
      exact round0 rfl ⟨0 + 1,hil,hgood ⟨by rw [hsn,xl],hsb,fun _ => eq_of_beq hsx,fun h => absurd h (Nat.lt_irrefl 0)⟩⟩ (by dsimp only; omega) rfl (by simp [fle,vle,Fr.get,mS_bnd,mI_bnd])
  · have z0 : ((i : Int) == 0) = false := by rw [beq_eq_false_iff_ne]; omega
    have z1 : decide ((i : Int) > 0) = true := decide_eq_true (by omega)
    have hp : i - 1 < l.length := by omega
    have gp := mS_getD hp
    have hpo := hst (i - 1) (by omega)
    obtain ⟨p1,p2,-,-⟩ := hpo
    obtain ⟨p,hpp⟩ : ∃ p,l.getD (i - 1) [] = p := ⟨_,rfl⟩
    rw [hpp] at gp p1 p2 hbad hgood
    have e1 : IntKind.i64.wrap ((i : Int) - 1) = ((i - 1 : Nat) : Int) := by rw [wrap64 (by omega) (by omega)]; omega
    have c3 : ((i - 1 : Nat) : Int) < l.length := by omega
    have bs' : Sp.inB 1000000 s := fun z hz => by have := numbers_mem hsb z hz; omega
    have bp : Sp.inB 1000000 p := fun z hz => by have := numbers_mem p2 z hz; omega
    have h77 := s77 s p x.length (by omega) (by omega) hsn (by omega) bs' bp
    obtain ⟨D,hD⟩ : ∃ D,plusV (-1) s p = D := ⟨_,rfl⟩
    have Dl : D.length = x.length := by rw [← hD]; unfold plusV; rw [List.length_zipWith]; omega
    rw [hD] at h77 hbad hgood
    simp only [z0,z1,e1,gp,c3,go_sem,Nat.reduceEqDiff,Nat.reduceAdd,Nat.reduceLT,Nat.reduceLeDiff,reduceIte,reduceCtorEq]
    refine CallK.pure (liftV h77 (by simp [bndL,AVal.bnd,mI_bnd]) (by simp [AVal.bnd,mI_bnd]) _) ?_
    simp only [go_sem,Nat.reduceEqDiff,Nat.reduceAdd,Nat.reduceLT,Nat.reduceLeDiff,reduceIte,reduceCtorEq]
    refine CallK.pure (liftV (s76 L D (by omega) (by omega)) (by simp [bndL,AVal.bnd,mI_bnd,mS_bnd]) rfl _) ?_
    cases hin : L.contains D with
    | false =>
      simp only [go_sem,Nat.reduceEqDiff,Nat.reduceAdd,Nat.reduceLT,Nat.reduceLeDiff,reduceIte,reduceCtorEq]
      exact leaf (B false) rfl ⟨rfl,hbad fun h => by
        have := h.2.2.2 (by omega)
        rw [hL] at this
        rw [List.contains_iff_mem.2 this] at hin; cases hin⟩
    | true =>
      simp only [w29T2,ei,go_sem,Nat.reduceEqDiff,Nat.reduceAdd,Nat.reduceLT,Nat.reduceLeDiff,reduceIte,reduceCtorEq]
      exact round0 rfl ⟨i + 1,hil,hgood ⟨by rw [hsn,xl],hsb,fun h => absurd h hi0,fun _ => by rw [hL]; exact List.contains_iff_mem.1 hin⟩⟩ (by dsimp only; omega) rfl (by simp [fle,vle,Fr.get,mS_bnd,mI_bnd])
end Go.Proofs.Ytipfjfmdjmaflaa
